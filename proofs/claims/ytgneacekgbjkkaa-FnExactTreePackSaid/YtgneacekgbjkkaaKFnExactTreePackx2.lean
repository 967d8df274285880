/- What the Go functions that FnExactTreePack reaches compute, and that their walks come to just that (written by a program of this project over the kit's print). Conditions: as each states. -/
import Derived.RegionTactic
import Derived.Deep.CutRange
import Derived.BigQuiet
import Derived.StillTailTactics
import Derived.Test.YtgneacekgbjkkaaKFnExactTreePackx1
set_option maxHeartbeats 64000000
set_option maxRecDepth 100000
namespace Go.Proofs.Ytgneacekgbjkkaa.X
open Go.RowKit Go.Proofs.YtgneacekgbjkkaaW.PrintWords Go.Proofs.YtgneacekgbjkkaaW.PrintLast Go.Proofs.YtgneacekgbjkkaaW.PrintMore
attribute [local go_sem] max2_int min2_int max_two min_two max_three min_three max_four min_four
set_option linter.unusedVariables false
set_option linter.unusedSimpArgs false
def spec_l1Put.l0 : Nat → List Int → List Int → Int → Option (List Int)
 | 0, _, _, _ => none
 | k + 1, x0, x3, x4 => if x4 < (x0.length : Int) then (if 0 ≤ x4 then ((spec_PointPut.f (rd x0 x4)).bind fun t105 => (if x3.length + t105.length < 140737488355328 then (spec_l1Put.l0 k x0 (x3 ++ t105) (wrap64 (x4 + 1))) else (none))) else (none)) else (some x3)
def spec_l1Put.f (k : Nat) (l0 : List Int) : Option (List Int) := spec_l1Put.l0 k l0 (([] : List Int)) 0
theorem spec_l1Put.mono_l : ∀ k, (∀ y0 y1 y2, LeO (spec_l1Put.l0 k y0 y1 y2) (spec_l1Put.l0 (k + 1) y0 y1 y2))
 | 0 => fun _ _ _ r h => by simp [spec_l1Put.l0] at h
 | k + 1 => by
  have ih0 := spec_l1Put.mono_l k
  ·intro y0 y1 y2
   unfold spec_l1Put.l0
   repeat' (with_reducible first | exact ih0 _ _ _ | exact LeO.refl _ | exact LeO.none _ | refine LeO.ite ?_ ?_ | refine LeO.bind ?_ (fun _ => ?_))
theorem spec_l1Put.mono : ∀ a0 k, LeO (spec_l1Put.f k a0) (spec_l1Put.f (k + 1) a0) := by
 intro a0 k
 have ih0 := spec_l1Put.mono_l k
 unfold spec_l1Put.f
 repeat' (with_reducible first | exact ih0 _ _ _ | exact LeO.refl _ | exact LeO.none _ | refine LeO.ite ?_ ?_ | refine LeO.bind ?_ (fun _ => ?_))
theorem spec_l1Put.calls (k : Nat) (A0 : Option Addr) (c0 : Nat) (l0 : List Int) (r : List Int) (w : World) (hr0 : Kd.C (Kd.int .i64) w A0 l0.length l0) (hc0 : l0.length ≤ c0) (h : spec_l1Put.f k l0 = some r) :
 Calls Try.prog 137 #[.slice A0 l0.length c0] w fun e w' => ∃ v0_ : Value, e = .returned (v0_) ∧ Kd.R (Kd.int .u8) 5 w' w.heap.size (fun _ => True) v0_ r ∧ Below w.heap.size w w' := by
 have HR0 := Ak hr0
 have HC0 := Ak hc0
 clear hr0 hc0
 have HB := Ak (Below.refl w.heap.size w)
 have H : (spec_l1Put.l0 k l0 (([] : List Int)) 0) = some r := h
 clear h
 obtain ⟨y101, hy101⟩ : ∃ y_ : List Int, y_ = (([] : List Int)) := ⟨_, rfl⟩
 replace H : (spec_l1Put.l0 k l0 y101 0) = some r := by rw [hy101]; exact H
 have Ny101 := Ak hy101
 clear hy101
 have H' := Ak H
 clear H
 go_enter Try.func137, Try.ntmps137
 go_wp2_with (first | ((with_reducible refine gate_dst (N := 5) rfl ?_); refine Kd.R_lit (Kd.int .u8) _ 5 ?hg (N := 5) ?hd (xs := ([] : List Int)) (inner := []) (ok := fun _ => True) (okp := fun _ => True) ?hr ?hp (fun _ hk => hk) trivial (Below.refl _ _) (Nat.le_refl _) (by simp) ?_; (case hd => rfl); (case hg => rfl); (case hr => first | (go_simp; done) | (go_simp; rfl)); (case hp => exact (Reps.none _ _)); intro v102 w2 ho3 hb hg_ hnew_; clear hg_ hnew_; (first | rw [← Ny101.out] at ho3 | (simp only [Int.reduceToNat] at ho3; rw [← Ny101.out] at ho3)); have n0_ := Ak (Kd.R_lower ho3 (below_size (HB.out))); have n1_ := Ak (below_step (HB.out) hb); clear HB; have HO103 := n0_; have HB := n1_; clear n0_ n1_; clear hb ho3))
 go_loopg [3, 4] k (fun kq v3 v4 w' => ∃ (x3_1 : List Int) (x4_1 : Int), v4 = .int .i64 x4_1 ∧ Aside0 (spec_l1Put.l0 kq l0 x3_1 x4_1 = some r) ∧ Aside0 (kq ≤ k) ∧ Aside0 (Kd.R (Kd.int .u8) 5 w' w.heap.size (fun _ => True) v3 x3_1) ∧ Aside0 (Below w.heap.size w w'))
 case atStart => exact ⟨(y101), (0), rfl, H', ⟨Nat.le_refl _⟩, ⟨by (with_reducible repeat (first | apply Kd.R_alloc | apply Kd.R_drewN | apply Kd.R_drew)); exact HO103.out⟩, ⟨HB.out⟩⟩
 case round =>
  clear H'
  try clear c1
  try clear p2
  obtain ⟨x3_1, x4_1, rfl, HA, HK1, HO_3, HB⟩ := hrel
  cases gk with
  | zero => exact absurd HA.out (by simp [spec_l1Put.l0])
  | succ k1 =>
   have H := HA.out
   clear HA
   simp only [spec_l1Put.l0] at H
   by_cases c4 : x4_1 < (l0.length : Int)
   ·rw [if_pos c4] at H
    have c4b0 := decide_eq_true c4
    clear c4
    by_cases c5 : 0 ≤ x4_1
    ·rw [if_pos c5] at H
     have c5b0 := decide_eq_true c5
     clear c5
     replace H := Ob H
     obtain ⟨t105, A60, H⟩ := H
     replace H : (if x3_1.length + t105.length < 140737488355328 then (spec_l1Put.l0 k1 l0 (x3_1 ++ t105) (wrap64 (x4_1 + 1))) else (none)) = some r := H
     have A6 := Ak A60
     clear A60
     by_cases c7 : x3_1.length + t105.length < 140737488355328
     ·rw [if_pos c7] at H
      have LMc7 := Ak c7
      clear c7
      obtain ⟨y108, hy108⟩ : ∃ y_ : List Int, y_ = (x3_1 ++ t105) := ⟨_, rfl⟩
      replace H : (spec_l1Put.l0 k1 l0 y108 (wrap64 (x4_1 + 1))) = some r := by rw [hy108]; exact H
      have Ny108 := Ak hy108
      clear hy108
      have H' := Ak H
      clear H
      have p104 : 0 ≤ (x4_1 : Int) := of_decide_eq_true (by assumption)
      have q104 : x4_1 < (l0.length : Int) := of_decide_eq_true (by assumption)
      obtain ⟨ad104, e104, hx104_0⟩ := Kd.at_int HR0.out x4_1 p104 q104
      cases e104
      replace hx104_0 := pw_cell_below HB.out hx104_0
      replace p104 := eq_true p104
      replace q104 := eq_true q104
      go_wp2_with (first | (go_at_call 143; (with_reducible refine (spec_PointPut.calls (rd l0 x4_1) t105 _ A6.out).mono ?_); rintro e w8 ⟨v106, rfl, ho0, hb⟩; have n0_ := Ak (Kd.R_elder' HO_3.out (Kd.R_base ho0) hb); have n1_ := Ak (Kd.R_lower (Kd.R_new' ho0 (Kd.R_lt HO_3.out)) (below_size (HB.out))); have n2_ := Ak (below_step (HB.out) hb); clear HO_3; clear HB; have HO_3 := n0_; have HO107 := n1_; have HB := n2_; clear n0_ n1_ n2_; (try clear hb); (try clear hb2); (try clear hk); (try clear hi); (try clear ho0); obtain ⟨Ao10, co10, eo10⟩ := Kd.R_slice HO107.out; subst eo10) | ((with_reducible refine gate_builtin (b := .append) (xs := #[.tmp 12, .tmp 17]) rfl ?_); at_builtin; refine Kd.R_append_rows (Kd.int .u8) (w0 := w) w.heap.size rfl (.tmp 12) (.tmp 17) 52 5 (.int .u8 0) 1 rfl Try.underlying52 info5 rfl (by decide) (by omega) u3 x3_1 t105 _ _ _ (fun k_ => some k_ ≠ (.slice Ao10 t105.length co10 : Value).ownBlock) (fun _ => False) rfl rfl ?aO ?aR (fun _ _ h => h) (fun _ h => h.elim) ?aF ?aB ?aS ?aL ?_; (case aR => repeat (first | exact (Kd.R_reads' HO107.out).2.2 | (with_reducible refine Kd.C_alloc ?_ _) | (with_reducible refine Kd.C_drewN ?_ _) | (with_reducible refine Kd.C_drew ?_))); (case aB => exact (HB.out)); (case aF => exact (fun k_ hk => Kd.fresh' (Kd.R_lt HO107.out) k_ hk)); (case aO => exact (by (with_reducible repeat (first | apply Kd.R_alloc | apply Kd.R_drewN | apply Kd.R_drew)); exact Kd.R_mono HO_3.out (fun _ hk => hk.2))); (case aS => exact (below_size (HB.out))); (case aL => have := LMc7.out; omega); intro v109 w9 ho hb hg hat; rw [← Ny108.out] at ho; have n0_ := Ak (Kd.R_after (ok := (fun _ => True)) HO107.out hg hat); have n1_ := Ak (hb); have n2_ := Ak (ho); clear HO107; clear HB; clear HO_3; have HO107 := n0_; have HB := n1_; have HO110 := n2_; clear n0_ n1_ n2_; clear ho hb hg hat))
      go_roundg k1
      case measure => have := HK1.out; omega
      case rel => exact ⟨(y108), (wrap64 (x4_1 + 1)), rfl, H', ⟨by have := HK1.out; omega⟩, ⟨by (with_reducible repeat (first | apply Kd.R_alloc | apply Kd.R_drewN | apply Kd.R_drew)); exact Kd.R_mono HO110.out (fun _ hk => trivial)⟩, ⟨HB.out⟩⟩
     ·rw [if_neg c7] at H
      exact absurd H (by simp)
    ·rw [if_neg c5] at H
     exact absurd H (by simp)
   ·rw [if_neg c4] at H
    have c4b0 := decide_eq_false c4
    clear c4
    obtain rfl := Oi H
    go_wp2
    go_ret
    exact ⟨_, rfl, by (with_reducible repeat (first | apply Kd.R_alloc | apply Kd.R_drewN | apply Kd.R_drew)); exact HO_3.out, HB.out⟩
def spec_PointsPut.f (k : Nat) (l0 : List Int) : Option (List Int) := if (l0.length : Int) > 3000 then (some (([] : List Int))) else ((spec_l1Put.f k l0).bind fun t104 => (some t104))
theorem spec_PointsPut.mono : ∀ a0 k, LeO (spec_PointsPut.f k a0) (spec_PointsPut.f (k + 1) a0) := by
 intro a0 k
 unfold spec_PointsPut.f
 repeat' (with_reducible first | exact spec_l1Put.mono _ _ | exact LeO.refl _ | exact LeO.none _ | refine LeO.ite ?_ ?_ | refine LeO.bind ?_ (fun _ => ?_))
theorem spec_PointsPut.calls (k : Nat) (A0 : Option Addr) (c0 : Nat) (l0 : List Int) (r : List Int) (w : World) (hr0 : Kd.C (Kd.int .i64) w A0 l0.length l0) (hc0 : l0.length ≤ c0) (h : spec_PointsPut.f k l0 = some r) :
 Calls Try.prog 124 #[.slice A0 l0.length c0] w fun e w' => ∃ v0_ : Value, e = .returned (v0_) ∧ Kd.R (Kd.int .u8) 5 w' w.heap.size (fun _ => True) v0_ r ∧ Below w.heap.size w w' := by
 have HR0 := Ak hr0
 have HC0 := Ak hc0
 clear hr0 hc0
 have HB := Ak (Below.refl w.heap.size w)
 have H : (if (l0.length : Int) > 3000 then (some (([] : List Int))) else ((spec_l1Put.f k l0).bind fun t104 => (some t104))) = some r := h
 clear h
 by_cases c2 : (l0.length : Int) > 3000
 ·rw [if_pos c2] at H
  have c2b0 : decide (3000 < (l0.length : Int)) = true := decide_eq_true c2
  have c2b1 : decide (3000 < l0.length) = true := decide_eq_true (by omega)
  clear c2
  obtain ⟨y101, hy101⟩ : ∃ y_ : List Int, y_ = (([] : List Int)) := ⟨_, rfl⟩
  replace H : (some y101) = some r := by rw [hy101]; exact H
  have Ny101 := Ak hy101
  clear hy101
  obtain rfl := Oi H
  go_enter Try.func124, Try.ntmps124
  go_wp2_with (first | ((with_reducible refine gate_dst (N := 6) rfl ?_); refine Kd.R_lit (Kd.int .u8) _ 5 ?hg (N := 6) ?hd (xs := ([] : List Int)) (inner := []) (ok := fun _ => True) (okp := fun _ => True) ?hr ?hp (fun _ hk => hk) trivial (Below.refl _ _) (Nat.le_refl _) (by simp) ?_; (case hd => rfl); (case hg => rfl); (case hr => first | (go_simp; done) | (go_simp; rfl)); (case hp => exact (Reps.none _ _)); intro v102 w3 ho4 hb hg_ hnew_; clear hg_ hnew_; (first | rw [← Ny101.out] at ho4 | (simp only [Int.reduceToNat] at ho4; rw [← Ny101.out] at ho4)); replace HO103 := Ak (Kd.R_lower ho4 (below_size (HB.out))); replace HB := Ak (below_step (HB.out) hb); clear hb ho4))
  go_ret
  exact ⟨_, rfl, by (with_reducible repeat (first | apply Kd.R_alloc | apply Kd.R_drewN | apply Kd.R_drew)); exact HO103.out, HB.out⟩
 ·rw [if_neg c2] at H
  have c2b0 : decide (3000 < (l0.length : Int)) = false := decide_eq_false c2
  have c2b1 : decide (3000 < l0.length) = false := decide_eq_false (by omega)
  clear c2
  replace H := Ob H
  obtain ⟨t104, A50, H⟩ := H
  replace H : (some t104) = some r := H
  have A5 := Ak A50
  clear A50
  obtain rfl := Oi H
  go_enter Try.func124, Try.ntmps124
  go_wp2_with (first | (go_at_call 137; (with_reducible refine (spec_l1Put.calls k _ _ l0 t104 _ ?side1 ?side2 A5.out).mono ?_); (case side1 => repeat (first | exact HR0.out | (with_reducible refine Kd.C_alloc ?_ _) | (with_reducible refine Kd.C_drewN ?_ _) | (with_reducible refine Kd.C_drew ?_))); (case side2 => exact HC0.out); rintro e w6 ⟨v105, rfl, ho0, hb⟩; replace HO106 := Ak (Kd.R_lower ho0 (below_size (HB.out))); replace HB := Ak (below_step (HB.out) hb); (try clear hb); (try clear hb2); (try clear hk); (try clear hi); (try clear ho0)))
  go_ret
  exact ⟨_, rfl, by (with_reducible repeat (first | apply Kd.R_alloc | apply Kd.R_drewN | apply Kd.R_drew)); exact HO106.out, HB.out⟩
def spec_l1Forms.f (a0 : Int) : Option (Int) := if a0 < 128 then (some 1) else ((spec_l1In.f a0 194 223).bind fun t101 => (if t101 = true then (some 2) else ((spec_l1In.f a0 224 239).bind fun t102 => (if t102 = true then (some 3) else ((spec_l1In.f a0 240 244).bind fun t103 => (if t103 = true then (some 4) else (some 0)))))))
theorem spec_l1Forms.calls (a0 : Int) (r : Int) (w : World) (h : spec_l1Forms.f a0 = some r) :
 Calls Try.prog 144 #[.int .i64 a0] w fun e w' => e = .returned (.int .i64 r) ∧ Drawn0 w w' := by
 have H : (if a0 < 128 then (some 1) else ((spec_l1In.f a0 194 223).bind fun t101 => (if t101 = true then (some 2) else ((spec_l1In.f a0 224 239).bind fun t102 => (if t102 = true then (some 3) else ((spec_l1In.f a0 240 244).bind fun t103 => (if t103 = true then (some 4) else (some 0)))))))) = some r := h
 clear h
 by_cases c2 : a0 < 128
 ·rw [if_pos c2] at H
  have c2b0 := decide_eq_true c2
  clear c2
  obtain rfl := Oi H
  go_enter Try.func144, Try.ntmps144
  go_wp2
  go_ret
  exact ⟨rfl, by repeat (first | exact Drawn0.refl _ | apply Drawn0.step)⟩
 ·rw [if_neg c2] at H
  have c2b0 := decide_eq_false c2
  clear c2
  replace H := Ob H
  obtain ⟨t101, A30, H⟩ := H
  replace H : (if t101 = true then (some 2) else ((spec_l1In.f a0 224 239).bind fun t102 => (if t102 = true then (some 3) else ((spec_l1In.f a0 240 244).bind fun t103 => (if t103 = true then (some 4) else (some 0)))))) = some r := H
  have A3 := Ak A30
  clear A30
  by_cases c4 : t101 = true
  ·subst c4
   rw [if_pos rfl] at H
   obtain rfl := Oi H
   go_enter Try.func144, Try.ntmps144
   go_wp2_with (first | (go_at_call 37; (with_reducible refine (spec_l1In.calls a0 194 223 true _ A3.out).mono ?_); rintro e w' ⟨rfl, ⟨nd, rfl⟩⟩))
   go_ret
   exact ⟨rfl, by repeat (first | exact Drawn0.refl _ | apply Drawn0.step)⟩
  ·replace c4 := Bool.eq_false_iff.mpr c4
   subst c4
   rw [if_neg (show ¬ (false = true) by decide)] at H
   replace H := Ob H
   obtain ⟨t102, A50, H⟩ := H
   replace H : (if t102 = true then (some 3) else ((spec_l1In.f a0 240 244).bind fun t103 => (if t103 = true then (some 4) else (some 0)))) = some r := H
   have A5 := Ak A50
   clear A50
   by_cases c6 : t102 = true
   ·subst c6
    rw [if_pos rfl] at H
    obtain rfl := Oi H
    go_enter Try.func144, Try.ntmps144
    go_wp2_with (first | (go_at_call 37; (with_reducible refine (spec_l1In.calls a0 194 223 false _ A3.out).mono ?_); rintro e w' ⟨rfl, ⟨nd, rfl⟩⟩) | (go_at_call 37; (with_reducible refine (spec_l1In.calls a0 224 239 true _ A5.out).mono ?_); rintro e w' ⟨rfl, ⟨nd, rfl⟩⟩))
    go_ret
    exact ⟨rfl, by repeat (first | exact Drawn0.refl _ | apply Drawn0.step)⟩
   ·replace c6 := Bool.eq_false_iff.mpr c6
    subst c6
    rw [if_neg (show ¬ (false = true) by decide)] at H
    replace H := Ob H
    obtain ⟨t103, A70, H⟩ := H
    replace H : (if t103 = true then (some 4) else (some 0)) = some r := H
    have A7 := Ak A70
    clear A70
    by_cases c8 : t103 = true
    ·subst c8
     rw [if_pos rfl] at H
     obtain rfl := Oi H
     go_enter Try.func144, Try.ntmps144
     go_wp2_with (first | (go_at_call 37; (with_reducible refine (spec_l1In.calls a0 194 223 false _ A3.out).mono ?_); rintro e w' ⟨rfl, ⟨nd, rfl⟩⟩) | (go_at_call 37; (with_reducible refine (spec_l1In.calls a0 224 239 false _ A5.out).mono ?_); rintro e w' ⟨rfl, ⟨nd, rfl⟩⟩) | (go_at_call 37; (with_reducible refine (spec_l1In.calls a0 240 244 true _ A7.out).mono ?_); rintro e w' ⟨rfl, ⟨nd, rfl⟩⟩))
     go_ret
     exact ⟨rfl, by repeat (first | exact Drawn0.refl _ | apply Drawn0.step)⟩
    ·replace c8 := Bool.eq_false_iff.mpr c8
     subst c8
     rw [if_neg (show ¬ (false = true) by decide)] at H
     obtain rfl := Oi H
     go_enter Try.func144, Try.ntmps144
     go_wp2_with (first | (go_at_call 37; (with_reducible refine (spec_l1In.calls a0 194 223 false _ A3.out).mono ?_); rintro e w' ⟨rfl, ⟨nd, rfl⟩⟩) | (go_at_call 37; (with_reducible refine (spec_l1In.calls a0 224 239 false _ A5.out).mono ?_); rintro e w' ⟨rfl, ⟨nd, rfl⟩⟩) | (go_at_call 37; (with_reducible refine (spec_l1In.calls a0 240 244 false _ A7.out).mono ?_); rintro e w' ⟨rfl, ⟨nd, rfl⟩⟩))
     go_ret
     exact ⟨rfl, by repeat (first | exact Drawn0.refl _ | apply Drawn0.step)⟩
def spec_l1Fits.f (a0 : Int) (a1 : Int) (a2 : Int) : Option (Bool) := if a1 = 1 then (if a0 = 224 then ((spec_l1In.f a2 160 191).bind fun t101 => (some t101)) else (if a0 = 237 then ((spec_l1In.f a2 128 159).bind fun t102 => (some t102)) else (if a0 = 240 then ((spec_l1In.f a2 144 191).bind fun t103 => (some t103)) else (if a0 = 244 then ((spec_l1In.f a2 128 143).bind fun t104 => (some t104)) else ((spec_l1In.f a2 128 191).bind fun t105 => (some t105)))))) else ((spec_l1In.f a2 128 191).bind fun t106 => (some t106))
theorem spec_l1Fits.calls (a0 : Int) (a1 : Int) (a2 : Int) (r : Bool) (w : World) (h : spec_l1Fits.f a0 a1 a2 = some r) :
 Calls Try.prog 145 #[.int .i64 a0, .int .i64 a1, .int .i64 a2] w fun e w' => e = .returned (.bool r) ∧ Drawn0 w w' := by
 have H : (if a1 = 1 then (if a0 = 224 then ((spec_l1In.f a2 160 191).bind fun t101 => (some t101)) else (if a0 = 237 then ((spec_l1In.f a2 128 159).bind fun t102 => (some t102)) else (if a0 = 240 then ((spec_l1In.f a2 144 191).bind fun t103 => (some t103)) else (if a0 = 244 then ((spec_l1In.f a2 128 143).bind fun t104 => (some t104)) else ((spec_l1In.f a2 128 191).bind fun t105 => (some t105)))))) else ((spec_l1In.f a2 128 191).bind fun t106 => (some t106))) = some r := h
 clear h
 by_cases c4 : a1 = 1
 ·rw [if_pos c4] at H
  have c4b0 := beq_iff_eq.mpr c4
  have c4b1 := bne_eq_false_iff_eq.mpr c4
  clear c4
  by_cases c5 : a0 = 224
  ·rw [if_pos c5] at H
   have c5b0 := beq_iff_eq.mpr c5
   have c5b1 := bne_eq_false_iff_eq.mpr c5
   clear c5
   replace H := Ob H
   obtain ⟨t101, A60, H⟩ := H
   replace H : (some t101) = some r := H
   have A6 := Ak A60
   clear A60
   obtain rfl := Oi H
   go_enter Try.func145, Try.ntmps145
   go_wp2_with (first | (go_at_call 37; (with_reducible refine (spec_l1In.calls a2 160 191 t101 _ A6.out).mono ?_); rintro e w' ⟨rfl, ⟨nd, rfl⟩⟩))
   go_ret
   exact ⟨rfl, by repeat (first | exact Drawn0.refl _ | apply Drawn0.step)⟩
  ·rw [if_neg c5] at H
   have c5b0 := beq_eq_false_iff_ne.mpr c5
   have c5b1 := bne_iff_ne.mpr c5
   by_cases c7 : a0 = 237
   ·rw [if_pos c7] at H
    have c7b0 := beq_iff_eq.mpr c7
    have c7b1 := bne_eq_false_iff_eq.mpr c7
    clear c7
    replace H := Ob H
    obtain ⟨t102, A80, H⟩ := H
    replace H : (some t102) = some r := H
    have A8 := Ak A80
    clear A80
    obtain rfl := Oi H
    go_enter Try.func145, Try.ntmps145
    go_wp2_with (first | (go_at_call 37; (with_reducible refine (spec_l1In.calls a2 128 159 t102 _ A8.out).mono ?_); rintro e w' ⟨rfl, ⟨nd, rfl⟩⟩))
    go_ret
    exact ⟨rfl, by repeat (first | exact Drawn0.refl _ | apply Drawn0.step)⟩
   ·rw [if_neg c7] at H
    have c7b0 := beq_eq_false_iff_ne.mpr c7
    have c7b1 := bne_iff_ne.mpr c7
    by_cases c9 : a0 = 240
    ·rw [if_pos c9] at H
     have c9b0 := beq_iff_eq.mpr c9
     have c9b1 := bne_eq_false_iff_eq.mpr c9
     clear c9
     replace H := Ob H
     obtain ⟨t103, A100, H⟩ := H
     replace H : (some t103) = some r := H
     have A10 := Ak A100
     clear A100
     obtain rfl := Oi H
     go_enter Try.func145, Try.ntmps145
     go_wp2_with (first | (go_at_call 37; (with_reducible refine (spec_l1In.calls a2 144 191 t103 _ A10.out).mono ?_); rintro e w' ⟨rfl, ⟨nd, rfl⟩⟩))
     go_ret
     exact ⟨rfl, by repeat (first | exact Drawn0.refl _ | apply Drawn0.step)⟩
    ·rw [if_neg c9] at H
     have c9b0 := beq_eq_false_iff_ne.mpr c9
     have c9b1 := bne_iff_ne.mpr c9
     by_cases c11 : a0 = 244
     ·rw [if_pos c11] at H
      have c11b0 := beq_iff_eq.mpr c11
      have c11b1 := bne_eq_false_iff_eq.mpr c11
      clear c11
      replace H := Ob H
      obtain ⟨t104, A120, H⟩ := H
      replace H : (some t104) = some r := H
      have A12 := Ak A120
      clear A120
      obtain rfl := Oi H
      go_enter Try.func145, Try.ntmps145
      go_wp2_with (first | (go_at_call 37; (with_reducible refine (spec_l1In.calls a2 128 143 t104 _ A12.out).mono ?_); rintro e w' ⟨rfl, ⟨nd, rfl⟩⟩))
      go_ret
      exact ⟨rfl, by repeat (first | exact Drawn0.refl _ | apply Drawn0.step)⟩
     ·rw [if_neg c11] at H
      have c11b0 := beq_eq_false_iff_ne.mpr c11
      have c11b1 := bne_iff_ne.mpr c11
      replace H := Ob H
      obtain ⟨t105, A130, H⟩ := H
      replace H : (some t105) = some r := H
      have A13 := Ak A130
      clear A130
      obtain rfl := Oi H
      go_enter Try.func145, Try.ntmps145
      go_wp2_with (first | (go_at_call 37; (with_reducible refine (spec_l1In.calls a2 128 191 t105 _ A13.out).mono ?_); rintro e w' ⟨rfl, ⟨nd, rfl⟩⟩))
      go_ret
      exact ⟨rfl, by repeat (first | exact Drawn0.refl _ | apply Drawn0.step)⟩
 ·rw [if_neg c4] at H
  have c4b0 := beq_eq_false_iff_ne.mpr c4
  have c4b1 := bne_iff_ne.mpr c4
  replace H := Ob H
  obtain ⟨t106, A140, H⟩ := H
  replace H : (some t106) = some r := H
  have A14 := Ak A140
  clear A140
  obtain rfl := Oi H
  go_enter Try.func145, Try.ntmps145
  go_wp2_with (first | (go_at_call 37; (with_reducible refine (spec_l1In.calls a2 128 191 t106 _ A14.out).mono ?_); rintro e w' ⟨rfl, ⟨nd, rfl⟩⟩))
  go_ret
  exact ⟨rfl, by repeat (first | exact Drawn0.refl _ | apply Drawn0.step)⟩
mutual
def spec_l1Read.l0 : Nat → List Int → List Int → Int → Option (List Int)
 | 0, _, _, _ => none
 | k + 1, x0, x3, x4 => if x4 < (x0.length : Int) then (if 0 ≤ x4 then ((spec_l1Forms.f (wrap64 (rd x0 x4))).bind fun t105 => (spec_l1Read.l1 k x0 x3 x4 (wrap64 (rd x0 x4)) t105 1)) else (none)) else (some x3)
def spec_l1Read.j2 : Nat → List Int → List Int → Int → Int → Int → Int → Option (List Int)
 | 0, _, _, _, _, _, _ => none
 | k + 1, x0, x3, x4, x5, x6, x7 => if x6 = 0 then (spec_l1Read.j3 k x0 x3 x4 x5 x6 x7 true) else (spec_l1Read.j3 k x0 x3 x4 x5 x6 x7 (decide (x7 < x6)))
def spec_l1Read.j3 : Nat → List Int → List Int → Int → Int → Int → Int → Bool → Option (List Int)
 | 0, _, _, _, _, _, _, _ => none
 | k + 1, x0, x3, x4, x5, x6, x7, x53 => if x53 = true then (if x3.length < 17592186044416 then (spec_l1Read.l0 k x0 (x3 ++ [65533]) (wrap64 (x4 + x7))) else (none)) else (if x6 = 2 then (spec_l1Read.j4 k x0 x3 x4 x6 (wrap64 (x5 - 192))) else (if x6 = 3 then (spec_l1Read.j4 k x0 x3 x4 x6 (wrap64 (x5 - 224))) else (if x6 = 4 then (spec_l1Read.j4 k x0 x3 x4 x6 (wrap64 (x5 - 240))) else (spec_l1Read.j4 k x0 x3 x4 x6 x5))))
def spec_l1Read.j4 : Nat → List Int → List Int → Int → Int → Int → Option (List Int)
 | 0, _, _, _, _, _ => none
 | k + 1, x0, x3, x4, x6, x8 => spec_l1Read.l2 k x0 x3 x4 x6 x8 1
def spec_l1Read.l2 : Nat → List Int → List Int → Int → Int → Int → Int → Option (List Int)
 | 0, _, _, _, _, _, _ => none
 | k + 1, x0, x3, x4, x6, x8, x9 => if x9 < x6 then (if 0 ≤ (wrap64 (x4 + x9)) then (if (wrap64 (x4 + x9)) < (x0.length : Int) then (spec_l1Read.l2 k x0 x3 x4 x6 (wrap64 ((wrap64 ((wrap64 (64 * x8)) + (wrap64 (rd x0 (wrap64 (x4 + x9)))))) - 128)) (wrap64 (x9 + 1))) else (none)) else (none)) else (if x3.length < 17592186044416 then (spec_l1Read.l0 k x0 (x3 ++ [x8]) (wrap64 (x4 + x6))) else (none))
def spec_l1Read.l1 : Nat → List Int → List Int → Int → Int → Int → Int → Option (List Int)
 | 0, _, _, _, _, _, _ => none
 | k + 1, x0, x3, x4, x5, x6, x7 => if x7 < x6 then (if (wrap64 (x4 + x7)) < (x0.length : Int) then (if 0 ≤ (wrap64 (x4 + x7)) then ((spec_l1Fits.f x5 x7 (wrap64 (rd x0 (wrap64 (x4 + x7))))).bind fun t107 => (if t107 = true then (spec_l1Read.l1 k x0 x3 x4 x5 x6 (wrap64 (x7 + 1))) else (spec_l1Read.j2 k x0 x3 x4 x5 x6 x7))) else (none)) else (spec_l1Read.j2 k x0 x3 x4 x5 x6 x7)) else (spec_l1Read.j2 k x0 x3 x4 x5 x6 x7)
end
def spec_l1Read.f (k : Nat) (l0 : List Int) : Option (List Int) := spec_l1Read.l0 k l0 (([] : List Int)) 0
theorem spec_l1Read.mono_l : ∀ k, (∀ y0 y1 y2, LeO (spec_l1Read.l0 k y0 y1 y2) (spec_l1Read.l0 (k + 1) y0 y1 y2)) ∧ (∀ y0 y1 y2 y3 y4 y5, LeO (spec_l1Read.j2 k y0 y1 y2 y3 y4 y5) (spec_l1Read.j2 (k + 1) y0 y1 y2 y3 y4 y5)) ∧ (∀ y0 y1 y2 y3 y4 y5 y6, LeO (spec_l1Read.j3 k y0 y1 y2 y3 y4 y5 y6) (spec_l1Read.j3 (k + 1) y0 y1 y2 y3 y4 y5 y6)) ∧ (∀ y0 y1 y2 y3 y4, LeO (spec_l1Read.j4 k y0 y1 y2 y3 y4) (spec_l1Read.j4 (k + 1) y0 y1 y2 y3 y4)) ∧ (∀ y0 y1 y2 y3 y4 y5, LeO (spec_l1Read.l2 k y0 y1 y2 y3 y4 y5) (spec_l1Read.l2 (k + 1) y0 y1 y2 y3 y4 y5)) ∧ (∀ y0 y1 y2 y3 y4 y5, LeO (spec_l1Read.l1 k y0 y1 y2 y3 y4 y5) (spec_l1Read.l1 (k + 1) y0 y1 y2 y3 y4 y5))
 | 0 => ⟨fun _ _ _ r h => by simp [spec_l1Read.l0] at h, fun _ _ _ _ _ _ r h => by simp [spec_l1Read.j2] at h, fun _ _ _ _ _ _ _ r h => by simp [spec_l1Read.j3] at h, fun _ _ _ _ _ r h => by simp [spec_l1Read.j4] at h, fun _ _ _ _ _ _ r h => by simp [spec_l1Read.l2] at h, fun _ _ _ _ _ _ r h => by simp [spec_l1Read.l1] at h⟩
 | k + 1 => by
  obtain ⟨ih0, ih1, ih2, ih3, ih4, ih5⟩ := spec_l1Read.mono_l k
  refine ⟨?_, ?_, ?_, ?_, ?_, ?_⟩
  ·intro y0 y1 y2
   unfold spec_l1Read.l0
   repeat' (with_reducible first | exact ih0 _ _ _ | exact ih1 _ _ _ _ _ _ | exact ih2 _ _ _ _ _ _ _ | exact ih3 _ _ _ _ _ | exact ih4 _ _ _ _ _ _ | exact ih5 _ _ _ _ _ _ | exact LeO.refl _ | exact LeO.none _ | refine LeO.ite ?_ ?_ | refine LeO.bind ?_ (fun _ => ?_))
  ·intro y0 y1 y2 y3 y4 y5
   unfold spec_l1Read.j2
   repeat' (with_reducible first | exact ih0 _ _ _ | exact ih1 _ _ _ _ _ _ | exact ih2 _ _ _ _ _ _ _ | exact ih3 _ _ _ _ _ | exact ih4 _ _ _ _ _ _ | exact ih5 _ _ _ _ _ _ | exact LeO.refl _ | exact LeO.none _ | refine LeO.ite ?_ ?_ | refine LeO.bind ?_ (fun _ => ?_))
  ·intro y0 y1 y2 y3 y4 y5 y6
   unfold spec_l1Read.j3
   repeat' (with_reducible first | exact ih0 _ _ _ | exact ih1 _ _ _ _ _ _ | exact ih2 _ _ _ _ _ _ _ | exact ih3 _ _ _ _ _ | exact ih4 _ _ _ _ _ _ | exact ih5 _ _ _ _ _ _ | exact LeO.refl _ | exact LeO.none _ | refine LeO.ite ?_ ?_ | refine LeO.bind ?_ (fun _ => ?_))
  ·intro y0 y1 y2 y3 y4
   unfold spec_l1Read.j4
   repeat' (with_reducible first | exact ih0 _ _ _ | exact ih1 _ _ _ _ _ _ | exact ih2 _ _ _ _ _ _ _ | exact ih3 _ _ _ _ _ | exact ih4 _ _ _ _ _ _ | exact ih5 _ _ _ _ _ _ | exact LeO.refl _ | exact LeO.none _ | refine LeO.ite ?_ ?_ | refine LeO.bind ?_ (fun _ => ?_))
  ·intro y0 y1 y2 y3 y4 y5
   unfold spec_l1Read.l2
   repeat' (with_reducible first | exact ih0 _ _ _ | exact ih1 _ _ _ _ _ _ | exact ih2 _ _ _ _ _ _ _ | exact ih3 _ _ _ _ _ | exact ih4 _ _ _ _ _ _ | exact ih5 _ _ _ _ _ _ | exact LeO.refl _ | exact LeO.none _ | refine LeO.ite ?_ ?_ | refine LeO.bind ?_ (fun _ => ?_))
  ·intro y0 y1 y2 y3 y4 y5
   unfold spec_l1Read.l1
   repeat' (with_reducible first | exact ih0 _ _ _ | exact ih1 _ _ _ _ _ _ | exact ih2 _ _ _ _ _ _ _ | exact ih3 _ _ _ _ _ | exact ih4 _ _ _ _ _ _ | exact ih5 _ _ _ _ _ _ | exact LeO.refl _ | exact LeO.none _ | refine LeO.ite ?_ ?_ | refine LeO.bind ?_ (fun _ => ?_))
theorem spec_l1Read.mono : ∀ a0 k, LeO (spec_l1Read.f k a0) (spec_l1Read.f (k + 1) a0) := by
 intro a0 k
 obtain ⟨ih0, ih1, ih2, ih3, ih4, ih5⟩ := spec_l1Read.mono_l k
 unfold spec_l1Read.f
 repeat' (with_reducible first | exact ih0 _ _ _ | exact ih1 _ _ _ _ _ _ | exact ih2 _ _ _ _ _ _ _ | exact ih3 _ _ _ _ _ | exact ih4 _ _ _ _ _ _ | exact ih5 _ _ _ _ _ _ | exact LeO.refl _ | exact LeO.none _ | refine LeO.ite ?_ ?_ | refine LeO.bind ?_ (fun _ => ?_))
theorem spec_l1Read.calls (k : Nat) (A0 : Option Addr) (c0 : Nat) (l0 : List Int) (r : List Int) (w : World) (hr0 : Kd.C (Kd.int .u8) w A0 l0.length l0) (hc0 : l0.length ≤ c0) (h : spec_l1Read.f k l0 = some r) :
 Calls Try.prog 138 #[.slice A0 l0.length c0] w fun e w' => ∃ v0_ : Value, e = .returned (v0_) ∧ Kd.R (Kd.int .i64) 3 w' w.heap.size (fun _ => True) v0_ r ∧ Below w.heap.size w w' := by
 have HR0 := Ak hr0
 have HC0 := Ak hc0
 clear hr0 hc0
 have HB := Ak (Below.refl w.heap.size w)
 have H : (spec_l1Read.l0 k l0 (([] : List Int)) 0) = some r := h
 clear h
 obtain ⟨y101, hy101⟩ : ∃ y_ : List Int, y_ = (([] : List Int)) := ⟨_, rfl⟩
 replace H : (spec_l1Read.l0 k l0 y101 0) = some r := by rw [hy101]; exact H
 have Ny101 := Ak hy101
 clear hy101
 have H' := Ak H
 clear H
 go_enter Try.func138, Try.ntmps138
 go_wp2_with (first | ((with_reducible refine gate_dst (N := 10) rfl ?_); (try (refine gate_guard (by rfl) ?_; dsimp only)); refine Kd.R_lit (Kd.int .i64) _ 3 ?hg (N := 10) ?hd (xs := ([] : List Int)) (inner := []) (ok := fun _ => True) (okp := fun _ => True) ?hr ?hp (fun _ hk => hk) trivial (Below.refl _ _) (Nat.le_refl _) (by simp) ?_; (case hd => rfl); (case hg => rfl); (case hr => first | (go_simp; done) | (go_simp; rfl)); (case hp => exact (Reps.none _ _)); intro v102 w2 ho3 hb hg_ hnew_; clear hg_ hnew_; (first | rw [← Ny101.out] at ho3 | (simp only [Int.reduceToNat] at ho3; rw [← Ny101.out] at ho3)); replace HO103 := Ak (Kd.R_lower ho3 (below_size (by repeat (first | exact HB.out | apply below_alloc | apply pw_below_drewN | apply below_drew1)))); replace HB := Ak (below_step (by repeat (first | exact HB.out | apply below_alloc | apply pw_below_drewN | apply below_drew1)) hb); clear hb ho3))
 go_loopg [3, 4] k (fun kq v3 v4 w' => ∃ (x3_1 : List Int) (x4_1 : Int), v4 = .int .i64 x4_1 ∧ Aside0 (spec_l1Read.l0 kq l0 x3_1 x4_1 = some r) ∧ Aside0 (kq ≤ k) ∧ Aside0 (Kd.R (Kd.int .i64) 3 w' w.heap.size (fun _ => True) v3 x3_1) ∧ Aside0 (Below w.heap.size w w'))
 case atStart => exact ⟨(y101), (0), rfl, H', ⟨Nat.le_refl _⟩, ⟨by (with_reducible repeat (first | apply Kd.R_alloc | apply Kd.R_drewN | apply Kd.R_drew)); exact HO103.out⟩, ⟨by repeat (first | exact HB.out | apply below_alloc | apply pw_below_drewN | apply below_drew1)⟩⟩
 case round =>
  clear H'
  obtain ⟨x3_1, x4_1, rfl, HA, HK1, HO_3, HB⟩ := hrel
  cases gk with
  | zero => exact absurd HA.out (by simp [spec_l1Read.l0])
  | succ k1 =>
   have H := HA.out
   clear HA
   simp only [spec_l1Read.l0] at H
   by_cases c4 : x4_1 < (l0.length : Int)
   ·rw [if_pos c4] at H
    have c4b0 := decide_eq_true c4
    clear c4
    by_cases c5 : 0 ≤ x4_1
    ·rw [if_pos c5] at H
     have c5b0 := decide_eq_true c5
     clear c5
     replace H := Ob H
     obtain ⟨t105, A60, H⟩ := H
     replace H : (spec_l1Read.l1 k1 l0 x3_1 x4_1 (wrap64 (rd l0 x4_1)) t105 1) = some r := H
     have A6 := Ak A60
     clear A60
     have HC7 := Ak H
     clear H
     have p104 : 0 ≤ (x4_1 : Int) := of_decide_eq_true (by assumption)
     have q104 : x4_1 < (l0.length : Int) := of_decide_eq_true (by assumption)
     obtain ⟨ad104, e104, hx104_0⟩ := Kd.at_int HR0.out x4_1 p104 q104
     cases e104
     replace hx104_0 := pw_cell_below HB.out hx104_0
     replace p104 := eq_true p104
     replace q104 := eq_true q104
     go_upto_block 2 with (first | (go_at_call 144; (with_reducible refine (spec_l1Forms.calls (wrap64 (rd l0 x4_1)) t105 _ A6.out).mono ?_); rintro e w' ⟨rfl, ⟨nd, rfl⟩⟩))
     (try simp only [Act.put, List.setIfInBounds_toArray, List.set_cons_zero, List.set_cons_succ])
     go_cut [7] (fun v7 wc => ∃ (kq : Nat) (x7_6 : Int), v7 = .int .i64 x7_6 ∧ Aside0 (spec_l1Read.j2 kq l0 x3_1 x4_1 (wrap64 (rd l0 x4_1)) t105 x7_6 = some r) ∧ Aside0 (kq ≤ k1) ∧ Aside0 (Kd.R (Kd.int .i64) 3 wc w.heap.size (fun _ => True) u3 x3_1) ∧ Aside0 (Below w.heap.size w wc))
     case first =>
      have H := HC7.out
      clear HC7
      have H' := Ak H
      clear H
      go_wp2
      go_loopg [7] k1 (fun kq v7 w' => ∃ (x7_2 : Int), v7 = .int .i64 x7_2 ∧ Aside0 (spec_l1Read.l1 kq l0 x3_1 x4_1 (wrap64 (rd l0 x4_1)) t105 x7_2 = some r) ∧ Aside0 (kq ≤ k1) ∧ Aside0 (Kd.R (Kd.int .i64) 3 w' w.heap.size (fun _ => True) u3 x3_1) ∧ Aside0 (Below w.heap.size w w'))
      case atStart => exact ⟨(1), rfl, H', ⟨Nat.le_refl _⟩, ⟨by (with_reducible repeat (first | apply Kd.R_alloc | apply Kd.R_drewN | apply Kd.R_drew)); exact HO_3.out⟩, ⟨by repeat (first | exact HB.out | apply below_alloc | apply pw_below_drewN | apply below_drew1)⟩⟩
      case round =>
       clear H'
       obtain ⟨x7_2, rfl, HA, HK2, HO_3, HB⟩ := hrel
       cases gk with
       | zero => exact absurd HA.out (by simp [spec_l1Read.l1])
       | succ k2 =>
        have H := HA.out
        clear HA
        simp only [spec_l1Read.l1] at H
        by_cases c8 : x7_2 < t105
        ·rw [if_pos c8] at H
         have c8b0 := decide_eq_true c8
         clear c8
         (first | rw [c8b0] | (simp only [i64_w, i32_w]; rw [c8b0]) | skip)
         by_cases c9 : (wrap64 (x4_1 + x7_2)) < (l0.length : Int)
         ·rw [if_pos c9] at H
          have c9b0 := decide_eq_true c9
          clear c9
          obtain ⟨ji10, hji10⟩ : ∃ j_ : Int, (wrap64 (x4_1 + x7_2)) = j_ := ⟨_, rfl⟩
          replace H : (if 0 ≤ (ji10) then ((spec_l1Fits.f (wrap64 (rd l0 x4_1)) x7_2 (wrap64 (rd l0 (ji10)))).bind fun t107 => (if t107 = true then (spec_l1Read.l1 k2 l0 x3_1 x4_1 (wrap64 (rd l0 x4_1)) t105 (wrap64 (x7_2 + 1))) else (spec_l1Read.j2 k2 l0 x3_1 x4_1 (wrap64 (rd l0 x4_1)) t105 x7_2))) else (none)) = some r := by first | (rw [hji10] at H; exact H) | (simp only [hji10] at H ⊢; exact H)
          (try rw [hji10] at c9b0)
          have hji10w : (IntKind.i64.wrap (x4_1 + x7_2)) = ji10 := (i64_w _).trans hji10
          by_cases c11 : 0 ≤ (ji10)
          ·rw [if_pos c11] at H
           have c11b0 := decide_eq_true c11
           clear c11
           replace H := Ob H
           obtain ⟨t107, A120, H⟩ := H
           replace H : (if t107 = true then (spec_l1Read.l1 k2 l0 x3_1 x4_1 (wrap64 (rd l0 x4_1)) t105 (wrap64 (x7_2 + 1))) else (spec_l1Read.j2 k2 l0 x3_1 x4_1 (wrap64 (rd l0 x4_1)) t105 x7_2)) = some r := H
           have A12 := Ak A120
           clear A120
           by_cases c13 : t107 = true
           ·subst c13
            rw [if_pos rfl] at H
            have H' := Ak H
            clear H
            have p106 : 0 ≤ ((ji10) : Int) := of_decide_eq_true (by assumption)
            have q106 : (ji10) < (l0.length : Int) := of_decide_eq_true (by assumption)
            obtain ⟨ad106, e106, hx106_0⟩ := Kd.at_int HR0.out (ji10) p106 q106
            obtain rfl : ad104 = ad106 := (by injection e106)
            replace hx106_0 := pw_cell_below HB.out hx106_0
            replace p106 := eq_true p106
            replace q106 := eq_true q106
            go_wp2_with (first | (go_at_call 145; (with_reducible refine (spec_l1Fits.calls (wrap64 (rd l0 x4_1)) x7_2 (wrap64 (rd l0 (ji10))) true _ A12.out).mono ?_); rintro e w' ⟨rfl, ⟨nd, rfl⟩⟩))
            go_roundg k2
            case measure => have := HK1.out; have := HK2.out; omega
            case rel => exact ⟨(wrap64 (x7_2 + 1)), rfl, H', ⟨by have := HK1.out; have := HK2.out; omega⟩, ⟨by (with_reducible repeat (first | apply Kd.R_alloc | apply Kd.R_drewN | apply Kd.R_drew)); exact HO_3.out⟩, ⟨by repeat (first | exact HB.out | apply below_alloc | apply pw_below_drewN | apply below_drew1)⟩⟩
           ·replace c13 := Bool.eq_false_iff.mpr c13
            subst c13
            rw [if_neg (show ¬ (false = true) by decide)] at H
            have H' := Ak H
            clear H
            have p106 : 0 ≤ ((ji10) : Int) := of_decide_eq_true (by assumption)
            have q106 : (ji10) < (l0.length : Int) := of_decide_eq_true (by assumption)
            obtain ⟨ad106, e106, hx106_0⟩ := Kd.at_int HR0.out (ji10) p106 q106
            obtain rfl : ad104 = ad106 := (by injection e106)
            replace hx106_0 := pw_cell_below HB.out hx106_0
            replace p106 := eq_true p106
            replace q106 := eq_true q106
            go_wp2_with (first | (go_at_call 145; (with_reducible refine (spec_l1Fits.calls (wrap64 (rd l0 x4_1)) x7_2 (wrap64 (rd l0 (ji10))) false _ A12.out).mono ?_); rintro e w' ⟨rfl, ⟨nd, rfl⟩⟩))
            go_meet
            case rel => exact ⟨_, (x7_2), rfl, H', ⟨by have := HK1.out; have := HK2.out; first | omega | exact Nat.le_refl _⟩, ⟨by (with_reducible repeat (first | apply Kd.R_alloc | apply Kd.R_drewN | apply Kd.R_drew)); exact HO_3.out⟩, ⟨by repeat (first | exact HB.out | apply below_alloc | apply pw_below_drewN | apply below_drew1)⟩⟩
          ·rw [if_neg c11] at H
           exact absurd H (by simp)
         ·rw [if_neg c9] at H
          have c9b0 := decide_eq_false c9
          clear c9
          have H' := Ak H
          clear H
          go_wp2
          go_meet
          case rel => exact ⟨_, (x7_2), rfl, H', ⟨by have := HK1.out; have := HK2.out; first | omega | exact Nat.le_refl _⟩, ⟨by (with_reducible repeat (first | apply Kd.R_alloc | apply Kd.R_drewN | apply Kd.R_drew)); exact HO_3.out⟩, ⟨by repeat (first | exact HB.out | apply below_alloc | apply pw_below_drewN | apply below_drew1)⟩⟩
        ·rw [if_neg c8] at H
         have c8b0 := decide_eq_false c8
         clear c8
         (first | rw [c8b0] | (simp only [i64_w, i32_w]; rw [c8b0]) | skip)
         have H' := Ak H
         clear H
         go_wp2
         go_meet
         case rel => exact ⟨_, (x7_2), rfl, H', ⟨by have := HK1.out; have := HK2.out; first | omega | exact Nat.le_refl _⟩, ⟨by (with_reducible repeat (first | apply Kd.R_alloc | apply Kd.R_drewN | apply Kd.R_drew)); exact HO_3.out⟩, ⟨by repeat (first | exact HB.out | apply below_alloc | apply pw_below_drewN | apply below_drew1)⟩⟩
     case rest =>
      clear HC7
      obtain ⟨kq, x7_6, rfl, HA, HJ6, HO_3, HB⟩ := hcut
      cases kq with
      | zero => exact absurd HA.out (by simp [spec_l1Read.j2])
      | succ kj6 =>
       have H := HA.out
       clear HA
       simp only [spec_l1Read.j2] at H
       have HC14 := Ak H
       clear H
       go_upto_region 9 with (fail)
       go_cut [53] (fun v53 wc => ∃ (kq : Nat) (x53_13 : Bool), v53 = .bool x53_13 ∧ Aside0 (spec_l1Read.j3 kq l0 x3_1 x4_1 (wrap64 (rd l0 x4_1)) t105 x7_6 x53_13 = some r) ∧ Aside0 (kq ≤ kj6) ∧ Aside0 (Kd.R (Kd.int .i64) 3 wc w.heap.size (fun _ => True) u3 x3_1) ∧ Aside0 (Below w.heap.size w wc))
       case first =>
        have H := HC14.out
        clear HC14
        by_cases c15 : t105 = 0
        ·rw [if_pos c15] at H
         have c15b0 := beq_iff_eq.mpr c15
         have c15b1 := bne_eq_false_iff_eq.mpr c15
         clear c15
         (first | rw [c15b0] | (simp only [i64_w, i32_w]; rw [c15b0]) | skip)
         have H' := Ak H
         clear H
         go_wp2
         go_meet
         case rel => exact ⟨_, (true), rfl, H', ⟨by have := HK1.out; have := HJ6.out; first | omega | exact Nat.le_refl _⟩, ⟨by (with_reducible repeat (first | apply Kd.R_alloc | apply Kd.R_drewN | apply Kd.R_drew)); exact HO_3.out⟩, ⟨by repeat (first | exact HB.out | apply below_alloc | apply pw_below_drewN | apply below_drew1)⟩⟩
        ·rw [if_neg c15] at H
         have c15b0 := beq_eq_false_iff_ne.mpr c15
         have c15b1 := bne_iff_ne.mpr c15
         (first | rw [c15b0] | (simp only [i64_w, i32_w]; rw [c15b0]) | skip)
         have H' := Ak H
         clear H
         go_wp2
         go_meet
         case rel => exact ⟨_, (decide (x7_6 < t105)), rfl, H', ⟨by have := HK1.out; have := HJ6.out; first | omega | exact Nat.le_refl _⟩, ⟨by (with_reducible repeat (first | apply Kd.R_alloc | apply Kd.R_drewN | apply Kd.R_drew)); exact HO_3.out⟩, ⟨by repeat (first | exact HB.out | apply below_alloc | apply pw_below_drewN | apply below_drew1)⟩⟩
       case rest =>
        clear HC14
        obtain ⟨kq, x53_13, rfl, HA, HJ13, HO_3, HB⟩ := hcut
        cases kq with
        | zero => exact absurd HA.out (by simp [spec_l1Read.j3])
        | succ kj13 =>
         have H := HA.out
         clear HA
         simp only [spec_l1Read.j3] at H
         by_cases c16 : x53_13 = true
         ·subst c16
          rw [if_pos rfl] at H
          by_cases c17 : x3_1.length < 17592186044416
          ·rw [if_pos c17] at H
           have LMc17 := Ak c17
           clear c17
           obtain ⟨y108, hy108⟩ : ∃ y_ : List Int, y_ = (x3_1 ++ [65533]) := ⟨_, rfl⟩
           replace H : (spec_l1Read.l0 kj13 l0 y108 (wrap64 (x4_1 + x7_6))) = some r := by rw [hy108]; exact H
           have Ny108 := Ak hy108
           clear hy108
           have H' := Ak H
           clear H
           go_wp2_with (first | ((with_reducible refine gate_builtin (b := .append) (xs := #[.tmp 54, .tmp 55]) rfl ?_); (try (refine gate_guard (by rfl) ?_; dsimp only)); at_builtin; refine Kd.R_append (Kd.int .i64) (w0 := w) w.heap.size rfl (.tmp 54) (.tmp 55) 37 3 (.int .i64 0) 8 rfl Try.underlying37 info3 rfl (by decide) (by omega) u3 x3_1 65533 [.int .i64 65533] (fun _ => True) (fun _ => False) rfl rfl ?aP (fun _ hk => hk.elim) ?aF ?aO ?aB ?aS ?aL ?_; (case aP => exact rfl); (case aB => exact (by repeat (first | exact HB.out | apply below_alloc | apply pw_below_drewN | apply below_drew1))); (case aF => exact (fun _ _ => trivial)); (case aO => exact HO_3.out); (case aS => exact (below_size (by repeat (first | exact HB.out | apply below_alloc | apply pw_below_drewN | apply below_drew1)))); (case aL => have := LMc17.out; omega); intro v109 w18 ho hb hg hat; rw [← Ny108.out] at ho; replace HO110 := Ak (ho); replace HB := Ak (hb); clear ho hb hg hat))
           go_roundg kj13
           case measure => have := HK1.out; have := HJ6.out; have := HJ13.out; omega
           case rel => exact ⟨(y108), (wrap64 (x4_1 + x7_6)), rfl, H', ⟨by have := HK1.out; have := HJ6.out; have := HJ13.out; omega⟩, ⟨by (with_reducible repeat (first | apply Kd.R_alloc | apply Kd.R_drewN | apply Kd.R_drew)); exact HO110.out⟩, ⟨by repeat (first | exact HB.out | apply below_alloc | apply pw_below_drewN | apply below_drew1)⟩⟩
          ·rw [if_neg c17] at H
           exact absurd H (by simp)
         ·replace c16 := Bool.eq_false_iff.mpr c16
          subst c16
          rw [if_neg (show ¬ (false = true) by decide)] at H
          have HC19 := Ak H
          clear H
          go_upto_block 4 with (fail)
          go_cut [8] (fun v8 wc => ∃ (kq : Nat) (x8_18 : Int), v8 = .int .i64 x8_18 ∧ Aside0 (spec_l1Read.j4 kq l0 x3_1 x4_1 t105 x8_18 = some r) ∧ Aside0 (kq ≤ kj13) ∧ Aside0 (Kd.R (Kd.int .i64) 3 wc w.heap.size (fun _ => True) u3 x3_1) ∧ Aside0 (Below w.heap.size w wc))
          case first =>
           have H := HC19.out
           clear HC19
           by_cases c20 : t105 = 2
           ·rw [if_pos c20] at H
            have c20b0 := beq_iff_eq.mpr c20
            have c20b1 := bne_eq_false_iff_eq.mpr c20
            clear c20
            (first | rw [c20b0] | (simp only [i64_w, i32_w]; rw [c20b0]) | skip)
            have H' := Ak H
            clear H
            go_wp2
            go_meet
            case rel => exact ⟨_, (wrap64 ((wrap64 (rd l0 x4_1)) - 192)), rfl, H', ⟨by have := HK1.out; have := HJ6.out; have := HJ13.out; first | omega | exact Nat.le_refl _⟩, ⟨by (with_reducible repeat (first | apply Kd.R_alloc | apply Kd.R_drewN | apply Kd.R_drew)); exact HO_3.out⟩, ⟨by repeat (first | exact HB.out | apply below_alloc | apply pw_below_drewN | apply below_drew1)⟩⟩
           ·rw [if_neg c20] at H
            have c20b0 := beq_eq_false_iff_ne.mpr c20
            have c20b1 := bne_iff_ne.mpr c20
            (first | rw [c20b0] | (simp only [i64_w, i32_w]; rw [c20b0]) | skip)
            by_cases c21 : t105 = 3
            ·rw [if_pos c21] at H
             have c21b0 := beq_iff_eq.mpr c21
             have c21b1 := bne_eq_false_iff_eq.mpr c21
             clear c21
             have H' := Ak H
             clear H
             go_wp2
             go_meet
             case rel => exact ⟨_, (wrap64 ((wrap64 (rd l0 x4_1)) - 224)), rfl, H', ⟨by have := HK1.out; have := HJ6.out; have := HJ13.out; first | omega | exact Nat.le_refl _⟩, ⟨by (with_reducible repeat (first | apply Kd.R_alloc | apply Kd.R_drewN | apply Kd.R_drew)); exact HO_3.out⟩, ⟨by repeat (first | exact HB.out | apply below_alloc | apply pw_below_drewN | apply below_drew1)⟩⟩
            ·rw [if_neg c21] at H
             have c21b0 := beq_eq_false_iff_ne.mpr c21
             have c21b1 := bne_iff_ne.mpr c21
             by_cases c22 : t105 = 4
             ·rw [if_pos c22] at H
              have c22b0 := beq_iff_eq.mpr c22
              have c22b1 := bne_eq_false_iff_eq.mpr c22
              clear c22
              have H' := Ak H
              clear H
              go_wp2
              go_meet
              case rel => exact ⟨_, (wrap64 ((wrap64 (rd l0 x4_1)) - 240)), rfl, H', ⟨by have := HK1.out; have := HJ6.out; have := HJ13.out; first | omega | exact Nat.le_refl _⟩, ⟨by (with_reducible repeat (first | apply Kd.R_alloc | apply Kd.R_drewN | apply Kd.R_drew)); exact HO_3.out⟩, ⟨by repeat (first | exact HB.out | apply below_alloc | apply pw_below_drewN | apply below_drew1)⟩⟩
             ·rw [if_neg c22] at H
              have c22b0 := beq_eq_false_iff_ne.mpr c22
              have c22b1 := bne_iff_ne.mpr c22
              have H' := Ak H
              clear H
              go_wp2
              go_meet
              case rel => exact ⟨_, ((wrap64 (rd l0 x4_1))), rfl, H', ⟨by have := HK1.out; have := HJ6.out; have := HJ13.out; first | omega | exact Nat.le_refl _⟩, ⟨by (with_reducible repeat (first | apply Kd.R_alloc | apply Kd.R_drewN | apply Kd.R_drew)); exact HO_3.out⟩, ⟨by repeat (first | exact HB.out | apply below_alloc | apply pw_below_drewN | apply below_drew1)⟩⟩
          case rest =>
           clear HC19
           obtain ⟨kq, x8_18, rfl, HA, HJ18, HO_3, HB⟩ := hcut
           cases kq with
           | zero => exact absurd HA.out (by simp [spec_l1Read.j4])
           | succ kj18 =>
            have H := HA.out
            clear HA
            simp only [spec_l1Read.j4] at H
            have H' := Ak H
            clear H
            go_wp2
            go_loopg [8, 9] kj18 (fun kq v8 v9 w' => ∃ (x8_5 : Int) (x9_5 : Int), v8 = .int .i64 x8_5 ∧ v9 = .int .i64 x9_5 ∧ Aside0 (spec_l1Read.l2 kq l0 x3_1 x4_1 t105 x8_5 x9_5 = some r) ∧ Aside0 (kq ≤ kj18) ∧ Aside0 (Kd.R (Kd.int .i64) 3 w' w.heap.size (fun _ => True) u3 x3_1) ∧ Aside0 (Below w.heap.size w w'))
            case atStart => exact ⟨(x8_18), (1), rfl, rfl, H', ⟨Nat.le_refl _⟩, ⟨by (with_reducible repeat (first | apply Kd.R_alloc | apply Kd.R_drewN | apply Kd.R_drew)); exact HO_3.out⟩, ⟨by repeat (first | exact HB.out | apply below_alloc | apply pw_below_drewN | apply below_drew1)⟩⟩
            case round =>
             clear H'
             obtain ⟨x8_5, x9_5, rfl, rfl, HA, HK5, HO_3, HB⟩ := hrel
             cases gk with
             | zero => exact absurd HA.out (by simp [spec_l1Read.l2])
             | succ k5 =>
              have H := HA.out
              clear HA
              simp only [spec_l1Read.l2] at H
              by_cases c23 : x9_5 < t105
              ·rw [if_pos c23] at H
               have c23b0 := decide_eq_true c23
               clear c23
               obtain ⟨ji24, hji24⟩ : ∃ j_ : Int, (wrap64 (x4_1 + x9_5)) = j_ := ⟨_, rfl⟩
               replace H : (if 0 ≤ (ji24) then (if (ji24) < (l0.length : Int) then (spec_l1Read.l2 k5 l0 x3_1 x4_1 t105 (wrap64 ((wrap64 ((wrap64 (64 * x8_5)) + (wrap64 (rd l0 (ji24))))) - 128)) (wrap64 (x9_5 + 1))) else (none)) else (none)) = some r := by first | (rw [hji24] at H; exact H) | (simp only [hji24] at H ⊢; exact H)
               have hji24w : (IntKind.i64.wrap (x4_1 + x9_5)) = ji24 := (i64_w _).trans hji24
               by_cases c25 : 0 ≤ (ji24)
               ·rw [if_pos c25] at H
                have c25b0 := decide_eq_true c25
                clear c25
                by_cases c26 : (ji24) < (l0.length : Int)
                ·rw [if_pos c26] at H
                 have c26b0 := decide_eq_true c26
                 clear c26
                 have H' := Ak H
                 clear H
                 have p111 : 0 ≤ ((ji24) : Int) := of_decide_eq_true (by assumption)
                 have q111 : (ji24) < (l0.length : Int) := of_decide_eq_true (by assumption)
                 obtain ⟨ad111, e111, hx111_0⟩ := Kd.at_int HR0.out (ji24) p111 q111
                 obtain rfl : ad104 = ad111 := (by injection e111)
                 replace hx111_0 := pw_cell_below HB.out hx111_0
                 replace p111 := eq_true p111
                 replace q111 := eq_true q111
                 go_wp2
                 go_roundg k5
                 case measure => have := HK1.out; have := HJ6.out; have := HJ13.out; have := HJ18.out; have := HK5.out; omega
                 case rel => exact ⟨(wrap64 ((wrap64 ((wrap64 (64 * x8_5)) + (wrap64 (rd l0 (ji24))))) - 128)), (wrap64 (x9_5 + 1)), (by first | rfl | (simp; done) | (simp only [← hji24] <;> (first | rfl | simp)) | (simp [*]; done)), rfl, H', ⟨by have := HK1.out; have := HJ6.out; have := HJ13.out; have := HJ18.out; have := HK5.out; omega⟩, ⟨by (with_reducible repeat (first | apply Kd.R_alloc | apply Kd.R_drewN | apply Kd.R_drew)); exact HO_3.out⟩, ⟨by repeat (first | exact HB.out | apply below_alloc | apply pw_below_drewN | apply below_drew1)⟩⟩
                ·rw [if_neg c26] at H
                 exact absurd H (by simp)
               ·rw [if_neg c25] at H
                exact absurd H (by simp)
              ·rw [if_neg c23] at H
               have c23b0 := decide_eq_false c23
               clear c23
               by_cases c27 : x3_1.length < 17592186044416
               ·rw [if_pos c27] at H
                have LMc27 := Ak c27
                clear c27
                obtain ⟨y112, hy112⟩ : ∃ y_ : List Int, y_ = (x3_1 ++ [x8_5]) := ⟨_, rfl⟩
                replace H : (spec_l1Read.l0 k5 l0 y112 (wrap64 (x4_1 + t105))) = some r := by rw [hy112]; exact H
                have Ny112 := Ak hy112
                clear hy112
                have H' := Ak H
                clear H
                go_wp2_with (first | ((with_reducible refine gate_builtin (b := .append) (xs := #[.tmp 90, .tmp 92]) rfl ?_); (try (refine gate_guard (by rfl) ?_; dsimp only)); at_builtin; refine Kd.R_append (Kd.int .i64) (w0 := w) w.heap.size rfl (.tmp 90) (.tmp 92) 37 3 (.int .i64 0) 8 rfl Try.underlying37 info3 rfl (by decide) (by omega) u3 x3_1 x8_5 [.int .i64 x8_5] (fun _ => True) (fun _ => False) rfl rfl ?aP (fun _ hk => hk.elim) ?aF ?aO ?aB ?aS ?aL ?_; (case aP => exact rfl); (case aB => exact (by repeat (first | exact HB.out | apply below_alloc | apply pw_below_drewN | apply below_drew1))); (case aF => exact (fun _ _ => trivial)); (case aO => exact HO_3.out); (case aS => exact (below_size (by repeat (first | exact HB.out | apply below_alloc | apply pw_below_drewN | apply below_drew1)))); (case aL => have := LMc27.out; omega); intro v113 w28 ho hb hg hat; rw [← Ny112.out] at ho; replace HO114 := Ak (ho); replace HB := Ak (hb); clear ho hb hg hat))
                go_roundg k5
                case measure => have := HK1.out; have := HJ6.out; have := HJ13.out; have := HJ18.out; have := HK5.out; omega
                case rel => exact ⟨(y112), (wrap64 (x4_1 + t105)), rfl, H', ⟨by have := HK1.out; have := HJ6.out; have := HJ13.out; have := HJ18.out; have := HK5.out; omega⟩, ⟨by (with_reducible repeat (first | apply Kd.R_alloc | apply Kd.R_drewN | apply Kd.R_drew)); exact HO114.out⟩, ⟨by repeat (first | exact HB.out | apply below_alloc | apply pw_below_drewN | apply below_drew1)⟩⟩
               ·rw [if_neg c27] at H
                exact absurd H (by simp)
    ·rw [if_neg c5] at H
     exact absurd H (by simp)
   ·rw [if_neg c4] at H
    have c4b0 := decide_eq_false c4
    clear c4
    obtain rfl := Oi H
    go_wp2
    go_ret
    exact ⟨_, rfl, by (with_reducible repeat (first | apply Kd.R_alloc | apply Kd.R_drewN | apply Kd.R_drew)); exact HO_3.out, by repeat (first | exact HB.out | apply below_alloc | apply pw_below_drewN | apply below_drew1)⟩
def spec_UtfRead.j0 : Nat → List Int → Bool → Option (List Int)
 | 0, _, _ => none
 | k + 1, x0, x27 => if x27 = true then (if 3 ≤ (x0.length : Int) then ((spec_l1Read.f k (x0.drop 3)).bind fun t108 => (some t108)) else (none)) else ((spec_l1Read.f k x0).bind fun t111 => (some t111))
def spec_UtfRead.f (k : Nat) (l0 : List Int) : Option (List Int) := if (l0.length : Int) > 3000 then (some (([] : List Int))) else (if (l0.length : Int) ≥ 3 then (if 0 < (l0.length : Int) then (if (rd l0 0) = 239 then (if 1 < (l0.length : Int) then (if (rd l0 1) = 187 then (if 2 < (l0.length : Int) then (spec_UtfRead.j0 k l0 ((rd l0 2) == 191)) else (none)) else (spec_UtfRead.j0 k l0 false)) else (none)) else (spec_UtfRead.j0 k l0 false)) else (none)) else (spec_UtfRead.j0 k l0 false))
theorem spec_UtfRead.mono_l : ∀ k, (∀ y0 y1, LeO (spec_UtfRead.j0 k y0 y1) (spec_UtfRead.j0 (k + 1) y0 y1))
 | 0 => fun _ _ r h => by simp [spec_UtfRead.j0] at h
 | k + 1 => by
  have ih0 := spec_UtfRead.mono_l k
  ·intro y0 y1
   unfold spec_UtfRead.j0
   repeat' (with_reducible first | exact ih0 _ _ | exact spec_l1Read.mono _ _ | exact LeO.refl _ | exact LeO.none _ | refine LeO.ite ?_ ?_ | refine LeO.bind ?_ (fun _ => ?_))
theorem spec_UtfRead.mono : ∀ a0 k, LeO (spec_UtfRead.f k a0) (spec_UtfRead.f (k + 1) a0) := by
 intro a0 k
 have ih0 := spec_UtfRead.mono_l k
 unfold spec_UtfRead.f
 repeat' (with_reducible first | exact ih0 _ _ | exact spec_l1Read.mono _ _ | exact LeO.refl _ | exact LeO.none _ | refine LeO.ite ?_ ?_ | refine LeO.bind ?_ (fun _ => ?_))
theorem spec_UtfRead.calls (k : Nat) (A0 : Option Addr) (c0 : Nat) (l0 : List Int) (r : List Int) (w : World) (hr0 : Kd.C (Kd.int .u8) w A0 l0.length l0) (hc0 : l0.length ≤ c0) (h : spec_UtfRead.f k l0 = some r) :
 Calls Try.prog 125 #[.slice A0 l0.length c0] w fun e w' => ∃ v0_ : Value, e = .returned (v0_) ∧ Kd.R (Kd.int .i64) 3 w' w.heap.size (fun _ => True) v0_ r ∧ Below w.heap.size w w' := by
 have HR0 := Ak hr0
 have HC0 := Ak hc0
 clear hr0 hc0
 have HB := Ak (Below.refl w.heap.size w)
 have H : (if (l0.length : Int) > 3000 then (some (([] : List Int))) else (if (l0.length : Int) ≥ 3 then (if 0 < (l0.length : Int) then (if (rd l0 0) = 239 then (if 1 < (l0.length : Int) then (if (rd l0 1) = 187 then (if 2 < (l0.length : Int) then (spec_UtfRead.j0 k l0 ((rd l0 2) == 191)) else (none)) else (spec_UtfRead.j0 k l0 false)) else (none)) else (spec_UtfRead.j0 k l0 false)) else (none)) else (spec_UtfRead.j0 k l0 false))) = some r := h
 clear h
 by_cases c2 : (l0.length : Int) > 3000
 ·rw [if_pos c2] at H
  have c2b0 : decide (3000 < (l0.length : Int)) = true := decide_eq_true c2
  have c2b1 : decide (3000 < l0.length) = true := decide_eq_true (by omega)
  clear c2
  obtain ⟨y101, hy101⟩ : ∃ y_ : List Int, y_ = (([] : List Int)) := ⟨_, rfl⟩
  replace H : (some y101) = some r := by rw [hy101]; exact H
  have Ny101 := Ak hy101
  clear hy101
  obtain rfl := Oi H
  go_enter Try.func125, Try.ntmps125
  go_wp2_with (first | ((with_reducible refine gate_dst (N := 6) rfl ?_); refine Kd.R_lit (Kd.int .i64) _ 3 ?hg (N := 6) ?hd (xs := ([] : List Int)) (inner := []) (ok := fun _ => True) (okp := fun _ => True) ?hr ?hp (fun _ hk => hk) trivial (Below.refl _ _) (Nat.le_refl _) (by simp) ?_; (case hd => rfl); (case hg => rfl); (case hr => first | (go_simp; done) | (go_simp; rfl)); (case hp => exact (Reps.none _ _)); intro v102 w3 ho4 hb hg_ hnew_; clear hg_ hnew_; (first | rw [← Ny101.out] at ho4 | (simp only [Int.reduceToNat] at ho4; rw [← Ny101.out] at ho4)); replace HO103 := Ak (Kd.R_lower ho4 (below_size (HB.out))); replace HB := Ak (below_step (HB.out) hb); clear hb ho4))
  go_ret
  exact ⟨_, rfl, by (with_reducible repeat (first | apply Kd.R_alloc | apply Kd.R_drewN | apply Kd.R_drew)); exact HO103.out, HB.out⟩
 ·rw [if_neg c2] at H
  have c2b0 : decide (3000 < (l0.length : Int)) = false := decide_eq_false c2
  have c2b1 : decide (3000 < l0.length) = false := decide_eq_false (by omega)
  clear c2
  have HC5 := Ak H
  clear H
  go_enter Try.func125, Try.ntmps125
  go_upto_region 3 with (fail)
  go_cut [27] (fun v27 wc => ∃ (kq : Nat) (x27_4 : Bool), v27 = .bool x27_4 ∧ Aside0 (spec_UtfRead.j0 kq l0 x27_4 = some r) ∧ Aside0 (kq ≤ k) ∧ Aside0 (Below w.heap.size w wc))
  case first =>
   have H := HC5.out
   clear HC5
   by_cases c6 : (l0.length : Int) ≥ 3
   ·rw [if_pos c6] at H
    have c6b0 : decide (3 ≤ (l0.length : Int)) = true := decide_eq_true c6
    have c6b1 : decide (3 ≤ l0.length) = true := decide_eq_true (by omega)
    clear c6
    (first | rw [c6b0] | (simp only [i64_w, i32_w]; rw [c6b0]) | skip)
    by_cases c7 : 0 < (l0.length : Int)
    ·rw [if_pos c7] at H
     have c7b0 := decide_eq_true c7
     have c7b1 : decide (0 < l0.length) = true := decide_eq_true (by omega)
     clear c7
     by_cases c8 : (rd l0 0) = 239
     ·rw [if_pos c8] at H
      have c8b0 := beq_iff_eq.mpr c8
      have c8b1 := bne_eq_false_iff_eq.mpr c8
      clear c8
      by_cases c9 : 1 < (l0.length : Int)
      ·rw [if_pos c9] at H
       have c9b0 := decide_eq_true c9
       have c9b1 : decide (1 < l0.length) = true := decide_eq_true (by omega)
       clear c9
       by_cases c10 : (rd l0 1) = 187
       ·rw [if_pos c10] at H
        have c10b0 := beq_iff_eq.mpr c10
        have c10b1 := bne_eq_false_iff_eq.mpr c10
        clear c10
        by_cases c11 : 2 < (l0.length : Int)
        ·rw [if_pos c11] at H
         have c11b0 := decide_eq_true c11
         have c11b1 : decide (2 < l0.length) = true := decide_eq_true (by omega)
         clear c11
         have H' := Ak H
         clear H
         have p104 : 0 ≤ (0 : Int) := (by omega)
         have q104 : 0 < (l0.length : Int) := of_decide_eq_true (by assumption)
         obtain ⟨ad104, e104, hx104_0⟩ := Kd.at_int HR0.out 0 p104 q104
         cases e104
         have qi104 : (0 < l0.length) = True := eq_true (by omega)
         (try rw [show ((0 : Int)).toNat = 0 from rfl] at hx104_0)
         (try rw [Addr.add_zero'] at hx104_0)
         replace hx104_0 := pw_cell_below HB.out hx104_0
         replace p104 := eq_true p104
         replace q104 := eq_true q104
         have p105 : 0 ≤ (1 : Int) := (by omega)
         have q105 : 1 < (l0.length : Int) := of_decide_eq_true (by assumption)
         obtain ⟨ad105, e105, hx105_0⟩ := Kd.at_int HR0.out 1 p105 q105
         obtain rfl : ad104 = ad105 := (by injection e105)
         (try simp only [show (1 : Int).toNat = 1 from rfl, Nat.reduceMul, Nat.reduceEqDiff, Go.Addr.add, ↓reduceIte] at hx105_0)
         have qi105 : (1 < l0.length) = True := eq_true (by omega)
         (try rw [show ((1 : Int)).toNat = 1 from rfl] at hx105_0)
         replace hx105_0 := pw_cell_below HB.out hx105_0
         replace p105 := eq_true p105
         replace q105 := eq_true q105
         have p106 : 0 ≤ (2 : Int) := (by omega)
         have q106 : 2 < (l0.length : Int) := of_decide_eq_true (by assumption)
         obtain ⟨ad106, e106, hx106_0⟩ := Kd.at_int HR0.out 2 p106 q106
         obtain rfl : ad104 = ad106 := (by injection e106)
         (try simp only [show (2 : Int).toNat = 2 from rfl, Nat.reduceMul, Nat.reduceEqDiff, Go.Addr.add, ↓reduceIte] at hx106_0)
         have qi106 : (2 < l0.length) = True := eq_true (by omega)
         (try rw [show ((2 : Int)).toNat = 2 from rfl] at hx106_0)
         replace hx106_0 := pw_cell_below HB.out hx106_0
         replace p106 := eq_true p106
         replace q106 := eq_true q106
         go_wp2
         go_meet
         case rel => exact ⟨_, (((rd l0 2) == 191)), rfl, H', ⟨by first | omega | exact Nat.le_refl _⟩, ⟨HB.out⟩⟩
        ·rw [if_neg c11] at H
         exact absurd H (by simp)
       ·rw [if_neg c10] at H
        have c10b0 := beq_eq_false_iff_ne.mpr c10
        have c10b1 := bne_iff_ne.mpr c10
        have H' := Ak H
        clear H
        have p104 : 0 ≤ (0 : Int) := (by omega)
        have q104 : 0 < (l0.length : Int) := of_decide_eq_true (by assumption)
        obtain ⟨ad104, e104, hx104_0⟩ := Kd.at_int HR0.out 0 p104 q104
        cases e104
        have qi104 : (0 < l0.length) = True := eq_true (by omega)
        (try rw [show ((0 : Int)).toNat = 0 from rfl] at hx104_0)
        (try rw [Addr.add_zero'] at hx104_0)
        replace hx104_0 := pw_cell_below HB.out hx104_0
        replace p104 := eq_true p104
        replace q104 := eq_true q104
        have p105 : 0 ≤ (1 : Int) := (by omega)
        have q105 : 1 < (l0.length : Int) := of_decide_eq_true (by assumption)
        obtain ⟨ad105, e105, hx105_0⟩ := Kd.at_int HR0.out 1 p105 q105
        obtain rfl : ad104 = ad105 := (by injection e105)
        (try simp only [show (1 : Int).toNat = 1 from rfl, Nat.reduceMul, Nat.reduceEqDiff, Go.Addr.add, ↓reduceIte] at hx105_0)
        have qi105 : (1 < l0.length) = True := eq_true (by omega)
        (try rw [show ((1 : Int)).toNat = 1 from rfl] at hx105_0)
        replace hx105_0 := pw_cell_below HB.out hx105_0
        replace p105 := eq_true p105
        replace q105 := eq_true q105
        go_wp2
        go_meet
        case rel => exact ⟨_, (false), rfl, H', ⟨by first | omega | exact Nat.le_refl _⟩, ⟨HB.out⟩⟩
      ·rw [if_neg c9] at H
       exact absurd H (by simp)
     ·rw [if_neg c8] at H
      have c8b0 := beq_eq_false_iff_ne.mpr c8
      have c8b1 := bne_iff_ne.mpr c8
      have H' := Ak H
      clear H
      have p104 : 0 ≤ (0 : Int) := (by omega)
      have q104 : 0 < (l0.length : Int) := of_decide_eq_true (by assumption)
      obtain ⟨ad104, e104, hx104_0⟩ := Kd.at_int HR0.out 0 p104 q104
      cases e104
      have qi104 : (0 < l0.length) = True := eq_true (by omega)
      (try rw [show ((0 : Int)).toNat = 0 from rfl] at hx104_0)
      (try rw [Addr.add_zero'] at hx104_0)
      replace hx104_0 := pw_cell_below HB.out hx104_0
      replace p104 := eq_true p104
      replace q104 := eq_true q104
      go_wp2
      go_meet
      case rel => exact ⟨_, (false), rfl, H', ⟨by first | omega | exact Nat.le_refl _⟩, ⟨HB.out⟩⟩
    ·rw [if_neg c7] at H
     exact absurd H (by simp)
   ·rw [if_neg c6] at H
    have c6b0 : decide (3 ≤ (l0.length : Int)) = false := decide_eq_false c6
    have c6b1 : decide (3 ≤ l0.length) = false := decide_eq_false (by omega)
    clear c6
    (first | rw [c6b0] | (simp only [i64_w, i32_w]; rw [c6b0]) | skip)
    have H' := Ak H
    clear H
    go_wp2
    go_meet
    case rel => exact ⟨_, (false), rfl, H', ⟨by first | omega | exact Nat.le_refl _⟩, ⟨HB.out⟩⟩
  case rest =>
   clear HC5
   obtain ⟨kq, x27_4, rfl, HA, HJ4, HB⟩ := hcut
   cases kq with
   | zero => exact absurd HA.out (by simp [spec_UtfRead.j0])
   | succ kj4 =>
    have H := HA.out
    clear HA
    simp only [spec_UtfRead.j0] at H
    by_cases c12 : x27_4 = true
    ·subst c12
     rw [if_pos rfl] at H
     by_cases c13 : 3 ≤ (l0.length : Int)
     ·rw [if_pos c13] at H
      have c13b0 := eq_true c13
      have c13b1 := decide_eq_true c13
      clear c13
      replace H := Ob H
      obtain ⟨t108, A140, H⟩ := H
      replace H : (some t108) = some r := H
      have A14 := Ak A140
      clear A140
      obtain rfl := Oi H
      obtain ⟨i015, hi015, _, hsz15, _⟩ := info_parts info5
      obtain ⟨A15, hcut15, hA15, hC15⟩ := print_drop_of (P := Try.prog) (Value.int .u8) 0 52 5 .i64 Try.underlying52 hi015 hsz15 A0 c0 l0 3 (by omega) (of_decide_eq_true (by assumption)) HC0.out
      have HR107 := Ak (Kd.C_of_reads (h1 := fun _ => rfl) (hA15 _ (Kd.reads_of_C HR0.out)))
      have HC107 := Ak hC15
      clear hA15 hC15 hi015 hsz15
      go_wp2_with (first | ((with_reducible refine gate_callee (f := 138) rfl ?_); refine goesL_ (some 30) rfl rfl Try.func138 (by kernel_rfl) rfl #[.slice A15 (l0.drop 3).length (c0 - 3)] rfl (by (try simp only [List.map_toArray, List.map_cons, List.map_nil]); first | done | (rw [show (l0.drop 3).length = (l0.length - 3) from List.length_drop] <;> rfl) | rfl | (simp only [List.length_drop, List.length_take]; rfl)) ?_; (with_reducible refine (spec_l1Read.calls kj4 _ _ (l0.drop 3) t108 _ ?side1 ?side2 A14.out).mono ?_); (case side1 => exact (Kd.C_below HR107.out HB.out)); (case side2 => exact HC107.out); rintro e w16 ⟨v109, rfl, ho0, hb⟩; refine ⟨_, rfl, ?_⟩; replace HO110 := Ak (Kd.R_lower ho0 (below_size (HB.out))); replace HB := Ak (below_step (HB.out) hb); (try clear hb); (try clear ho0)))
      go_ret
      exact ⟨_, rfl, by (with_reducible repeat (first | apply Kd.R_alloc | apply Kd.R_drewN | apply Kd.R_drew)); exact HO110.out, HB.out⟩
     ·rw [if_neg c13] at H
      exact absurd H (by simp)
    ·replace c12 := Bool.eq_false_iff.mpr c12
     subst c12
     rw [if_neg (show ¬ (false = true) by decide)] at H
     replace H := Ob H
     obtain ⟨t111, A170, H⟩ := H
     replace H : (some t111) = some r := H
     have A17 := Ak A170
     clear A170
     obtain rfl := Oi H
     go_wp2_with (first | (go_at_call 138; (with_reducible refine (spec_l1Read.calls kj4 _ _ l0 t111 _ ?side1 ?side2 A17.out).mono ?_); (case side1 => exact (Kd.C_below HR0.out HB.out)); (case side2 => exact HC0.out); rintro e w18 ⟨v112, rfl, ho0, hb⟩; replace HO113 := Ak (Kd.R_lower ho0 (below_size (HB.out))); replace HB := Ak (below_step (HB.out) hb); (try clear hb); (try clear ho0)))
     go_ret
     exact ⟨_, rfl, by (with_reducible repeat (first | apply Kd.R_alloc | apply Kd.R_drewN | apply Kd.R_drew)); exact HO113.out, HB.out⟩
def spec_UtfOk.f (k : Nat) (l0 : List Int) : Option (Bool) := if (l0.length : Int) ≤ 3000 then ((spec_UtfRead.f k l0).bind fun t101 => ((spec_PointsPut.f k t101).bind fun t104 => (some ((strOfNums t104).toList == (strOfNums l0).toList)))) else (some false)
theorem spec_UtfOk.mono : ∀ a0 k, LeO (spec_UtfOk.f k a0) (spec_UtfOk.f (k + 1) a0) := by
 intro a0 k
 unfold spec_UtfOk.f
 repeat' (with_reducible first | exact spec_PointsPut.mono _ _ | exact spec_UtfRead.mono _ _ | exact LeO.refl _ | exact LeO.none _ | refine LeO.ite ?_ ?_ | refine LeO.bind ?_ (fun _ => ?_))
def spec_UtfOk.T1 : Bool × List (List Nat × List Nat) := (true, [([], []), ([0], [0]), ([1], [1]), ([2], [2]), ([3], [3]), ([4, 3, 3], [3, 4]), ([5, 5, 3], [3, 5]), ([6, 3], [3, 6]), ([3], [3]), ([8, 3], [3, 8]), ([7, 9, 3], [3, 7, 9]), ([3, 10], [3, 10]), ([11, 6, 0, 1, 2, 3, 4, 5, 6, 7, 8, 9, 10, 11], [11])])
def spec_UtfOk.B1 : List Nat := [0, 1, 3, 7, 15, 31, 63, 127, 15, 271, 1023, 2047, 4095]
theorem spec_UtfOk.tab1 : rtab .any (opsOf Try.f107 1) = spec_UtfOk.T1 := by kernel_rfl
theorem spec_UtfOk.bits1 : waitsOk spec_UtfOk.T1.2 spec_UtfOk.B1 = true := by kernel_rfl
theorem spec_UtfOk.calls (k : Nat) (A0 : Option Addr) (c0 : Nat) (l0 : List Int) (r : Bool) (w : World) (hr0 : Kd.C (Kd.int .u8) w A0 l0.length l0) (hc0 : l0.length ≤ c0) (h : spec_UtfOk.f k l0 = some r) :
 Calls Try.prog 107 #[.slice A0 l0.length c0] w fun e w' => e = .returned (.bool r) ∧ Below w.heap.size w w' := by
 have HR0 := Ak hr0
 have HC0 := Ak hc0
 clear hr0 hc0
 have HB := Ak (Below.refl w.heap.size w)
 have H : (if (l0.length : Int) ≤ 3000 then ((spec_UtfRead.f k l0).bind fun t101 => ((spec_PointsPut.f k t101).bind fun t104 => (some ((strOfNums t104).toList == (strOfNums l0).toList)))) else (some false)) = some r := h
 clear h
 by_cases c2 : (l0.length : Int) ≤ 3000
 ·rw [if_pos c2] at H
  have c2b0 := decide_eq_true c2
  have c2b1 : decide (l0.length ≤ 3000) = true := decide_eq_true (by omega)
  clear c2
  replace H := Ob H
  obtain ⟨t101, A30, H⟩ := H
  replace H : ((spec_PointsPut.f k t101).bind fun t104 => (some ((strOfNums t104).toList == (strOfNums l0).toList))) = some r := H
  have A3 := Ak A30
  clear A30
  replace H := Ob H
  obtain ⟨t104, A40, H⟩ := H
  replace H : (some ((strOfNums t104).toList == (strOfNums l0).toList)) = some r := H
  have A4 := Ak A40
  clear A40
  obtain rfl := Oi H
  go_enter Try.func107, Try.ntmps107
  try go_wp2
  have n0_ := Ak (below_drew1 HB.out)
  clear HB
  have HB := n0_
  clear n0_
  refine start_ (n := 13) (S := fun w' => Sem.run Try.prog (convert 52 9 (.slice A0 l0.length c0)) w' = .ok (.string (strOfNums l0)) w') (ds := []) #[false, false, false, false, false, false, false, false, false, false, false, false, false] (by kernel_rfl) rfl rfl ((Kd.C_string (P := Try.prog) (A := A0) (c := c0) Try.underlying52 Try.underlying5 Try.underlying9 (Kd.C_below HR0.out HB.out))) (fun hHeld => ?_); refine with_tabW spec_UtfOk.tab1 spec_UtfOk.bits1 (fun HT_ HW_ => ?_)
  generalize w.drew = w5 at HB hHeld ⊢
  refine pure_ (i := 0) (N := some 3) (v := ?_) (a' := ?_) #[true, false, false, false, false, false, false, false, false, false, false, false, false] rfl rfl (any_of HT_.out (by kernel_rfl)) (fun _ _ _ h => h) (Or.inl ⟨by rfl, ?_⟩) ?_ ?_
  rotate_left
  ·intro w'
   go_simp
   with_reducible rfl
  rotate_left
  ·simp only [Act.put, List.setIfInBounds_toArray, List.set_cons_zero, List.set_cons_succ, i64_w, i32_w]
   rfl
  refine pure_ (i := 1) (N := some 4) (v := ?_) (a' := ?_) #[true, true, false, false, false, false, false, false, false, false, false, false, false] rfl rfl (any_of HT_.out (by kernel_rfl)) (fun _ _ _ h => h) (Or.inl ⟨by rfl, ?_⟩) ?_ ?_
  rotate_left
  ·intro w'
   go_simp
   with_reducible rfl
  rotate_left
  ·simp only [Act.put, List.setIfInBounds_toArray, List.set_cons_zero, List.set_cons_succ, i64_w, i32_w]
   rfl
  refine pure_ (i := 2) (N := some 5) (v := ?_) (a' := ?_) #[true, true, true, false, false, false, false, false, false, false, false, false, false] rfl rfl (any_of HT_.out (by kernel_rfl)) (fun _ _ _ h => h) (Or.inl ⟨by rfl, ?_⟩) ?_ ?_
  rotate_left
  ·intro w'
   go_simp
   with_reducible rfl
  rotate_left
  ·simp only [Act.put, List.setIfInBounds_toArray, List.set_cons_zero, List.set_cons_succ, i64_w, i32_w]
   rfl
  refine pure_ (i := 3) (N := some 6) (v := ?_) (a' := ?_) #[true, true, true, true, false, false, false, false, false, false, false, false, false] rfl rfl (any_of HT_.out (by kernel_rfl)) (fun _ _ _ h => h) (Or.inl ⟨by rfl, ?_⟩) ?_ ?_
  rotate_left
  ·intro w'
   go_simp
   with_reducible rfl
  rotate_left
  ·simp only [Act.put, List.setIfInBounds_toArray, List.set_cons_zero, List.set_cons_succ, i64_w, i32_w]
   rfl
  refine pure_ (i := 4) (N := some 7) (v := ?_) (a' := ?_) #[true, true, true, true, true, false, false, false, false, false, false, false, false] rfl rfl (any_of HT_.out (by kernel_rfl)) (fun _ _ _ h => h) (Or.inl ⟨by rfl, ?_⟩) ?_ ?_
  rotate_left
  ·intro w'
   go_simp
   with_reducible rfl
  rotate_left
  ·simp only [Act.put, List.setIfInBounds_toArray, List.set_cons_zero, List.set_cons_succ, i64_w, i32_w]
   rfl
  refine pure_ (i := 8) (N := some 11) (v := ?_) (a' := ?_) #[true, true, true, true, true, false, false, false, true, false, false, false, false] rfl rfl (any_of HT_.out (by kernel_rfl)) (fun _ _ _ h => h) (Or.inl ⟨by rfl, ?_⟩) ?_ ?_
  rotate_left
  ·intro w'
   go_simp
   with_reducible rfl
  rotate_left
  ·simp only [Act.put, List.setIfInBounds_toArray, List.set_cons_zero, List.set_cons_succ, i64_w, i32_w]
   rfl
  refine take_ (i := 9) (N := some 12) (v := ?_) (a' := ?_) #[true, true, true, true, true, false, false, false, true, true, false, false, false] rfl rfl (take_ofW HT_.out HW_.out (by kernel_rfl)) (fun _ _ _ h => h) (Or.inl ⟨by rfl, ?_⟩) hHeld ?_ ?_
  rotate_left
  ·intro w' s0
   go_simp
   with_reducible rfl
  rotate_left
  ·simp only [Act.put, List.setIfInBounds_toArray, List.set_cons_zero, List.set_cons_succ, i64_w, i32_w]
   rfl
  refine one_ (i := 5) (N := some 8) #[true, true, true, true, true, true, false, false, true, true, false, false, false] rfl rfl (one_of HT_.out (by kernel_rfl)) (by decide) (fun K hK => ?_)
  refine goes_ Try.func125 (by kernel_rfl) rfl #[.slice A0 l0.length c0] (by rfl) rfl rfl (by (try simp only [List.map_toArray, List.map_cons, List.map_nil]); first | done | rfl | (simp only [List.length_drop, List.length_take]; rfl)) ?_
  with_reducible refine (spec_UtfRead.calls k _ _ l0 t101 _ ?side1 ?side2 A3.out).mono ?_
  (case side1 => exact (Kd.C_below HR0.out HB.out))
  (case side2 => exact HC0.out)
  rintro e w6 ⟨v102, rfl, ho0, hb⟩
  refine ⟨_, rfl, ?_⟩
  have n0_ := Ak (Kd.R_lower ho0 (below_size (HB.out)))
  have n1_ := Ak (below_step (HB.out) hb)
  clear HB
  have HO103 := n0_
  have HB := n1_
  clear n0_ n1_
  (try clear hb)
  (try clear hb2)
  (try clear hk)
  (try clear hi)
  (try clear ho0)
  obtain ⟨Ao7, co7, eo7⟩ := Kd.R_slice HO103.out
  (first | subst eo7 | (injection eo7 with f1_ f2_ f3_; have f4_ := f1_.symm; have f5_ := f3_.symm; clear f1_ f2_ f3_; subst f4_; subst f5_))
  refine hK.out _ _ ((Kd.C_string (P := Try.prog) (A := A0) (c := c0) Try.underlying52 Try.underlying5 Try.underlying9 (Kd.C_below HR0.out HB.out))) (fun hHeld => ?_)
  clear hK K
  refine norm_ (a' := ?_) ?_ ?_
  rotate_left
  ·show Act.put _ (some 8) _ = _
   simp only [Act.put, List.setIfInBounds_toArray, List.set_cons_zero, List.set_cons_succ, i64_w, i32_w]
   rfl
  refine one_ (i := 6) (N := some 9) #[true, true, true, true, true, true, true, false, true, true, false, false, false] rfl rfl (one_of HT_.out (by kernel_rfl)) (by decide) (fun K hK => ?_)
  refine goes_ Try.func124 (by kernel_rfl) rfl #[.slice Ao7 t101.length co7] (by rfl) rfl rfl (by (try simp only [List.map_toArray, List.map_cons, List.map_nil]); first | done | rfl | (simp only [List.length_drop, List.length_take]; rfl)) ?_
  with_reducible refine (spec_PointsPut.calls k _ _ t101 t104 _ ?side1 ?side2 A4.out).mono ?_
  (case side1 => repeat (first | exact (Kd.R_reads' HO103.out).2.2 | (with_reducible refine Kd.C_alloc ?_ _) | (with_reducible refine Kd.C_drewN ?_ _) | (with_reducible refine Kd.C_drew ?_)))
  (case side2 => exact (Kd.R_reads' HO103.out).2.1)
  rintro e w8 ⟨v105, rfl, ho0, hb⟩
  refine ⟨_, rfl, ?_⟩
  have n0_ := Ak (Kd.R_below HO103.out hb)
  have n1_ := Ak (Kd.R_lower ho0 (below_size (HB.out)))
  have n2_ := Ak (below_step (HB.out) hb)
  clear HO103
  clear HB
  have HO103 := n0_
  have HO106 := n1_
  have HB := n2_
  clear n0_ n1_ n2_
  (try clear hb)
  (try clear hb2)
  (try clear hk)
  (try clear hi)
  (try clear ho0)
  refine hK.out _ _ ((Kd.C_string (P := Try.prog) (A := A0) (c := c0) Try.underlying52 Try.underlying5 Try.underlying9 (Kd.C_below HR0.out HB.out))) (fun hHeld => ?_)
  clear hK K
  refine norm_ (a' := ?_) ?_ ?_
  rotate_left
  ·show Act.put _ (some 9) _ = _
   simp only [Act.put, List.setIfInBounds_toArray, List.set_cons_zero, List.set_cons_succ, i64_w, i32_w]
   rfl
  refine one_ (i := 7) (N := some 10) #[true, true, true, true, true, true, true, true, true, true, false, false, false] rfl rfl (one_of HT_.out (by kernel_rfl)) (by decide) (fun K hK => ?_)
  have hcv9 := own_string (P := Try.prog) Try.underlying52 Try.underlying5 Try.underlying9 (Kd.own_of_R HO106.out)
  refine value_ (w1 := ?_) (v := ?_) (by rfl) rfl ?_ ?_
  rotate_left 2
  ·go_simp
   constructor
   ·rfl
   ·rfl
  clear hcv9
  refine hK.out _ _ ((Kd.C_string (P := Try.prog) (A := A0) (c := c0) Try.underlying52 Try.underlying5 Try.underlying9 (Kd.C_below HR0.out HB.out))) (fun hHeld => ?_)
  clear hK K
  refine norm_ (a' := ?_) ?_ ?_
  rotate_left
  ·show Act.put _ (some 10) _ = _
   simp only [Act.put, List.setIfInBounds_toArray, List.set_cons_zero, List.set_cons_succ, i64_w, i32_w]
   rfl
  refine pure_ (i := 10) (N := some 13) (v := ?_) (a' := ?_) #[true, true, true, true, true, true, true, true, true, true, true, false, false] rfl rfl (any_of HT_.out (by kernel_rfl)) (fun _ _ _ h => h) (Or.inl ⟨by rfl, ?_⟩) ?_ ?_
  rotate_left
  ·intro w'
   go_simp
   with_reducible rfl
  rotate_left
  ·simp only [Act.put, List.setIfInBounds_toArray, List.set_cons_zero, List.set_cons_succ, i64_w, i32_w]
   rfl
  refine pure_ (i := 11) (N := some 14) (v := ?_) (a' := ?_) #[true, true, true, true, true, true, true, true, true, true, true, true, false] rfl rfl (any_of HT_.out (by kernel_rfl)) (fun _ _ _ h => h) (Or.inl ⟨by rfl, ?_⟩) ?_ ?_
  rotate_left
  ·intro w'
   go_simp
   with_reducible rfl
  rotate_left
  ·simp only [Act.put, List.setIfInBounds_toArray, List.set_cons_zero, List.set_cons_succ, i64_w, i32_w]
   rfl
  refine pure_ (i := 12) (N := some 2) (v := ?_) (a' := ?_) #[true, true, true, true, true, true, true, true, true, true, true, true, true] rfl rfl (any_of HT_.out (by kernel_rfl)) (fun _ _ _ h => h) (Or.inl ⟨by rfl, ?_⟩) ?_ ?_
  rotate_left
  ·intro w'
   go_simp
   with_reducible rfl
  rotate_left
  ·simp only [Act.put, List.setIfInBounds_toArray, List.set_cons_zero, List.set_cons_succ, i64_w, i32_w]
   rfl
  refine done_ (done_of HT_.out (by kernel_rfl)) ?_
  try go_wp2
  go_ret
  exact ⟨rfl, HB.out⟩
 ·rw [if_neg c2] at H
  have c2b0 := decide_eq_false c2
  have c2b1 : decide (l0.length ≤ 3000) = false := decide_eq_false (by omega)
  clear c2
  obtain rfl := Oi H
  go_enter Try.func107, Try.ntmps107
  try go_wp2
  have n0_ := Ak (below_drew1 HB.out)
  clear HB
  have HB := n0_
  clear n0_
  refine start_ (n := 13) (S := fun w' => True) (ds := []) #[false, false, false, false, false, false, false, false, false, false, false, false, false] (by kernel_rfl) rfl rfl trivial (fun hHeld => ?_); refine with_tabW spec_UtfOk.tab1 spec_UtfOk.bits1 (fun HT_ HW_ => ?_)
  generalize w.drew = w12 at HB hHeld ⊢
  refine pure_ (i := 0) (N := some 3) (v := ?_) (a' := ?_) #[true, false, false, false, false, false, false, false, false, false, false, false, false] rfl rfl (any_of HT_.out (by kernel_rfl)) (fun _ _ _ h => h) (Or.inl ⟨by rfl, ?_⟩) ?_ ?_
  rotate_left
  ·intro w'
   go_simp
   with_reducible rfl
  rotate_left
  ·simp only [Act.put, List.setIfInBounds_toArray, List.set_cons_zero, List.set_cons_succ, i64_w, i32_w]
   rfl
  refine pure_ (i := 1) (N := some 4) (v := ?_) (a' := ?_) #[true, true, false, false, false, false, false, false, false, false, false, false, false] rfl rfl (any_of HT_.out (by kernel_rfl)) (fun _ _ _ h => h) (Or.inl ⟨by rfl, ?_⟩) ?_ ?_
  rotate_left
  ·intro w'
   go_simp
   with_reducible rfl
  rotate_left
  ·simp only [Act.put, List.setIfInBounds_toArray, List.set_cons_zero, List.set_cons_succ, i64_w, i32_w]
   rfl
  refine pure_ (i := 2) (N := some 5) (v := ?_) (a' := ?_) #[true, true, true, false, false, false, false, false, false, false, false, false, false] rfl rfl (any_of HT_.out (by kernel_rfl)) (fun _ _ _ h => h) (Or.inl ⟨by rfl, ?_⟩) ?_ ?_
  rotate_left
  ·intro w'
   go_simp
   with_reducible rfl
  rotate_left
  ·simp only [Act.put, List.setIfInBounds_toArray, List.set_cons_zero, List.set_cons_succ, i64_w, i32_w]
   rfl
  refine pure_ (i := 3) (N := some 6) (v := ?_) (a' := ?_) #[true, true, true, true, false, false, false, false, false, false, false, false, false] rfl rfl (any_of HT_.out (by kernel_rfl)) (fun _ _ _ h => h) (Or.inl ⟨by rfl, ?_⟩) ?_ ?_
  rotate_left
  ·intro w'
   go_simp
   with_reducible rfl
  rotate_left
  ·simp only [Act.put, List.setIfInBounds_toArray, List.set_cons_zero, List.set_cons_succ, i64_w, i32_w]
   rfl
  refine pure_ (i := 4) (N := some 7) (v := undef) (a' := ?_) #[true, true, true, true, true, false, false, false, false, false, false, false, false] rfl rfl (any_of HT_.out (by kernel_rfl)) (fun _ _ _ h => h) (Or.inr ⟨by rfl, rfl⟩) ?_ ?_
  rotate_left
  ·simp only [Act.put, List.setIfInBounds_toArray, List.set_cons_zero, List.set_cons_succ, i64_w, i32_w]
   rfl
  refine pure_ (i := 5) (N := some 8) (v := undef) (a' := ?_) #[true, true, true, true, true, true, false, false, false, false, false, false, false] rfl rfl (any_of HT_.out (by kernel_rfl)) (fun _ _ _ h => h) (Or.inr ⟨by rfl, rfl⟩) ?_ ?_
  rotate_left
  ·simp only [Act.put, List.setIfInBounds_toArray, List.set_cons_zero, List.set_cons_succ, i64_w, i32_w]
   rfl
  refine pure_ (i := 6) (N := some 9) (v := undef) (a' := ?_) #[true, true, true, true, true, true, true, false, false, false, false, false, false] rfl rfl (any_of HT_.out (by kernel_rfl)) (fun _ _ _ h => h) (Or.inr ⟨by rfl, rfl⟩) ?_ ?_
  rotate_left
  ·simp only [Act.put, List.setIfInBounds_toArray, List.set_cons_zero, List.set_cons_succ, i64_w, i32_w]
   rfl
  refine pure_ (i := 7) (N := some 10) (v := undef) (a' := ?_) #[true, true, true, true, true, true, true, true, false, false, false, false, false] rfl rfl (any_of HT_.out (by kernel_rfl)) (fun _ _ _ h => h) (Or.inr ⟨by rfl, rfl⟩) ?_ ?_
  rotate_left
  ·simp only [Act.put, List.setIfInBounds_toArray, List.set_cons_zero, List.set_cons_succ, i64_w, i32_w]
   rfl
  refine pure_ (i := 8) (N := some 11) (v := undef) (a' := ?_) #[true, true, true, true, true, true, true, true, true, false, false, false, false] rfl rfl (any_of HT_.out (by kernel_rfl)) (fun _ _ _ h => h) (Or.inr ⟨by rfl, rfl⟩) ?_ ?_
  rotate_left
  ·simp only [Act.put, List.setIfInBounds_toArray, List.set_cons_zero, List.set_cons_succ, i64_w, i32_w]
   rfl
  refine pure_ (i := 9) (N := some 12) (v := undef) (a' := ?_) #[true, true, true, true, true, true, true, true, true, true, false, false, false] rfl rfl (any_of HT_.out (by kernel_rfl)) (fun _ _ _ h => h) (Or.inr ⟨by rfl, rfl⟩) ?_ ?_
  rotate_left
  ·simp only [Act.put, List.setIfInBounds_toArray, List.set_cons_zero, List.set_cons_succ, i64_w, i32_w]
   rfl
  refine pure_ (i := 10) (N := some 13) (v := undef) (a' := ?_) #[true, true, true, true, true, true, true, true, true, true, true, false, false] rfl rfl (any_of HT_.out (by kernel_rfl)) (fun _ _ _ h => h) (Or.inr ⟨by rfl, rfl⟩) ?_ ?_
  rotate_left
  ·simp only [Act.put, List.setIfInBounds_toArray, List.set_cons_zero, List.set_cons_succ, i64_w, i32_w]
   rfl
  refine pure_ (i := 11) (N := some 14) (v := ?_) (a' := ?_) #[true, true, true, true, true, true, true, true, true, true, true, true, false] rfl rfl (any_of HT_.out (by kernel_rfl)) (fun _ _ _ h => h) (Or.inl ⟨by rfl, ?_⟩) ?_ ?_
  rotate_left
  ·intro w'
   go_simp
   with_reducible rfl
  rotate_left
  ·simp only [Act.put, List.setIfInBounds_toArray, List.set_cons_zero, List.set_cons_succ, i64_w, i32_w]
   rfl
  refine pure_ (i := 12) (N := some 2) (v := ?_) (a' := ?_) #[true, true, true, true, true, true, true, true, true, true, true, true, true] rfl rfl (any_of HT_.out (by kernel_rfl)) (fun _ _ _ h => h) (Or.inl ⟨by rfl, ?_⟩) ?_ ?_
  rotate_left
  ·intro w'
   go_simp
   with_reducible rfl
  rotate_left
  ·simp only [Act.put, List.setIfInBounds_toArray, List.set_cons_zero, List.set_cons_succ, i64_w, i32_w]
   rfl
  refine done_ (done_of HT_.out (by kernel_rfl)) ?_
  try go_wp2
  go_ret
  exact ⟨rfl, HB.out⟩
def spec_l1Ok.f (k : Nat) (a0 : ByteArray) : Option (Bool) := if a0.size ≤ 140737488355328 then ((spec_UtfOk.f k (bytesOf a0)).bind fun t104 => (some t104)) else (none)
theorem spec_l1Ok.mono : ∀ a0 k, LeO (spec_l1Ok.f k a0) (spec_l1Ok.f (k + 1) a0) := by
 intro a0 k
 unfold spec_l1Ok.f
 repeat' (with_reducible first | exact spec_UtfOk.mono _ _ | exact LeO.refl _ | exact LeO.none _ | refine LeO.ite ?_ ?_ | refine LeO.bind ?_ (fun _ => ?_))
theorem spec_l1Ok.calls (k : Nat) (a0 : ByteArray) (r : Bool) (w : World) (h : spec_l1Ok.f k a0 = some r) :
 Calls Try.prog 79 #[.string a0] w fun e w' => e = .returned (.bool r) ∧ Below w.heap.size w w' := by
 have HB := Ak (Below.refl w.heap.size w)
 have H : (if a0.size ≤ 140737488355328 then ((spec_UtfOk.f k (bytesOf a0)).bind fun t104 => (some t104)) else (none)) = some r := h
 clear h
 by_cases c2 : a0.size ≤ 140737488355328
 ·rw [if_pos c2] at H
  have c2b0 := eq_true c2
  have c2b1 := decide_eq_true c2
  clear c2
  obtain ⟨y101, hy101⟩ : ∃ y_ : List Int, y_ = (bytesOf a0) := ⟨_, rfl⟩
  replace H : ((spec_UtfOk.f k y101).bind fun t104 => (some t104)) = some r := by rw [hy101]; exact H
  have Ny101 := Ak hy101
  clear hy101
  replace H := Ob H
  obtain ⟨t104, A30, H⟩ := H
  replace H : (some t104) = some r := H
  have A3 := Ak A30
  clear A30
  obtain rfl := Oi H
  go_enter Try.func79, Try.ntmps79
  go_wp2_with (first | ((with_reducible refine gate_dst (N := 4) rfl ?_); refine conv_V _ 5 rfl (N' := 4) rfl 9 52 _ rfl a0 rfl Try.underlying9 Try.underlying52 Try.underlying5 (of_decide_eq_true (by assumption) : a0.size ≤ 140737488355328) (ok := fun k_ => w.heap.size ≤ k_) (Nat.le_refl _) (Below.refl _ _) (Nat.le_refl _) ?_; intro v102 w4 ho5 hb hg_ hnew_; clear hg_ hnew_; (first | rw [← Ny101.out] at ho5 | (simp only [Int.reduceToNat] at ho5; rw [← Ny101.out] at ho5)); replace HO103 := Ak (Kd.V_lower (Kd.V_mono (ok' := fun k_ => True) ho5 (fun k_ hk_ => trivial)) (below_size (HB.out))); replace HB := Ak (below_step (HB.out) hb); clear hb ho5; obtain ⟨Ao6, co6, eo6⟩ := Kd.V_slice HO103.out; subst eo6) | (go_at_call 107; (with_reducible refine (spec_UtfOk.calls k _ _ y101 t104 _ ?side1 ?side2 A3.out).mono ?_); (case side1 => repeat (first | exact (Kd.V_reads' HO103.out).2.2 | (with_reducible refine Kd.C_alloc ?_ _) | (with_reducible refine Kd.C_drewN ?_ _) | (with_reducible refine Kd.C_drew ?_))); (case side2 => exact (Kd.V_reads' HO103.out).2.1); rintro e w7 ⟨rfl, hb⟩; replace HO103 := Ak (Kd.V_below HO103.out hb); replace HB := Ak (below_step (HB.out) hb); (try clear hb); (try clear hb2); (try clear hk); (try clear hi)))
  go_ret
  exact ⟨by first | rfl | (simp [*] <;> rfl), HB.out⟩
 ·rw [if_neg c2] at H
  exact absurd H (by simp)
def spec_IsBlank.f (a0 : Int) : Option (Bool) := if a0 = 9 then (some true) else (if a0 = 10 then (some true) else (if a0 = 12 then (some true) else (some (a0 == 32))))
theorem spec_IsBlank.calls (a0 : Int) (r : Bool) (w : World) (h : spec_IsBlank.f a0 = some r) :
 Calls Try.prog 108 #[.int .i64 a0] w fun e w' => e = .returned (.bool r) ∧ Drawn0 w w' := by
 have H : (if a0 = 9 then (some true) else (if a0 = 10 then (some true) else (if a0 = 12 then (some true) else (some (a0 == 32))))) = some r := h
 clear h
 by_cases c2 : a0 = 9
 ·rw [if_pos c2] at H
  have c2b0 := beq_iff_eq.mpr c2
  have c2b1 := bne_eq_false_iff_eq.mpr c2
  clear c2
  obtain rfl := Oi H
  go_enter Try.func108, Try.ntmps108
  go_wp2
  go_ret
  exact ⟨rfl, by repeat (first | exact Drawn0.refl _ | apply Drawn0.step)⟩
 ·rw [if_neg c2] at H
  have c2b0 := beq_eq_false_iff_ne.mpr c2
  have c2b1 := bne_iff_ne.mpr c2
  by_cases c3 : a0 = 10
  ·rw [if_pos c3] at H
   have c3b0 := beq_iff_eq.mpr c3
   have c3b1 := bne_eq_false_iff_eq.mpr c3
   clear c3
   obtain rfl := Oi H
   go_enter Try.func108, Try.ntmps108
   go_wp2
   go_ret
   exact ⟨rfl, by repeat (first | exact Drawn0.refl _ | apply Drawn0.step)⟩
  ·rw [if_neg c3] at H
   have c3b0 := beq_eq_false_iff_ne.mpr c3
   have c3b1 := bne_iff_ne.mpr c3
   by_cases c4 : a0 = 12
   ·rw [if_pos c4] at H
    have c4b0 := beq_iff_eq.mpr c4
    have c4b1 := bne_eq_false_iff_eq.mpr c4
    clear c4
    obtain rfl := Oi H
    go_enter Try.func108, Try.ntmps108
    go_wp2
    go_ret
    exact ⟨rfl, by repeat (first | exact Drawn0.refl _ | apply Drawn0.step)⟩
   ·rw [if_neg c4] at H
    have c4b0 := beq_eq_false_iff_ne.mpr c4
    have c4b1 := bne_iff_ne.mpr c4
    obtain rfl := Oi H
    go_enter Try.func108, Try.ntmps108
    go_wp2
    go_ret
    exact ⟨rfl, by repeat (first | exact Drawn0.refl _ | apply Drawn0.step)⟩
mutual
def spec_NameOk.j0 : Nat → ByteArray → Bool → Option (Bool)
 | 0, _, _ => none
 | k + 1, x0, x22 => if x22 = true then (some false) else (spec_NameOk.l0 k x0 0)
def spec_NameOk.l0 : Nat → ByteArray → Int → Option (Bool)
 | 0, _, _ => none
 | k + 1, x0, x3 => if x3 < (x0.size : Int) then (if 0 ≤ x3 then ((spec_IsBlank.f (wrap64 (bt x0 x3))).bind fun t103 => (if t103 = true then (some false) else (if (bt x0 x3) = 47 then (some false) else (if (bt x0 x3) = 62 then (some false) else (if (bt x0 x3) = 0 then (some false) else (if (bt x0 x3) ≥ 65 then (if (bt x0 x3) ≤ 90 then (some false) else (spec_NameOk.l0 k x0 (wrap64 (x3 + 1)))) else (spec_NameOk.l0 k x0 (wrap64 (x3 + 1))))))))) else (none)) else (some true)
end
def spec_NameOk.f (k : Nat) (a0 : ByteArray) : Option (Bool) := (spec_l1In.f (a0.size : Int) 1 60).bind fun t101 => (if t101 = true then ((spec_l1Ok.f k a0).bind fun t102 => (if t102 = true then (if 0 < (a0.size : Int) then (if (bt a0 0) < 97 then (spec_NameOk.j0 k a0 true) else (spec_NameOk.j0 k a0 (decide ((bt a0 0) > 122)))) else (none)) else (spec_NameOk.j0 k a0 true))) else (spec_NameOk.j0 k a0 true))
theorem spec_NameOk.mono_l : ∀ k, (∀ y0 y1, LeO (spec_NameOk.j0 k y0 y1) (spec_NameOk.j0 (k + 1) y0 y1)) ∧ (∀ y0 y1, LeO (spec_NameOk.l0 k y0 y1) (spec_NameOk.l0 (k + 1) y0 y1))
 | 0 => ⟨fun _ _ r h => by simp [spec_NameOk.j0] at h, fun _ _ r h => by simp [spec_NameOk.l0] at h⟩
 | k + 1 => by
  obtain ⟨ih0, ih1⟩ := spec_NameOk.mono_l k
  refine ⟨?_, ?_⟩
  ·intro y0 y1
   unfold spec_NameOk.j0
   repeat' (with_reducible first | exact ih0 _ _ | exact ih1 _ _ | exact spec_l1Ok.mono _ _ | exact LeO.refl _ | exact LeO.none _ | refine LeO.ite ?_ ?_ | refine LeO.bind ?_ (fun _ => ?_))
  ·intro y0 y1
   unfold spec_NameOk.l0
   repeat' (with_reducible first | exact ih0 _ _ | exact ih1 _ _ | exact spec_l1Ok.mono _ _ | exact LeO.refl _ | exact LeO.none _ | refine LeO.ite ?_ ?_ | refine LeO.bind ?_ (fun _ => ?_))
theorem spec_NameOk.mono : ∀ a0 k, LeO (spec_NameOk.f k a0) (spec_NameOk.f (k + 1) a0) := by
 intro a0 k
 obtain ⟨ih0, ih1⟩ := spec_NameOk.mono_l k
 unfold spec_NameOk.f
 repeat' (with_reducible first | exact ih0 _ _ | exact ih1 _ _ | exact spec_l1Ok.mono _ _ | exact LeO.refl _ | exact LeO.none _ | refine LeO.ite ?_ ?_ | refine LeO.bind ?_ (fun _ => ?_))
theorem spec_NameOk.calls (k : Nat) (a0 : ByteArray) (r : Bool) (w : World) (h : spec_NameOk.f k a0 = some r) :
 Calls Try.prog 80 #[.string a0] w fun e w' => e = .returned (.bool r) ∧ Below w.heap.size w w' := by
 have HB := Ak (Below.refl w.heap.size w)
 have H : ((spec_l1In.f (a0.size : Int) 1 60).bind fun t101 => (if t101 = true then ((spec_l1Ok.f k a0).bind fun t102 => (if t102 = true then (if 0 < (a0.size : Int) then (if (bt a0 0) < 97 then (spec_NameOk.j0 k a0 true) else (spec_NameOk.j0 k a0 (decide ((bt a0 0) > 122)))) else (none)) else (spec_NameOk.j0 k a0 true))) else (spec_NameOk.j0 k a0 true))) = some r := h
 clear h
 have HC2 := Ak H
 clear H
 go_enter Try.func80, Try.ntmps80
 go_upto_region 1 with (fail)
 go_cut [22] (fun v22 wc => ∃ (kq : Nat) (x22_1 : Bool), v22 = .bool x22_1 ∧ Aside0 (spec_NameOk.j0 kq a0 x22_1 = some r) ∧ Aside0 (kq ≤ k) ∧ Aside0 (Below w.heap.size w wc))
 case first =>
  have H := HC2.out
  clear HC2
  replace H := Ob H
  obtain ⟨t101, A30, H⟩ := H
  replace H : (if t101 = true then ((spec_l1Ok.f k a0).bind fun t102 => (if t102 = true then (if 0 < (a0.size : Int) then (if (bt a0 0) < 97 then (spec_NameOk.j0 k a0 true) else (spec_NameOk.j0 k a0 (decide ((bt a0 0) > 122)))) else (none)) else (spec_NameOk.j0 k a0 true))) else (spec_NameOk.j0 k a0 true)) = some r := H
  have A3 := Ak A30
  clear A30
  by_cases c4 : t101 = true
  ·subst c4
   rw [if_pos rfl] at H
   replace H := Ob H
   obtain ⟨t102, A50, H⟩ := H
   replace H : (if t102 = true then (if 0 < (a0.size : Int) then (if (bt a0 0) < 97 then (spec_NameOk.j0 k a0 true) else (spec_NameOk.j0 k a0 (decide ((bt a0 0) > 122)))) else (none)) else (spec_NameOk.j0 k a0 true)) = some r := H
   have A5 := Ak A50
   clear A50
   by_cases c6 : t102 = true
   ·subst c6
    rw [if_pos rfl] at H
    by_cases c7 : 0 < (a0.size : Int)
    ·rw [if_pos c7] at H
     have c7b0 := decide_eq_true c7
     have c7b1 : decide (0 < a0.size) = true := decide_eq_true (by omega)
     clear c7
     (first | rw [c7b0] | (simp only [i64_w, i32_w]; rw [c7b0]) | skip)
     by_cases c9 : (bt a0 0) < 97
     ·rw [if_pos c9] at H
      have c9b0 := decide_eq_true c9
      clear c9
      have H' := Ak H
      clear H
      go_wp2_with (first | (go_at_call 37; (with_reducible refine (spec_l1In.calls (a0.size : Int) 1 60 true _ A3.out).mono ?_); rintro e w' ⟨rfl, ⟨nd, rfl⟩⟩) | (go_at_call 79; (with_reducible refine (spec_l1Ok.calls k a0 true _ A5.out).mono ?_); rintro e w10 ⟨rfl, hb⟩; replace HB := Ak (below_step (by repeat (first | exact HB.out | apply below_alloc | apply pw_below_drewN | apply below_drew1)) hb); (try clear hb); have p8 : 0 ≤ (0 : Int) := (by omega); have q8 : 0 < a0.size := (by have : (0 : Int) < (a0.size : Int) := of_decide_eq_true (by assumption); omega); have hx8 : ∀ h : 0 < a0.size, ((a0[0]'h).toNat : Int) = bt a0 0 := bt_at a0 0; clear p8; have qi8 : (0 < (a0.size : Int)) = True := eq_true (of_decide_eq_true (by assumption)); replace q8 := eq_true q8))
      go_meet
      case rel => exact ⟨_, (true), rfl, H', ⟨by first | omega | exact Nat.le_refl _⟩, ⟨by repeat (first | exact HB.out | apply below_alloc | apply pw_below_drewN | apply below_drew1)⟩⟩
     ·rw [if_neg c9] at H
      have c9b0 := decide_eq_false c9
      clear c9
      have H' := Ak H
      clear H
      go_wp2_with (first | (go_at_call 37; (with_reducible refine (spec_l1In.calls (a0.size : Int) 1 60 true _ A3.out).mono ?_); rintro e w' ⟨rfl, ⟨nd, rfl⟩⟩) | (go_at_call 79; (with_reducible refine (spec_l1Ok.calls k a0 true _ A5.out).mono ?_); rintro e w12 ⟨rfl, hb⟩; replace HB := Ak (below_step (by repeat (first | exact HB.out | apply below_alloc | apply pw_below_drewN | apply below_drew1)) hb); (try clear hb); have p8 : 0 ≤ (0 : Int) := (by omega); have q8 : 0 < a0.size := (by have : (0 : Int) < (a0.size : Int) := of_decide_eq_true (by assumption); omega); have hx8 : ∀ h : 0 < a0.size, ((a0[0]'h).toNat : Int) = bt a0 0 := bt_at a0 0; clear p8; have qi8 : (0 < (a0.size : Int)) = True := eq_true (of_decide_eq_true (by assumption)); replace q8 := eq_true q8; have p11 : 0 ≤ (0 : Int) := (by omega); have q11 : 0 < a0.size := (by have : (0 : Int) < (a0.size : Int) := of_decide_eq_true (by assumption); omega); have hx11 : ∀ h : 0 < a0.size, ((a0[0]'h).toNat : Int) = bt a0 0 := bt_at a0 0; clear p11; have qi11 : (0 < (a0.size : Int)) = True := eq_true (of_decide_eq_true (by assumption)); replace q11 := eq_true q11))
      go_meet
      case rel => exact ⟨_, (decide ((bt a0 0) > 122)), rfl, H', ⟨by first | omega | exact Nat.le_refl _⟩, ⟨by repeat (first | exact HB.out | apply below_alloc | apply pw_below_drewN | apply below_drew1)⟩⟩
    ·rw [if_neg c7] at H
     exact absurd H (by simp)
   ·replace c6 := Bool.eq_false_iff.mpr c6
    subst c6
    rw [if_neg (show ¬ (false = true) by decide)] at H
    have H' := Ak H
    clear H
    go_wp2_with (first | (go_at_call 37; (with_reducible refine (spec_l1In.calls (a0.size : Int) 1 60 true _ A3.out).mono ?_); rintro e w' ⟨rfl, ⟨nd, rfl⟩⟩) | (go_at_call 79; (with_reducible refine (spec_l1Ok.calls k a0 false _ A5.out).mono ?_); rintro e w13 ⟨rfl, hb⟩; replace HB := Ak (below_step (by repeat (first | exact HB.out | apply below_alloc | apply pw_below_drewN | apply below_drew1)) hb); (try clear hb)))
    go_meet
    case rel => exact ⟨_, (true), rfl, H', ⟨by first | omega | exact Nat.le_refl _⟩, ⟨by repeat (first | exact HB.out | apply below_alloc | apply pw_below_drewN | apply below_drew1)⟩⟩
  ·replace c4 := Bool.eq_false_iff.mpr c4
   subst c4
   rw [if_neg (show ¬ (false = true) by decide)] at H
   have H' := Ak H
   clear H
   go_wp2_with (first | (go_at_call 37; (with_reducible refine (spec_l1In.calls (a0.size : Int) 1 60 false _ A3.out).mono ?_); rintro e w' ⟨rfl, ⟨nd, rfl⟩⟩))
   go_meet
   case rel => exact ⟨_, (true), rfl, H', ⟨by first | omega | exact Nat.le_refl _⟩, ⟨by repeat (first | exact HB.out | apply below_alloc | apply pw_below_drewN | apply below_drew1)⟩⟩
 case rest =>
  clear HC2
  obtain ⟨kq, x22_1, rfl, HA, HJ1, HB⟩ := hcut
  cases kq with
  | zero => exact absurd HA.out (by simp [spec_NameOk.j0])
  | succ kj1 =>
   have H := HA.out
   clear HA
   simp only [spec_NameOk.j0] at H
   by_cases c14 : x22_1 = true
   ·subst c14
    rw [if_pos rfl] at H
    obtain rfl := Oi H
    go_wp2
    go_ret
    exact ⟨rfl, by repeat (first | exact HB.out | apply below_alloc | apply pw_below_drewN | apply below_drew1)⟩
   ·replace c14 := Bool.eq_false_iff.mpr c14
    subst c14
    rw [if_neg (show ¬ (false = true) by decide)] at H
    have H' := Ak H
    clear H
    go_wp2
    go_loopg [3] kj1 (fun kq v3 w' => ∃ (x3_2 : Int), v3 = .int .i64 x3_2 ∧ Aside0 (spec_NameOk.l0 kq a0 x3_2 = some r) ∧ Aside0 (kq ≤ kj1) ∧ Aside0 (Below w.heap.size w w'))
    case atStart => exact ⟨(0), rfl, H', ⟨Nat.le_refl _⟩, ⟨by repeat (first | exact HB.out | apply below_alloc | apply pw_below_drewN | apply below_drew1)⟩⟩
    case round =>
     clear H'
     obtain ⟨x3_2, rfl, HA, HK2, HB⟩ := hrel
     cases gk with
     | zero => exact absurd HA.out (by simp [spec_NameOk.l0])
     | succ k2 =>
      have H := HA.out
      clear HA
      simp only [spec_NameOk.l0] at H
      by_cases c15 : x3_2 < (a0.size : Int)
      ·rw [if_pos c15] at H
       have c15b0 := decide_eq_true c15
       clear c15
       by_cases c16 : 0 ≤ x3_2
       ·rw [if_pos c16] at H
        have c16b0 := decide_eq_true c16
        clear c16
        replace H := Ob H
        obtain ⟨t103, A180, H⟩ := H
        replace H : (if t103 = true then (some false) else (if (bt a0 x3_2) = 47 then (some false) else (if (bt a0 x3_2) = 62 then (some false) else (if (bt a0 x3_2) = 0 then (some false) else (if (bt a0 x3_2) ≥ 65 then (if (bt a0 x3_2) ≤ 90 then (some false) else (spec_NameOk.l0 k2 a0 (wrap64 (x3_2 + 1)))) else (spec_NameOk.l0 k2 a0 (wrap64 (x3_2 + 1)))))))) = some r := H
        have A18 := Ak A180
        clear A180
        by_cases c19 : t103 = true
        ·subst c19
         rw [if_pos rfl] at H
         obtain rfl := Oi H
         have p17 : 0 ≤ (x3_2 : Int) := of_decide_eq_true (by assumption)
         have q17 : x3_2 < (a0.size : Int) := of_decide_eq_true (by assumption)
         have hx17 := bt_at a0 x3_2
         replace p17 := eq_true p17
         replace q17 := eq_true q17
         go_wp2_with (first | (go_at_call 108; (with_reducible refine (spec_IsBlank.calls (wrap64 (bt a0 x3_2)) true _ A18.out).mono ?_); rintro e w' ⟨rfl, ⟨nd, rfl⟩⟩))
         go_ret
         exact ⟨rfl, by repeat (first | exact HB.out | apply below_alloc | apply pw_below_drewN | apply below_drew1)⟩
        ·replace c19 := Bool.eq_false_iff.mpr c19
         subst c19
         rw [if_neg (show ¬ (false = true) by decide)] at H
         by_cases c21 : (bt a0 x3_2) = 47
         ·rw [if_pos c21] at H
          have c21b0 := beq_iff_eq.mpr c21
          have c21b1 := bne_eq_false_iff_eq.mpr c21
          clear c21
          obtain rfl := Oi H
          have p17 : 0 ≤ (x3_2 : Int) := of_decide_eq_true (by assumption)
          have q17 : x3_2 < (a0.size : Int) := of_decide_eq_true (by assumption)
          have hx17 := bt_at a0 x3_2
          replace p17 := eq_true p17
          replace q17 := eq_true q17
          go_wp2_with (first | (go_at_call 108; (with_reducible refine (spec_IsBlank.calls (wrap64 (bt a0 x3_2)) false _ A18.out).mono ?_); rintro e w' ⟨rfl, ⟨nd, rfl⟩⟩; have p20 : 0 ≤ (x3_2 : Int) := of_decide_eq_true (by assumption); have q20 : x3_2 < (a0.size : Int) := of_decide_eq_true (by assumption); have hx20 := bt_at a0 x3_2; replace p20 := eq_true p20; replace q20 := eq_true q20))
          go_ret
          exact ⟨rfl, by repeat (first | exact HB.out | apply below_alloc | apply pw_below_drewN | apply below_drew1)⟩
         ·rw [if_neg c21] at H
          have c21b0 := beq_eq_false_iff_ne.mpr c21
          have c21b1 := bne_iff_ne.mpr c21
          by_cases c23 : (bt a0 x3_2) = 62
          ·rw [if_pos c23] at H
           have c23b0 := beq_iff_eq.mpr c23
           have c23b1 := bne_eq_false_iff_eq.mpr c23
           clear c23
           obtain rfl := Oi H
           have p17 : 0 ≤ (x3_2 : Int) := of_decide_eq_true (by assumption)
           have q17 : x3_2 < (a0.size : Int) := of_decide_eq_true (by assumption)
           have hx17 := bt_at a0 x3_2
           replace p17 := eq_true p17
           replace q17 := eq_true q17
           go_wp2_with (first | (go_at_call 108; (with_reducible refine (spec_IsBlank.calls (wrap64 (bt a0 x3_2)) false _ A18.out).mono ?_); rintro e w' ⟨rfl, ⟨nd, rfl⟩⟩; have p20 : 0 ≤ (x3_2 : Int) := of_decide_eq_true (by assumption); have q20 : x3_2 < (a0.size : Int) := of_decide_eq_true (by assumption); have hx20 := bt_at a0 x3_2; replace p20 := eq_true p20; replace q20 := eq_true q20; have p22 : 0 ≤ (x3_2 : Int) := of_decide_eq_true (by assumption); have q22 : x3_2 < (a0.size : Int) := of_decide_eq_true (by assumption); have hx22 := bt_at a0 x3_2; replace p22 := eq_true p22; replace q22 := eq_true q22))
           go_ret
           exact ⟨rfl, by repeat (first | exact HB.out | apply below_alloc | apply pw_below_drewN | apply below_drew1)⟩
          ·rw [if_neg c23] at H
           have c23b0 := beq_eq_false_iff_ne.mpr c23
           have c23b1 := bne_iff_ne.mpr c23
           by_cases c25 : (bt a0 x3_2) = 0
           ·rw [if_pos c25] at H
            have c25b0 := beq_iff_eq.mpr c25
            have c25b1 := bne_eq_false_iff_eq.mpr c25
            clear c25
            obtain rfl := Oi H
            have p17 : 0 ≤ (x3_2 : Int) := of_decide_eq_true (by assumption)
            have q17 : x3_2 < (a0.size : Int) := of_decide_eq_true (by assumption)
            have hx17 := bt_at a0 x3_2
            replace p17 := eq_true p17
            replace q17 := eq_true q17
            go_wp2_with (first | (go_at_call 108; (with_reducible refine (spec_IsBlank.calls (wrap64 (bt a0 x3_2)) false _ A18.out).mono ?_); rintro e w' ⟨rfl, ⟨nd, rfl⟩⟩; have p20 : 0 ≤ (x3_2 : Int) := of_decide_eq_true (by assumption); have q20 : x3_2 < (a0.size : Int) := of_decide_eq_true (by assumption); have hx20 := bt_at a0 x3_2; replace p20 := eq_true p20; replace q20 := eq_true q20; have p22 : 0 ≤ (x3_2 : Int) := of_decide_eq_true (by assumption); have q22 : x3_2 < (a0.size : Int) := of_decide_eq_true (by assumption); have hx22 := bt_at a0 x3_2; replace p22 := eq_true p22; replace q22 := eq_true q22; have p24 : 0 ≤ (x3_2 : Int) := of_decide_eq_true (by assumption); have q24 : x3_2 < (a0.size : Int) := of_decide_eq_true (by assumption); have hx24 := bt_at a0 x3_2; replace p24 := eq_true p24; replace q24 := eq_true q24))
            go_ret
            exact ⟨rfl, by repeat (first | exact HB.out | apply below_alloc | apply pw_below_drewN | apply below_drew1)⟩
           ·rw [if_neg c25] at H
            have c25b0 := beq_eq_false_iff_ne.mpr c25
            have c25b1 := bne_iff_ne.mpr c25
            by_cases c27 : (bt a0 x3_2) ≥ 65
            ·rw [if_pos c27] at H
             have c27b0 : decide (65 ≤ (bt a0 x3_2)) = true := decide_eq_true c27
             clear c27
             by_cases c29 : (bt a0 x3_2) ≤ 90
             ·rw [if_pos c29] at H
              have c29b0 := decide_eq_true c29
              clear c29
              obtain rfl := Oi H
              have p17 : 0 ≤ (x3_2 : Int) := of_decide_eq_true (by assumption)
              have q17 : x3_2 < (a0.size : Int) := of_decide_eq_true (by assumption)
              have hx17 := bt_at a0 x3_2
              replace p17 := eq_true p17
              replace q17 := eq_true q17
              go_wp2_with (first | (go_at_call 108; (with_reducible refine (spec_IsBlank.calls (wrap64 (bt a0 x3_2)) false _ A18.out).mono ?_); rintro e w' ⟨rfl, ⟨nd, rfl⟩⟩; have p20 : 0 ≤ (x3_2 : Int) := of_decide_eq_true (by assumption); have q20 : x3_2 < (a0.size : Int) := of_decide_eq_true (by assumption); have hx20 := bt_at a0 x3_2; replace p20 := eq_true p20; replace q20 := eq_true q20; have p22 : 0 ≤ (x3_2 : Int) := of_decide_eq_true (by assumption); have q22 : x3_2 < (a0.size : Int) := of_decide_eq_true (by assumption); have hx22 := bt_at a0 x3_2; replace p22 := eq_true p22; replace q22 := eq_true q22; have p24 : 0 ≤ (x3_2 : Int) := of_decide_eq_true (by assumption); have q24 : x3_2 < (a0.size : Int) := of_decide_eq_true (by assumption); have hx24 := bt_at a0 x3_2; replace p24 := eq_true p24; replace q24 := eq_true q24; have p26 : 0 ≤ (x3_2 : Int) := of_decide_eq_true (by assumption); have q26 : x3_2 < (a0.size : Int) := of_decide_eq_true (by assumption); have hx26 := bt_at a0 x3_2; replace p26 := eq_true p26; replace q26 := eq_true q26; have p28 : 0 ≤ (x3_2 : Int) := of_decide_eq_true (by assumption); have q28 : x3_2 < (a0.size : Int) := of_decide_eq_true (by assumption); have hx28 := bt_at a0 x3_2; replace p28 := eq_true p28; replace q28 := eq_true q28))
              go_ret
              exact ⟨rfl, by repeat (first | exact HB.out | apply below_alloc | apply pw_below_drewN | apply below_drew1)⟩
             ·rw [if_neg c29] at H
              have c29b0 := decide_eq_false c29
              clear c29
              have H' := Ak H
              clear H
              have p17 : 0 ≤ (x3_2 : Int) := of_decide_eq_true (by assumption)
              have q17 : x3_2 < (a0.size : Int) := of_decide_eq_true (by assumption)
              have hx17 := bt_at a0 x3_2
              replace p17 := eq_true p17
              replace q17 := eq_true q17
              go_wp2_with (first | (go_at_call 108; (with_reducible refine (spec_IsBlank.calls (wrap64 (bt a0 x3_2)) false _ A18.out).mono ?_); rintro e w' ⟨rfl, ⟨nd, rfl⟩⟩; have p20 : 0 ≤ (x3_2 : Int) := of_decide_eq_true (by assumption); have q20 : x3_2 < (a0.size : Int) := of_decide_eq_true (by assumption); have hx20 := bt_at a0 x3_2; replace p20 := eq_true p20; replace q20 := eq_true q20; have p22 : 0 ≤ (x3_2 : Int) := of_decide_eq_true (by assumption); have q22 : x3_2 < (a0.size : Int) := of_decide_eq_true (by assumption); have hx22 := bt_at a0 x3_2; replace p22 := eq_true p22; replace q22 := eq_true q22; have p24 : 0 ≤ (x3_2 : Int) := of_decide_eq_true (by assumption); have q24 : x3_2 < (a0.size : Int) := of_decide_eq_true (by assumption); have hx24 := bt_at a0 x3_2; replace p24 := eq_true p24; replace q24 := eq_true q24; have p26 : 0 ≤ (x3_2 : Int) := of_decide_eq_true (by assumption); have q26 : x3_2 < (a0.size : Int) := of_decide_eq_true (by assumption); have hx26 := bt_at a0 x3_2; replace p26 := eq_true p26; replace q26 := eq_true q26; have p28 : 0 ≤ (x3_2 : Int) := of_decide_eq_true (by assumption); have q28 : x3_2 < (a0.size : Int) := of_decide_eq_true (by assumption); have hx28 := bt_at a0 x3_2; replace p28 := eq_true p28; replace q28 := eq_true q28))
              go_roundg k2
              case measure => have := HJ1.out; have := HK2.out; omega
              case rel => exact ⟨(wrap64 (x3_2 + 1)), rfl, H', ⟨by have := HJ1.out; have := HK2.out; omega⟩, ⟨by repeat (first | exact HB.out | apply below_alloc | apply pw_below_drewN | apply below_drew1)⟩⟩
            ·rw [if_neg c27] at H
             have c27b0 : decide (65 ≤ (bt a0 x3_2)) = false := decide_eq_false c27
             clear c27
             have H' := Ak H
             clear H
             have p17 : 0 ≤ (x3_2 : Int) := of_decide_eq_true (by assumption)
             have q17 : x3_2 < (a0.size : Int) := of_decide_eq_true (by assumption)
             have hx17 := bt_at a0 x3_2
             replace p17 := eq_true p17
             replace q17 := eq_true q17
             go_wp2_with (first | (go_at_call 108; (with_reducible refine (spec_IsBlank.calls (wrap64 (bt a0 x3_2)) false _ A18.out).mono ?_); rintro e w' ⟨rfl, ⟨nd, rfl⟩⟩; have p20 : 0 ≤ (x3_2 : Int) := of_decide_eq_true (by assumption); have q20 : x3_2 < (a0.size : Int) := of_decide_eq_true (by assumption); have hx20 := bt_at a0 x3_2; replace p20 := eq_true p20; replace q20 := eq_true q20; have p22 : 0 ≤ (x3_2 : Int) := of_decide_eq_true (by assumption); have q22 : x3_2 < (a0.size : Int) := of_decide_eq_true (by assumption); have hx22 := bt_at a0 x3_2; replace p22 := eq_true p22; replace q22 := eq_true q22; have p24 : 0 ≤ (x3_2 : Int) := of_decide_eq_true (by assumption); have q24 : x3_2 < (a0.size : Int) := of_decide_eq_true (by assumption); have hx24 := bt_at a0 x3_2; replace p24 := eq_true p24; replace q24 := eq_true q24; have p26 : 0 ≤ (x3_2 : Int) := of_decide_eq_true (by assumption); have q26 : x3_2 < (a0.size : Int) := of_decide_eq_true (by assumption); have hx26 := bt_at a0 x3_2; replace p26 := eq_true p26; replace q26 := eq_true q26))
             go_roundg k2
             case measure => have := HJ1.out; have := HK2.out; omega
             case rel => exact ⟨(wrap64 (x3_2 + 1)), rfl, H', ⟨by have := HJ1.out; have := HK2.out; omega⟩, ⟨by repeat (first | exact HB.out | apply below_alloc | apply pw_below_drewN | apply below_drew1)⟩⟩
       ·rw [if_neg c16] at H
        exact absurd H (by simp)
      ·rw [if_neg c15] at H
       have c15b0 := decide_eq_false c15
       clear c15
       obtain rfl := Oi H
       go_wp2
       go_ret
       exact ⟨rfl, by repeat (first | exact HB.out | apply below_alloc | apply pw_below_drewN | apply below_drew1)⟩
def spec_l4Attr.f (k : Nat) (a0_0 : ByteArray) (a0_1 : ByteArray) : Option (Bool) := (spec_l1In.f (a0_0.size : Int) 1 60).bind fun t102 => (if t102 = true then (if (a0_1.size : Int) ≤ 3000 then ((spec_l1Ok.f k a0_0).bind fun t103 => (if t103 = true then ((spec_l1Ok.f k a0_1).bind fun t104 => (some t104)) else (some false))) else (some false)) else (some false))
theorem spec_l4Attr.mono : ∀ a0 a1 k, LeO (spec_l4Attr.f k a0 a1) (spec_l4Attr.f (k + 1) a0 a1) := by
 intro a0 a1 k
 unfold spec_l4Attr.f
 repeat' (with_reducible first | exact spec_l1Ok.mono _ _ | exact LeO.refl _ | exact LeO.none _ | refine LeO.ite ?_ ?_ | refine LeO.bind ?_ (fun _ => ?_))
theorem spec_l4Attr.calls (k : Nat) (a0_0 : ByteArray) (a0_1 : ByteArray) (r : Bool) (w : World) (h : spec_l4Attr.f k a0_0 a0_1 = some r) :
 Calls Try.prog 109 #[.agg #[.string a0_0, .string a0_1]] w fun e w' => e = .returned (.bool r) ∧ Below w.heap.size w w' := by
 have hu98 := Try.underlying98
 have HB := Ak (Below.refl w.heap.size w)
 have H : ((spec_l1In.f (a0_0.size : Int) 1 60).bind fun t102 => (if t102 = true then (if (a0_1.size : Int) ≤ 3000 then ((spec_l1Ok.f k a0_0).bind fun t103 => (if t103 = true then ((spec_l1Ok.f k a0_1).bind fun t104 => (some t104)) else (some false))) else (some false)) else (some false))) = some r := h
 clear h
 replace H := Ob H
 obtain ⟨t102, A20, H⟩ := H
 replace H : (if t102 = true then (if (a0_1.size : Int) ≤ 3000 then ((spec_l1Ok.f k a0_0).bind fun t103 => (if t103 = true then ((spec_l1Ok.f k a0_1).bind fun t104 => (some t104)) else (some false))) else (some false)) else (some false)) = some r := H
 have A2 := Ak A20
 clear A20
 by_cases c3 : t102 = true
 ·subst c3
  rw [if_pos rfl] at H
  by_cases c4 : (a0_1.size : Int) ≤ 3000
  ·rw [if_pos c4] at H
   have c4b0 := decide_eq_true c4
   have c4b1 : decide (a0_1.size ≤ 3000) = true := decide_eq_true (by omega)
   clear c4
   replace H := Ob H
   obtain ⟨t103, A50, H⟩ := H
   replace H : (if t103 = true then ((spec_l1Ok.f k a0_1).bind fun t104 => (some t104)) else (some false)) = some r := H
   have A5 := Ak A50
   clear A50
   by_cases c6 : t103 = true
   ·subst c6
    rw [if_pos rfl] at H
    replace H := Ob H
    obtain ⟨t104, A70, H⟩ := H
    replace H : (some t104) = some r := H
    have A7 := Ak A70
    clear A70
    obtain rfl := Oi H
    go_enter Try.func109, Try.ntmps109
    go_wp2_with (first | ((with_reducible refine gate_dst (N := 1) rfl ?_); (try (refine gate_guard (by rfl) ?_; dsimp only)); refine box_event ?hg (N := 1) ?hd (cs := #[.string a0_0, .string a0_1]) (t := 98) ?hr ?_; (case hd => rfl); (case hg => rfl); (case hr => go_simp); intro gb101 hg w8 hbox hb; have n0_ := Ak (below_step (HB.out) hb); have n1_ := Ak (hbox); have n2_ := Ak ((by rw [hg]; exact (below_size (HB.out)) : w.heap.size ≤ gb101)); have n3_ := n2_; clear HB; have HB := n0_; have BK101 := n1_; have GW101 := n2_; have GE101 := n3_; clear n0_ n1_ n2_ n3_; clear hb hbox hg; have hcz9_0 := blk_cell BK101.out 0; have hcz9_1 := blk_cell BK101.out 1; have hfz9_0 := blk_frozen BK101.out 0; have hfz9_1 := blk_frozen BK101.out 1) | (go_at_call 37; (with_reducible refine (spec_l1In.calls (a0_0.size : Int) 1 60 true _ A2.out).mono ?_); rintro e w' ⟨rfl, ⟨nd, rfl⟩⟩) | (go_at_call 79; (with_reducible refine (spec_l1Ok.calls k a0_0 true _ A5.out).mono ?_); rintro e w10 ⟨rfl, hb⟩; replace BK101 := Ak (blk_below (g := gb101) (o := .cells #[.string a0_0, .string a0_1] 98 (0, 0)) (by (with_reducible repeat (first | refine blk_drewN ?_ _ | refine blk_drew ?_ | refine blk_alloc ?_ _)); exact BK101.out) hb); replace HB := Ak (below_step (by repeat (first | exact HB.out | apply below_alloc | apply pw_below_drewN | apply below_drew1 | refine below_set ?_ GE101.out)) hb); (try clear hb); have hcz11_0 := blk_cell BK101.out 0; have hcz11_1 := blk_cell BK101.out 1; have hfz11_0 := blk_frozen BK101.out 0; have hfz11_1 := blk_frozen BK101.out 1) | (go_at_call 79; (with_reducible refine (spec_l1Ok.calls k a0_1 t104 _ A7.out).mono ?_); rintro e w12 ⟨rfl, hb⟩; replace BK101 := Ak (blk_below (g := gb101) (o := .cells #[.string a0_0, .string a0_1] 98 (0, 0)) (by (with_reducible repeat (first | refine blk_drewN ?_ _ | refine blk_drew ?_ | refine blk_alloc ?_ _)); exact BK101.out) hb); replace HB := Ak (below_step (by repeat (first | exact HB.out | apply below_alloc | apply pw_below_drewN | apply below_drew1 | refine below_set ?_ GE101.out)) hb); (try clear hb)))
    go_ret
    exact ⟨rfl, by repeat (first | exact HB.out | apply below_alloc | apply pw_below_drewN | apply below_drew1 | refine below_set ?_ GE101.out)⟩
   ·replace c6 := Bool.eq_false_iff.mpr c6
    subst c6
    rw [if_neg (show ¬ (false = true) by decide)] at H
    obtain rfl := Oi H
    go_enter Try.func109, Try.ntmps109
    go_wp2_with (first | ((with_reducible refine gate_dst (N := 1) rfl ?_); (try (refine gate_guard (by rfl) ?_; dsimp only)); refine box_event ?hg (N := 1) ?hd (cs := #[.string a0_0, .string a0_1]) (t := 98) ?hr ?_; (case hd => rfl); (case hg => rfl); (case hr => go_simp); intro gb101 hg w13 hbox hb; have n0_ := Ak (below_step (HB.out) hb); have n1_ := Ak (hbox); have n2_ := Ak ((by rw [hg]; exact (below_size (HB.out)) : w.heap.size ≤ gb101)); have n3_ := n2_; clear HB; have HB := n0_; have BK101 := n1_; have GW101 := n2_; have GE101 := n3_; clear n0_ n1_ n2_ n3_; clear hb hbox hg; have hcz14_0 := blk_cell BK101.out 0; have hcz14_1 := blk_cell BK101.out 1; have hfz14_0 := blk_frozen BK101.out 0; have hfz14_1 := blk_frozen BK101.out 1) | (go_at_call 37; (with_reducible refine (spec_l1In.calls (a0_0.size : Int) 1 60 true _ A2.out).mono ?_); rintro e w' ⟨rfl, ⟨nd, rfl⟩⟩) | (go_at_call 79; (with_reducible refine (spec_l1Ok.calls k a0_0 false _ A5.out).mono ?_); rintro e w15 ⟨rfl, hb⟩; replace BK101 := Ak (blk_below (g := gb101) (o := .cells #[.string a0_0, .string a0_1] 98 (0, 0)) (by (with_reducible repeat (first | refine blk_drewN ?_ _ | refine blk_drew ?_ | refine blk_alloc ?_ _)); exact BK101.out) hb); replace HB := Ak (below_step (by repeat (first | exact HB.out | apply below_alloc | apply pw_below_drewN | apply below_drew1 | refine below_set ?_ GE101.out)) hb); (try clear hb)))
    go_ret
    exact ⟨rfl, by repeat (first | exact HB.out | apply below_alloc | apply pw_below_drewN | apply below_drew1 | refine below_set ?_ GE101.out)⟩
  ·rw [if_neg c4] at H
   have c4b0 := decide_eq_false c4
   have c4b1 : decide (a0_1.size ≤ 3000) = false := decide_eq_false (by omega)
   clear c4
   obtain rfl := Oi H
   go_enter Try.func109, Try.ntmps109
   go_wp2_with (first | ((with_reducible refine gate_dst (N := 1) rfl ?_); (try (refine gate_guard (by rfl) ?_; dsimp only)); refine box_event ?hg (N := 1) ?hd (cs := #[.string a0_0, .string a0_1]) (t := 98) ?hr ?_; (case hd => rfl); (case hg => rfl); (case hr => go_simp); intro gb101 hg w16 hbox hb; have n0_ := Ak (below_step (HB.out) hb); have n1_ := Ak (hbox); have n2_ := Ak ((by rw [hg]; exact (below_size (HB.out)) : w.heap.size ≤ gb101)); have n3_ := n2_; clear HB; have HB := n0_; have BK101 := n1_; have GW101 := n2_; have GE101 := n3_; clear n0_ n1_ n2_ n3_; clear hb hbox hg; have hcz17_0 := blk_cell BK101.out 0; have hcz17_1 := blk_cell BK101.out 1; have hfz17_0 := blk_frozen BK101.out 0; have hfz17_1 := blk_frozen BK101.out 1) | (go_at_call 37; (with_reducible refine (spec_l1In.calls (a0_0.size : Int) 1 60 true _ A2.out).mono ?_); rintro e w' ⟨rfl, ⟨nd, rfl⟩⟩))
   go_ret
   exact ⟨rfl, by repeat (first | exact HB.out | apply below_alloc | apply pw_below_drewN | apply below_drew1 | refine below_set ?_ GE101.out)⟩
 ·replace c3 := Bool.eq_false_iff.mpr c3
  subst c3
  rw [if_neg (show ¬ (false = true) by decide)] at H
  obtain rfl := Oi H
  go_enter Try.func109, Try.ntmps109
  go_wp2_with (first | ((with_reducible refine gate_dst (N := 1) rfl ?_); (try (refine gate_guard (by rfl) ?_; dsimp only)); refine box_event ?hg (N := 1) ?hd (cs := #[.string a0_0, .string a0_1]) (t := 98) ?hr ?_; (case hd => rfl); (case hg => rfl); (case hr => go_simp); intro gb101 hg w18 hbox hb; have n0_ := Ak (below_step (HB.out) hb); have n1_ := Ak (hbox); have n2_ := Ak ((by rw [hg]; exact (below_size (HB.out)) : w.heap.size ≤ gb101)); have n3_ := n2_; clear HB; have HB := n0_; have BK101 := n1_; have GW101 := n2_; have GE101 := n3_; clear n0_ n1_ n2_ n3_; clear hb hbox hg; have hcz19_0 := blk_cell BK101.out 0; have hcz19_1 := blk_cell BK101.out 1; have hfz19_0 := blk_frozen BK101.out 0; have hfz19_1 := blk_frozen BK101.out 1) | (go_at_call 37; (with_reducible refine (spec_l1In.calls (a0_0.size : Int) 1 60 false _ A2.out).mono ?_); rintro e w' ⟨rfl, ⟨nd, rfl⟩⟩))
  go_ret
  exact ⟨rfl, by repeat (first | exact HB.out | apply below_alloc | apply pw_below_drewN | apply below_drew1 | refine below_set ?_ GE101.out)⟩
mutual
def spec_AttrsOk.l0 : Nat → List (S98) → Int → Option (Bool)
 | 0, _, _ => none
 | k + 1, x0, x3 => if x3 < (x0.length : Int) then (if 0 ≤ x3 then ((spec_l4Attr.f k ((rd_T98 x0 x3).f0) ((rd_T98 x0 x3).f1)).bind fun t102 => (if t102 = true then (spec_AttrsOk.l1 k x0 x3 0) else (some false))) else (none)) else (some true)
def spec_AttrsOk.l1 : Nat → List (S98) → Int → Int → Option (Bool)
 | 0, _, _, _ => none
 | k + 1, x0, x3, x4 => if x4 < x3 then (if 0 ≤ x4 then (if x4 < (x0.length : Int) then (if 0 ≤ x3 then (if x3 < (x0.length : Int) then (if ((rd_T98 x0 x4).f0).toList = ((rd_T98 x0 x3).f0).toList then (some false) else (spec_AttrsOk.l1 k x0 x3 (wrap64 (x4 + 1)))) else (none)) else (none)) else (none)) else (none)) else (spec_AttrsOk.l0 k x0 (wrap64 (x3 + 1)))
end
def spec_AttrsOk.f (k : Nat) (l0 : List (S98)) : Option (Bool) := if (l0.length : Int) > 20 then (some false) else (spec_AttrsOk.l0 k l0 0)
theorem spec_AttrsOk.mono_l : ∀ k, (∀ y0 y1, LeO (spec_AttrsOk.l0 k y0 y1) (spec_AttrsOk.l0 (k + 1) y0 y1)) ∧ (∀ y0 y1 y2, LeO (spec_AttrsOk.l1 k y0 y1 y2) (spec_AttrsOk.l1 (k + 1) y0 y1 y2))
 | 0 => ⟨fun _ _ r h => by simp [spec_AttrsOk.l0] at h, fun _ _ _ r h => by simp [spec_AttrsOk.l1] at h⟩
 | k + 1 => by
  obtain ⟨ih0, ih1⟩ := spec_AttrsOk.mono_l k
  refine ⟨?_, ?_⟩
  ·intro y0 y1
   unfold spec_AttrsOk.l0
   repeat' (with_reducible first | exact ih0 _ _ | exact ih1 _ _ _ | exact spec_l4Attr.mono _ _ _ | exact LeO.refl _ | exact LeO.none _ | refine LeO.ite ?_ ?_ | refine LeO.bind ?_ (fun _ => ?_))
  ·intro y0 y1 y2
   unfold spec_AttrsOk.l1
   repeat' (with_reducible first | exact ih0 _ _ | exact ih1 _ _ _ | exact spec_l4Attr.mono _ _ _ | exact LeO.refl _ | exact LeO.none _ | refine LeO.ite ?_ ?_ | refine LeO.bind ?_ (fun _ => ?_))
theorem spec_AttrsOk.mono : ∀ a0 k, LeO (spec_AttrsOk.f k a0) (spec_AttrsOk.f (k + 1) a0) := by
 intro a0 k
 obtain ⟨ih0, ih1⟩ := spec_AttrsOk.mono_l k
 unfold spec_AttrsOk.f
 repeat' (with_reducible first | exact ih0 _ _ | exact ih1 _ _ _ | exact spec_l4Attr.mono _ _ _ | exact LeO.refl _ | exact LeO.none _ | refine LeO.ite ?_ ?_ | refine LeO.bind ?_ (fun _ => ?_))
theorem spec_AttrsOk.calls (k : Nat) (A0 : Option Addr) (c0 : Nat) (l0 : List (S98)) (r : Bool) (w : World) (hr0 : Kd.C k98 w A0 l0.length l0) (hc0 : l0.length ≤ c0) (h : spec_AttrsOk.f k l0 = some r) :
 Calls Try.prog 81 #[.slice A0 l0.length c0] w fun e w' => e = .returned (.bool r) ∧ Below w.heap.size w w' := by
 have hu98 := Try.underlying98
 have HR0 := Ak hr0
 have HC0 := Ak hc0
 clear hr0 hc0
 have HB := Ak (Below.refl w.heap.size w)
 have H : (if (l0.length : Int) > 20 then (some false) else (spec_AttrsOk.l0 k l0 0)) = some r := h
 clear h
 by_cases c2 : (l0.length : Int) > 20
 ·rw [if_pos c2] at H
  have c2b0 : decide (20 < (l0.length : Int)) = true := decide_eq_true c2
  have c2b1 : decide (20 < l0.length) = true := decide_eq_true (by omega)
  clear c2
  obtain rfl := Oi H
  go_enter Try.func81, Try.ntmps81
  go_wp2
  repeat (go_quiet (fail); try go_wp2)
  go_ret
  exact ⟨rfl, by repeat (first | exact HB.out | apply below_alloc | apply pw_below_drewN | apply below_drew1)⟩
 ·rw [if_neg c2] at H
  have c2b0 : decide (20 < (l0.length : Int)) = false := decide_eq_false c2
  have c2b1 : decide (20 < l0.length) = false := decide_eq_false (by omega)
  clear c2
  have H' := Ak H
  clear H
  go_enter Try.func81, Try.ntmps81
  go_wp2
  repeat (go_quiet (fail); try go_wp2)
  go_loopg [3] k (fun kq v3 w' => ∃ (x3_1 : Int), v3 = .int .i64 x3_1 ∧ Aside0 (spec_AttrsOk.l0 kq l0 x3_1 = some r) ∧ Aside0 (kq ≤ k) ∧ Aside0 (Below w.heap.size w w'))
  case atStart => exact ⟨(0), rfl, H', ⟨Nat.le_refl _⟩, ⟨by repeat (first | exact HB.out | apply below_alloc | apply pw_below_drewN | apply below_drew1)⟩⟩
  case round =>
   clear H'
   obtain ⟨x3_1, rfl, HA, HK1, HB⟩ := hrel
   cases gk with
   | zero => exact absurd HA.out (by simp [spec_AttrsOk.l0])
   | succ k1 =>
    have H := HA.out
    clear HA
    simp only [spec_AttrsOk.l0] at H
    by_cases c3 : x3_1 < (l0.length : Int)
    ·rw [if_pos c3] at H
     have c3b0 := decide_eq_true c3
     clear c3
     by_cases c4 : 0 ≤ x3_1
     ·rw [if_pos c4] at H
      have c4b0 := decide_eq_true c4
      clear c4
      replace H := Ob H
      obtain ⟨t102, A50, H⟩ := H
      replace H : (if t102 = true then (spec_AttrsOk.l1 k1 l0 x3_1 0) else (some false)) = some r := H
      have A5 := Ak A50
      clear A50
      by_cases c6 : t102 = true
      ·subst c6
       rw [if_pos rfl] at H
       have H' := Ak H
       clear H
       have p101 : 0 ≤ (x3_1 : Int) := of_decide_eq_true (by assumption)
       have q101 : x3_1 < (l0.length : Int) := of_decide_eq_true (by assumption)
       obtain ⟨ad101, e101, hx101_0, hx101_1⟩ := at_T98 HR0.out x3_1 p101 q101
       cases e101
       replace hx101_0 := pw_cell_below HB.out hx101_0
       replace hx101_1 := pw_cell_below HB.out hx101_1
       replace p101 := eq_true p101
       replace q101 := eq_true q101
       go_wp2_with (first | (go_at_call 109; (with_reducible refine (spec_l4Attr.calls k1 ((rd_T98 l0 x3_1).f0) ((rd_T98 l0 x3_1).f1) true _ A5.out).mono ?_); rintro e w7 ⟨rfl, hb⟩; replace HB := Ak (below_step (by repeat (first | exact HB.out | apply below_alloc | apply pw_below_drewN | apply below_drew1)) hb); (try clear hb)))
       repeat (go_quiet (first | (go_at_call 109; (with_reducible refine (spec_l4Attr.calls k1 ((rd_T98 l0 x3_1).f0) ((rd_T98 l0 x3_1).f1) true _ A5.out).mono ?_); rintro e w7 ⟨rfl, hb⟩; replace HB := Ak (below_step (by repeat (first | exact HB.out | apply below_alloc | apply pw_below_drewN | apply below_drew1)) hb); (try clear hb))); try go_wp2_with (first | (go_at_call 109; (with_reducible refine (spec_l4Attr.calls k1 ((rd_T98 l0 x3_1).f0) ((rd_T98 l0 x3_1).f1) true _ A5.out).mono ?_); rintro e w7 ⟨rfl, hb⟩; replace HB := Ak (below_step (by repeat (first | exact HB.out | apply below_alloc | apply pw_below_drewN | apply below_drew1)) hb); (try clear hb))))
       go_loopg [4] k1 (fun kq v4 w' => ∃ (x4_2 : Int), v4 = .int .i64 x4_2 ∧ Aside0 (spec_AttrsOk.l1 kq l0 x3_1 x4_2 = some r) ∧ Aside0 (kq ≤ k1) ∧ Aside0 (Below w.heap.size w w'))
       case atStart => exact ⟨(0), rfl, H', ⟨Nat.le_refl _⟩, ⟨by repeat (first | exact HB.out | apply below_alloc | apply pw_below_drewN | apply below_drew1)⟩⟩
       case round =>
        clear H'
        obtain ⟨x4_2, rfl, HA, HK2, HB⟩ := hrel
        cases gk with
        | zero => exact absurd HA.out (by simp [spec_AttrsOk.l1])
        | succ k2 =>
         have H := HA.out
         clear HA
         simp only [spec_AttrsOk.l1] at H
         by_cases c8 : x4_2 < x3_1
         ·rw [if_pos c8] at H
          have c8b0 := decide_eq_true c8
          clear c8
          by_cases c9 : 0 ≤ x4_2
          ·rw [if_pos c9] at H
           have c9b0 := decide_eq_true c9
           clear c9
           by_cases c10 : x4_2 < (l0.length : Int)
           ·rw [if_pos c10] at H
            have c10b0 := decide_eq_true c10
            clear c10
            by_cases c11 : 0 ≤ x3_1
            ·rw [if_pos c11] at H
             have c11b0 := decide_eq_true c11
             clear c11
             by_cases c12 : x3_1 < (l0.length : Int)
             ·rw [if_pos c12] at H
              have c12b0 := decide_eq_true c12
              clear c12
              by_cases c13 : ((rd_T98 l0 x4_2).f0).toList = ((rd_T98 l0 x3_1).f0).toList
              ·rw [if_pos c13] at H
               have c13b0 := beq_iff_eq.mpr c13
               have c13b1 := bne_eq_false_iff_eq.mpr c13
               clear c13
               obtain rfl := Oi H
               have p103 : 0 ≤ (x4_2 : Int) := of_decide_eq_true (by assumption)
               have q103 : x4_2 < (l0.length : Int) := of_decide_eq_true (by assumption)
               obtain ⟨ad103, e103, hx103_0, hx103_1⟩ := at_T98 HR0.out x4_2 p103 q103
               obtain rfl : ad101 = ad103 := (by injection e103)
               replace hx103_0 := pw_cell_below HB.out hx103_0
               replace hx103_1 := pw_cell_below HB.out hx103_1
               replace p103 := eq_true p103
               replace q103 := eq_true q103
               have p104 : 0 ≤ (x3_1 : Int) := of_decide_eq_true (by assumption)
               have q104 : x3_1 < (l0.length : Int) := of_decide_eq_true (by assumption)
               obtain ⟨ad104, e104, hx104_0, hx104_1⟩ := at_T98 HR0.out x3_1 p104 q104
               obtain rfl : ad101 = ad104 := (by injection e104)
               replace hx104_0 := pw_cell_below HB.out hx104_0
               replace hx104_1 := pw_cell_below HB.out hx104_1
               replace p104 := eq_true p104
               replace q104 := eq_true q104
               go_wp2
               repeat (go_quiet (fail); try go_wp2)
               go_ret
               exact ⟨rfl, by repeat (first | exact HB.out | apply below_alloc | apply pw_below_drewN | apply below_drew1)⟩
              ·rw [if_neg c13] at H
               have c13b0 := beq_eq_false_iff_ne.mpr c13
               have c13b1 := bne_iff_ne.mpr c13
               have H' := Ak H
               clear H
               have p103 : 0 ≤ (x4_2 : Int) := of_decide_eq_true (by assumption)
               have q103 : x4_2 < (l0.length : Int) := of_decide_eq_true (by assumption)
               obtain ⟨ad103, e103, hx103_0, hx103_1⟩ := at_T98 HR0.out x4_2 p103 q103
               obtain rfl : ad101 = ad103 := (by injection e103)
               replace hx103_0 := pw_cell_below HB.out hx103_0
               replace hx103_1 := pw_cell_below HB.out hx103_1
               replace p103 := eq_true p103
               replace q103 := eq_true q103
               have p104 : 0 ≤ (x3_1 : Int) := of_decide_eq_true (by assumption)
               have q104 : x3_1 < (l0.length : Int) := of_decide_eq_true (by assumption)
               obtain ⟨ad104, e104, hx104_0, hx104_1⟩ := at_T98 HR0.out x3_1 p104 q104
               obtain rfl : ad101 = ad104 := (by injection e104)
               replace hx104_0 := pw_cell_below HB.out hx104_0
               replace hx104_1 := pw_cell_below HB.out hx104_1
               replace p104 := eq_true p104
               replace q104 := eq_true q104
               go_wp2
               repeat (go_quiet (fail); try go_wp2)
               go_roundg k2
               case measure => have := HK1.out; have := HK2.out; omega
               case rel => exact ⟨(wrap64 (x4_2 + 1)), rfl, H', ⟨by have := HK1.out; have := HK2.out; omega⟩, ⟨by repeat (first | exact HB.out | apply below_alloc | apply pw_below_drewN | apply below_drew1)⟩⟩
             ·rw [if_neg c12] at H
              exact absurd H (by simp)
            ·rw [if_neg c11] at H
             exact absurd H (by simp)
           ·rw [if_neg c10] at H
            exact absurd H (by simp)
          ·rw [if_neg c9] at H
           exact absurd H (by simp)
         ·rw [if_neg c8] at H
          have c8b0 := decide_eq_false c8
          clear c8
          have H' := Ak H
          clear H
          go_wp2
          repeat (go_quiet (fail); try go_wp2)
          go_roundg k2
          case measure => have := HK1.out; have := HK2.out; omega
          case rel => exact ⟨(wrap64 (x3_1 + 1)), rfl, H', ⟨by have := HK1.out; have := HK2.out; omega⟩, ⟨by repeat (first | exact HB.out | apply below_alloc | apply pw_below_drewN | apply below_drew1)⟩⟩
      ·replace c6 := Bool.eq_false_iff.mpr c6
       subst c6
       rw [if_neg (show ¬ (false = true) by decide)] at H
       obtain rfl := Oi H
       have p101 : 0 ≤ (x3_1 : Int) := of_decide_eq_true (by assumption)
       have q101 : x3_1 < (l0.length : Int) := of_decide_eq_true (by assumption)
       obtain ⟨ad101, e101, hx101_0, hx101_1⟩ := at_T98 HR0.out x3_1 p101 q101
       cases e101
       replace hx101_0 := pw_cell_below HB.out hx101_0
       replace hx101_1 := pw_cell_below HB.out hx101_1
       replace p101 := eq_true p101
       replace q101 := eq_true q101
       go_wp2_with (first | (go_at_call 109; (with_reducible refine (spec_l4Attr.calls k1 ((rd_T98 l0 x3_1).f0) ((rd_T98 l0 x3_1).f1) false _ A5.out).mono ?_); rintro e w14 ⟨rfl, hb⟩; replace HB := Ak (below_step (by repeat (first | exact HB.out | apply below_alloc | apply pw_below_drewN | apply below_drew1)) hb); (try clear hb)))
       repeat (go_quiet (first | (go_at_call 109; (with_reducible refine (spec_l4Attr.calls k1 ((rd_T98 l0 x3_1).f0) ((rd_T98 l0 x3_1).f1) false _ A5.out).mono ?_); rintro e w14 ⟨rfl, hb⟩; replace HB := Ak (below_step (by repeat (first | exact HB.out | apply below_alloc | apply pw_below_drewN | apply below_drew1)) hb); (try clear hb))); try go_wp2_with (first | (go_at_call 109; (with_reducible refine (spec_l4Attr.calls k1 ((rd_T98 l0 x3_1).f0) ((rd_T98 l0 x3_1).f1) false _ A5.out).mono ?_); rintro e w14 ⟨rfl, hb⟩; replace HB := Ak (below_step (by repeat (first | exact HB.out | apply below_alloc | apply pw_below_drewN | apply below_drew1)) hb); (try clear hb))))
       go_ret
       exact ⟨rfl, by repeat (first | exact HB.out | apply below_alloc | apply pw_below_drewN | apply below_drew1)⟩
     ·rw [if_neg c4] at H
      exact absurd H (by simp)
    ·rw [if_neg c3] at H
     have c3b0 := decide_eq_false c3
     clear c3
     obtain rfl := Oi H
     go_wp2
     repeat (go_quiet (fail); try go_wp2)
     go_ret
     exact ⟨rfl, by repeat (first | exact HB.out | apply below_alloc | apply pw_below_drewN | apply below_drew1)⟩
def spec_l6Node.j0 : Nat → Bool → Int → ByteArray → List (S98) → ByteArray → Int → List Int → Option (Bool)
 | 0, _, _, _, _, _, _, _ => none
 | k + 1, x3, x102000, x102001, x102002, x102003, x102004, x102005 => if x102000 = 1 then (if x3 = true then (some ((x102002.length : Int) == 0)) else (some false)) else (if x102000 = 2 then (if x102003.toList = ([] : List UInt8) then (if (x102002.length : Int) = 0 then (if (x102001.size : Int) ≤ 60 then ((spec_l1Ok.f k x102001).bind fun t102 => (if t102 = true then (some ((x102005.length : Int) == 0)) else (some false))) else (some false)) else (some false)) else (some false)) else (if x102000 = 3 then (if x102003.toList = ([] : List UInt8) then ((spec_NameOk.f k x102001).bind fun t103 => (if t103 = true then ((spec_AttrsOk.f k x102002).bind fun t104 => (some t104)) else (some false))) else (some false)) else (if x102000 = 4 then (if x102001.toList = ([] : List UInt8) then (if (x102002.length : Int) = 0 then (if x102003.toList = ([] : List UInt8) then (some false) else ((spec_l1Ok.f k x102003).bind fun t105 => (if t105 = true then (some ((x102005.length : Int) == 0)) else (some false)))) else (some false)) else (some false)) else (if x102000 = 5 then (if x102001.toList = ([] : List UInt8) then (if (x102002.length : Int) = 0 then ((spec_l1Ok.f k x102003).bind fun t106 => (if t106 = true then (some ((x102005.length : Int) == 0)) else (some false))) else (some false)) else (some false)) else (some false)))))
def spec_l6Node.f (k : Nat) (a0_0 : Int) (a0_1 : ByteArray) (l0_2 : List (S98)) (a0_3 : ByteArray) (a0_4 : Int) (l0_5 : List Int) : Option (Bool) := if a0_1.toList = ([] : List UInt8) then (spec_l6Node.j0 k (a0_3.toList == ([] : List UInt8)) a0_0 a0_1 l0_2 a0_3 a0_4 l0_5) else (spec_l6Node.j0 k false a0_0 a0_1 l0_2 a0_3 a0_4 l0_5)
theorem spec_l6Node.mono_l : ∀ k, (∀ y0 y1 y2 y3 y4 y5 y6, LeO (spec_l6Node.j0 k y0 y1 y2 y3 y4 y5 y6) (spec_l6Node.j0 (k + 1) y0 y1 y2 y3 y4 y5 y6))
 | 0 => fun _ _ _ _ _ _ _ r h => by simp [spec_l6Node.j0] at h
 | k + 1 => by
  have ih0 := spec_l6Node.mono_l k
  ·intro y0 y1 y2 y3 y4 y5 y6
   unfold spec_l6Node.j0
   repeat' (with_reducible first | exact ih0 _ _ _ _ _ _ _ | exact spec_AttrsOk.mono _ _ | exact spec_NameOk.mono _ _ | exact spec_l1Ok.mono _ _ | exact LeO.refl _ | exact LeO.none _ | refine LeO.ite ?_ ?_ | refine LeO.bind ?_ (fun _ => ?_))
theorem spec_l6Node.mono : ∀ a0 a1 a2 a3 a4 a5 k, LeO (spec_l6Node.f k a0 a1 a2 a3 a4 a5) (spec_l6Node.f (k + 1) a0 a1 a2 a3 a4 a5) := by
 intro a0 a1 a2 a3 a4 a5 k
 have ih0 := spec_l6Node.mono_l k
 unfold spec_l6Node.f
 repeat' (with_reducible first | exact ih0 _ _ _ _ _ _ _ | exact spec_AttrsOk.mono _ _ | exact spec_NameOk.mono _ _ | exact spec_l1Ok.mono _ _ | exact LeO.refl _ | exact LeO.none _ | refine LeO.ite ?_ ?_ | refine LeO.bind ?_ (fun _ => ?_))
theorem spec_l6Node.calls (k : Nat) (a0_0 : Int) (a0_1 : ByteArray) (A0_2 : Option Addr) (c0_2 : Nat) (l0_2 : List (S98)) (a0_3 : ByteArray) (a0_4 : Int) (A0_5 : Option Addr) (c0_5 : Nat) (l0_5 : List Int) (r : Bool) (w : World) (hr0_2 : Kd.C k98 w A0_2 l0_2.length l0_2) (hc0_2 : l0_2.length ≤ c0_2) (hr0_5 : Kd.C (Kd.int .i64) w A0_5 l0_5.length l0_5) (hc0_5 : l0_5.length ≤ c0_5) (h : spec_l6Node.f k a0_0 a0_1 l0_2 a0_3 a0_4 l0_5 = some r) :
 Calls Try.prog 38 #[.agg #[.int .i64 a0_0, .string a0_1, .slice A0_2 l0_2.length c0_2, .string a0_3, .int .i64 a0_4, .slice A0_5 l0_5.length c0_5]] w fun e w' => e = .returned (.bool r) ∧ Below w.heap.size w w' := by
 have hu45 := Try.underlying45
 have HR0_2 := Ak hr0_2
 have HC0_2 := Ak hc0_2
 clear hr0_2 hc0_2
 have HR0_5 := Ak hr0_5
 have HC0_5 := Ak hc0_5
 clear hr0_5 hc0_5
 have HB := Ak (Below.refl w.heap.size w)
 have H : (if a0_1.toList = ([] : List UInt8) then (spec_l6Node.j0 k (a0_3.toList == ([] : List UInt8)) a0_0 a0_1 l0_2 a0_3 a0_4 l0_5) else (spec_l6Node.j0 k false a0_0 a0_1 l0_2 a0_3 a0_4 l0_5)) = some r := h
 clear h
 have HC2 := Ak H
 clear H
 go_enter Try.func38, Try.ntmps38
 go_upto_region 1 with (first | ((with_reducible refine gate_dst (N := 1) rfl ?_); (try (refine gate_guard (by rfl) ?_; dsimp only)); refine box_event ?hg (N := 1) ?hd (cs := #[.int .i64 a0_0, .string a0_1, .slice A0_2 l0_2.length c0_2, .string a0_3, .int .i64 a0_4, .slice A0_5 l0_5.length c0_5]) (t := 45) ?hr ?_; (case hd => rfl); (case hg => rfl); (case hr => first | (go_simp; done) | (go_simp; rfl)); intro gb101 hg w3 hbox hb; have n0_ := Ak (below_step (HB.out) hb); have n1_ := Ak (hbox); have n2_ := Ak ((by rw [hg]; exact (below_size (HB.out)) : w.heap.size ≤ gb101)); have n3_ := n2_; clear HB; have HB := n0_; have BK101 := n1_; have GW101 := n2_; have GE101 := n3_; clear n0_ n1_ n2_ n3_; clear hb hbox hg))
 (try simp only [Act.put, List.setIfInBounds_toArray, List.set_cons_zero, List.set_cons_succ])
 go_cut [3] (fun v3 wc => ∃ (kq : Nat) (x3_1 : Bool), v3 = .bool x3_1 ∧ Aside0 (spec_l6Node.j0 kq x3_1 a0_0 a0_1 l0_2 a0_3 a0_4 l0_5 = some r) ∧ Aside0 (kq ≤ k) ∧ Aside0 (wc.heap[gb101]? = some (.cells #[.int .i64 a0_0, .string a0_1, (.slice A0_2 l0_2.length c0_2), .string a0_3, .int .i64 a0_4, (.slice A0_5 l0_5.length c0_5)] 45 (0, 0))) ∧ Aside0 (Below w.heap.size w wc))
 case first =>
  have H := HC2.out
  clear HC2
  by_cases c4 : a0_1.toList = ([] : List UInt8)
  ·rw [if_pos c4] at H
   have c4b0 := beq_iff_eq.mpr c4
   have c4b1 := bne_eq_false_iff_eq.mpr c4
   clear c4
   (first | rw [c4b0] | (simp only [i64_w, i32_w]; rw [c4b0]) | skip)
   have H' := Ak H
   clear H
   have hcz5_0 := blk_cell BK101.out 0
   have hcz5_1 := blk_cell BK101.out 1
   have hcz5_2 := blk_cell BK101.out 2
   have hcz5_3 := blk_cell BK101.out 3
   have hcz5_4 := blk_cell BK101.out 4
   have hcz5_5 := blk_cell BK101.out 5
   have hfz5_0 := blk_frozen BK101.out
   go_wp2
   go_meet
   case rel => exact ⟨_, ((a0_3.toList == ([] : List UInt8))), (by first | rfl | (simp; done) | (simp [*]; done)), H', ⟨by first | omega | exact Nat.le_refl _⟩, ⟨by (with_reducible repeat (first | refine blk_drewN ?_ _ | refine blk_drew ?_ | refine blk_alloc ?_ _)); exact BK101.out⟩, ⟨HB.out⟩⟩
  ·rw [if_neg c4] at H
   have c4b0 := beq_eq_false_iff_ne.mpr c4
   have c4b1 := bne_iff_ne.mpr c4
   (first | rw [c4b0] | (simp only [i64_w, i32_w]; rw [c4b0]) | skip)
   have H' := Ak H
   clear H
   have hcz6_0 := blk_cell BK101.out 0
   have hcz6_1 := blk_cell BK101.out 1
   have hcz6_2 := blk_cell BK101.out 2
   have hcz6_3 := blk_cell BK101.out 3
   have hcz6_4 := blk_cell BK101.out 4
   have hcz6_5 := blk_cell BK101.out 5
   have hfz6_0 := blk_frozen BK101.out
   go_wp2
   go_meet
   case rel => exact ⟨_, (false), (by first | rfl | (simp; done) | (simp [*]; done)), H', ⟨by first | omega | exact Nat.le_refl _⟩, ⟨by (with_reducible repeat (first | refine blk_drewN ?_ _ | refine blk_drew ?_ | refine blk_alloc ?_ _)); exact BK101.out⟩, ⟨HB.out⟩⟩
 case rest =>
  clear HC2
  obtain ⟨kq, x3_1, rfl, HA, HJ1, BK101, HB⟩ := hcut
  cases kq with
  | zero => exact absurd HA.out (by simp [spec_l6Node.j0])
  | succ kj1 =>
   have H := HA.out
   clear HA
   simp only [spec_l6Node.j0] at H
   by_cases c7 : a0_0 = 1
   ·rw [if_pos c7] at H
    have c7b0 := beq_iff_eq.mpr c7
    have c7b1 := bne_eq_false_iff_eq.mpr c7
    clear c7
    by_cases c8 : x3_1 = true
    ·subst c8
     rw [if_pos rfl] at H
     obtain rfl := Oi H
     have hcz9_0 := blk_cell BK101.out 0
     have hcz9_1 := blk_cell BK101.out 1
     have hcz9_2 := blk_cell BK101.out 2
     have hcz9_3 := blk_cell BK101.out 3
     have hcz9_4 := blk_cell BK101.out 4
     have hcz9_5 := blk_cell BK101.out 5
     have hfz9_0 := blk_frozen BK101.out
     go_wp2
     go_ret
     exact ⟨by first | rfl | (simp [*] <;> rfl), HB.out⟩
    ·replace c8 := Bool.eq_false_iff.mpr c8
     subst c8
     rw [if_neg (show ¬ (false = true) by decide)] at H
     obtain rfl := Oi H
     have hcz10_0 := blk_cell BK101.out 0
     have hcz10_1 := blk_cell BK101.out 1
     have hcz10_2 := blk_cell BK101.out 2
     have hcz10_3 := blk_cell BK101.out 3
     have hcz10_4 := blk_cell BK101.out 4
     have hcz10_5 := blk_cell BK101.out 5
     have hfz10_0 := blk_frozen BK101.out
     go_wp2
     go_ret
     exact ⟨by first | rfl | (simp [*] <;> rfl), HB.out⟩
   ·rw [if_neg c7] at H
    have c7b0 := beq_eq_false_iff_ne.mpr c7
    have c7b1 := bne_iff_ne.mpr c7
    by_cases c11 : a0_0 = 2
    ·rw [if_pos c11] at H
     have c11b0 := beq_iff_eq.mpr c11
     have c11b1 := bne_eq_false_iff_eq.mpr c11
     clear c11
     by_cases c12 : a0_3.toList = ([] : List UInt8)
     ·rw [if_pos c12] at H
      have c12b0 := beq_iff_eq.mpr c12
      have c12b1 := bne_eq_false_iff_eq.mpr c12
      clear c12
      by_cases c13 : (l0_2.length : Int) = 0
      ·rw [if_pos c13] at H
       have c13b0 := beq_iff_eq.mpr c13
       have c13b1 := bne_eq_false_iff_eq.mpr c13
       clear c13
       by_cases c14 : (a0_1.size : Int) ≤ 60
       ·rw [if_pos c14] at H
        have c14b0 := decide_eq_true c14
        have c14b1 : decide (a0_1.size ≤ 60) = true := decide_eq_true (by omega)
        clear c14
        replace H := Ob H
        obtain ⟨t102, A150, H⟩ := H
        replace H : (if t102 = true then (some ((l0_5.length : Int) == 0)) else (some false)) = some r := H
        have A15 := Ak A150
        clear A150
        by_cases c16 : t102 = true
        ·subst c16
         rw [if_pos rfl] at H
         obtain rfl := Oi H
         have hcz17_0 := blk_cell BK101.out 0
         have hcz17_1 := blk_cell BK101.out 1
         have hcz17_2 := blk_cell BK101.out 2
         have hcz17_3 := blk_cell BK101.out 3
         have hcz17_4 := blk_cell BK101.out 4
         have hcz17_5 := blk_cell BK101.out 5
         have hfz17_0 := blk_frozen BK101.out
         go_wp2_with (first | (go_at_call 79; (with_reducible refine (spec_l1Ok.calls kj1 a0_1 true _ A15.out).mono ?_); rintro e w18 ⟨rfl, hb⟩; replace BK101 := Ak (blk_below BK101.out hb); replace HB := Ak (below_step (HB.out) hb); (try clear hb); have hcz19_0 := blk_cell BK101.out 0; have hcz19_1 := blk_cell BK101.out 1; have hcz19_2 := blk_cell BK101.out 2; have hcz19_3 := blk_cell BK101.out 3; have hcz19_4 := blk_cell BK101.out 4; have hcz19_5 := blk_cell BK101.out 5; have hfz19_0 := blk_frozen BK101.out; have hfz19_1 := blk_frozen BK101.out 1; have hfz19_2 := blk_frozen BK101.out 2; have hfz19_3 := blk_frozen BK101.out 3; have hfz19_4 := blk_frozen BK101.out 4; have hfz19_5 := blk_frozen BK101.out 5))
         go_ret
         exact ⟨by first | rfl | (simp [*] <;> rfl), HB.out⟩
        ·replace c16 := Bool.eq_false_iff.mpr c16
         subst c16
         rw [if_neg (show ¬ (false = true) by decide)] at H
         obtain rfl := Oi H
         have hcz20_0 := blk_cell BK101.out 0
         have hcz20_1 := blk_cell BK101.out 1
         have hcz20_2 := blk_cell BK101.out 2
         have hcz20_3 := blk_cell BK101.out 3
         have hcz20_4 := blk_cell BK101.out 4
         have hcz20_5 := blk_cell BK101.out 5
         have hfz20_0 := blk_frozen BK101.out
         go_wp2_with (first | (go_at_call 79; (with_reducible refine (spec_l1Ok.calls kj1 a0_1 false _ A15.out).mono ?_); rintro e w21 ⟨rfl, hb⟩; replace BK101 := Ak (blk_below BK101.out hb); replace HB := Ak (below_step (HB.out) hb); (try clear hb)))
         go_ret
         exact ⟨by first | rfl | (simp [*] <;> rfl), HB.out⟩
       ·rw [if_neg c14] at H
        have c14b0 := decide_eq_false c14
        have c14b1 : decide (a0_1.size ≤ 60) = false := decide_eq_false (by omega)
        clear c14
        obtain rfl := Oi H
        have hcz22_0 := blk_cell BK101.out 0
        have hcz22_1 := blk_cell BK101.out 1
        have hcz22_2 := blk_cell BK101.out 2
        have hcz22_3 := blk_cell BK101.out 3
        have hcz22_4 := blk_cell BK101.out 4
        have hcz22_5 := blk_cell BK101.out 5
        have hfz22_0 := blk_frozen BK101.out
        go_wp2
        go_ret
        exact ⟨by first | rfl | (simp [*] <;> rfl), HB.out⟩
      ·rw [if_neg c13] at H
       have c13b0 := beq_eq_false_iff_ne.mpr c13
       have c13b1 := bne_iff_ne.mpr c13
       have c13b2 : ¬ (l0_2 = []) := fun h_ => c13 (by rw [h_]; rfl)
       obtain rfl := Oi H
       have hcz23_0 := blk_cell BK101.out 0
       have hcz23_1 := blk_cell BK101.out 1
       have hcz23_2 := blk_cell BK101.out 2
       have hcz23_3 := blk_cell BK101.out 3
       have hcz23_4 := blk_cell BK101.out 4
       have hcz23_5 := blk_cell BK101.out 5
       have hfz23_0 := blk_frozen BK101.out
       go_wp2
       go_ret
       exact ⟨by first | rfl | (simp [*] <;> rfl), HB.out⟩
     ·rw [if_neg c12] at H
      have c12b0 := beq_eq_false_iff_ne.mpr c12
      have c12b1 := bne_iff_ne.mpr c12
      obtain rfl := Oi H
      have hcz24_0 := blk_cell BK101.out 0
      have hcz24_1 := blk_cell BK101.out 1
      have hcz24_2 := blk_cell BK101.out 2
      have hcz24_3 := blk_cell BK101.out 3
      have hcz24_4 := blk_cell BK101.out 4
      have hcz24_5 := blk_cell BK101.out 5
      have hfz24_0 := blk_frozen BK101.out
      go_wp2
      go_ret
      exact ⟨by first | rfl | (simp [*] <;> rfl), HB.out⟩
    ·rw [if_neg c11] at H
     have c11b0 := beq_eq_false_iff_ne.mpr c11
     have c11b1 := bne_iff_ne.mpr c11
     by_cases c25 : a0_0 = 3
     ·rw [if_pos c25] at H
      have c25b0 := beq_iff_eq.mpr c25
      have c25b1 := bne_eq_false_iff_eq.mpr c25
      clear c25
      by_cases c26 : a0_3.toList = ([] : List UInt8)
      ·rw [if_pos c26] at H
       have c26b0 := beq_iff_eq.mpr c26
       have c26b1 := bne_eq_false_iff_eq.mpr c26
       clear c26
       replace H := Ob H
       obtain ⟨t103, A270, H⟩ := H
       replace H : (if t103 = true then ((spec_AttrsOk.f kj1 l0_2).bind fun t104 => (some t104)) else (some false)) = some r := H
       have A27 := Ak A270
       clear A270
       by_cases c28 : t103 = true
       ·subst c28
        rw [if_pos rfl] at H
        replace H := Ob H
        obtain ⟨t104, A290, H⟩ := H
        replace H : (some t104) = some r := H
        have A29 := Ak A290
        clear A290
        obtain rfl := Oi H
        have hcz30_0 := blk_cell BK101.out 0
        have hcz30_1 := blk_cell BK101.out 1
        have hcz30_2 := blk_cell BK101.out 2
        have hcz30_3 := blk_cell BK101.out 3
        have hcz30_4 := blk_cell BK101.out 4
        have hcz30_5 := blk_cell BK101.out 5
        have hfz30_0 := blk_frozen BK101.out
        go_wp2_with (first | (go_at_call 80; (with_reducible refine (spec_NameOk.calls kj1 a0_1 true _ A27.out).mono ?_); rintro e w31 ⟨rfl, hb⟩; replace BK101 := Ak (blk_below BK101.out hb); replace HB := Ak (below_step (HB.out) hb); (try clear hb); have hcz32_0 := blk_cell BK101.out 0; have hcz32_1 := blk_cell BK101.out 1; have hcz32_2 := blk_cell BK101.out 2; have hcz32_3 := blk_cell BK101.out 3; have hcz32_4 := blk_cell BK101.out 4; have hcz32_5 := blk_cell BK101.out 5; have hfz32_0 := blk_frozen BK101.out; have hfz32_1 := blk_frozen BK101.out 1; have hfz32_2 := blk_frozen BK101.out 2; have hfz32_3 := blk_frozen BK101.out 3; have hfz32_4 := blk_frozen BK101.out 4; have hfz32_5 := blk_frozen BK101.out 5) | (go_at_call 81; (with_reducible refine (spec_AttrsOk.calls kj1 _ _ l0_2 t104 _ ?side1 ?side2 A29.out).mono ?_); (case side1 => exact (Kd.C_below HR0_2.out HB.out)); (case side2 => exact HC0_2.out); rintro e w33 ⟨rfl, hb⟩; replace BK101 := Ak (blk_below BK101.out hb); replace HB := Ak (below_step (HB.out) hb); (try clear hb)))
        go_ret
        exact ⟨by first | rfl | (simp [*] <;> rfl), HB.out⟩
       ·replace c28 := Bool.eq_false_iff.mpr c28
        subst c28
        rw [if_neg (show ¬ (false = true) by decide)] at H
        obtain rfl := Oi H
        have hcz34_0 := blk_cell BK101.out 0
        have hcz34_1 := blk_cell BK101.out 1
        have hcz34_2 := blk_cell BK101.out 2
        have hcz34_3 := blk_cell BK101.out 3
        have hcz34_4 := blk_cell BK101.out 4
        have hcz34_5 := blk_cell BK101.out 5
        have hfz34_0 := blk_frozen BK101.out
        go_wp2_with (first | (go_at_call 80; (with_reducible refine (spec_NameOk.calls kj1 a0_1 false _ A27.out).mono ?_); rintro e w35 ⟨rfl, hb⟩; replace BK101 := Ak (blk_below BK101.out hb); replace HB := Ak (below_step (HB.out) hb); (try clear hb)))
        go_ret
        exact ⟨by first | rfl | (simp [*] <;> rfl), HB.out⟩
      ·rw [if_neg c26] at H
       have c26b0 := beq_eq_false_iff_ne.mpr c26
       have c26b1 := bne_iff_ne.mpr c26
       obtain rfl := Oi H
       have hcz36_0 := blk_cell BK101.out 0
       have hcz36_1 := blk_cell BK101.out 1
       have hcz36_2 := blk_cell BK101.out 2
       have hcz36_3 := blk_cell BK101.out 3
       have hcz36_4 := blk_cell BK101.out 4
       have hcz36_5 := blk_cell BK101.out 5
       have hfz36_0 := blk_frozen BK101.out
       go_wp2
       go_ret
       exact ⟨by first | rfl | (simp [*] <;> rfl), HB.out⟩
     ·rw [if_neg c25] at H
      have c25b0 := beq_eq_false_iff_ne.mpr c25
      have c25b1 := bne_iff_ne.mpr c25
      by_cases c37 : a0_0 = 4
      ·rw [if_pos c37] at H
       have c37b0 := beq_iff_eq.mpr c37
       have c37b1 := bne_eq_false_iff_eq.mpr c37
       clear c37
       by_cases c38 : a0_1.toList = ([] : List UInt8)
       ·rw [if_pos c38] at H
        have c38b0 := beq_iff_eq.mpr c38
        have c38b1 := bne_eq_false_iff_eq.mpr c38
        clear c38
        by_cases c39 : (l0_2.length : Int) = 0
        ·rw [if_pos c39] at H
         have c39b0 := beq_iff_eq.mpr c39
         have c39b1 := bne_eq_false_iff_eq.mpr c39
         clear c39
         by_cases c40 : a0_3.toList = ([] : List UInt8)
         ·rw [if_pos c40] at H
          have c40b0 := beq_iff_eq.mpr c40
          have c40b1 := bne_eq_false_iff_eq.mpr c40
          clear c40
          obtain rfl := Oi H
          have hcz41_0 := blk_cell BK101.out 0
          have hcz41_1 := blk_cell BK101.out 1
          have hcz41_2 := blk_cell BK101.out 2
          have hcz41_3 := blk_cell BK101.out 3
          have hcz41_4 := blk_cell BK101.out 4
          have hcz41_5 := blk_cell BK101.out 5
          have hfz41_0 := blk_frozen BK101.out
          go_wp2
          go_ret
          exact ⟨by first | rfl | (simp [*] <;> rfl), HB.out⟩
         ·rw [if_neg c40] at H
          have c40b0 := beq_eq_false_iff_ne.mpr c40
          have c40b1 := bne_iff_ne.mpr c40
          replace H := Ob H
          obtain ⟨t105, A420, H⟩ := H
          replace H : (if t105 = true then (some ((l0_5.length : Int) == 0)) else (some false)) = some r := H
          have A42 := Ak A420
          clear A420
          by_cases c43 : t105 = true
          ·subst c43
           rw [if_pos rfl] at H
           obtain rfl := Oi H
           have hcz44_0 := blk_cell BK101.out 0
           have hcz44_1 := blk_cell BK101.out 1
           have hcz44_2 := blk_cell BK101.out 2
           have hcz44_3 := blk_cell BK101.out 3
           have hcz44_4 := blk_cell BK101.out 4
           have hcz44_5 := blk_cell BK101.out 5
           have hfz44_0 := blk_frozen BK101.out
           go_wp2_with (first | (go_at_call 79; (with_reducible refine (spec_l1Ok.calls kj1 a0_3 true _ A42.out).mono ?_); rintro e w45 ⟨rfl, hb⟩; replace BK101 := Ak (blk_below BK101.out hb); replace HB := Ak (below_step (HB.out) hb); (try clear hb); have hcz46_0 := blk_cell BK101.out 0; have hcz46_1 := blk_cell BK101.out 1; have hcz46_2 := blk_cell BK101.out 2; have hcz46_3 := blk_cell BK101.out 3; have hcz46_4 := blk_cell BK101.out 4; have hcz46_5 := blk_cell BK101.out 5; have hfz46_0 := blk_frozen BK101.out; have hfz46_1 := blk_frozen BK101.out 1; have hfz46_2 := blk_frozen BK101.out 2; have hfz46_3 := blk_frozen BK101.out 3; have hfz46_4 := blk_frozen BK101.out 4; have hfz46_5 := blk_frozen BK101.out 5))
           go_ret
           exact ⟨by first | rfl | (simp [*] <;> rfl), HB.out⟩
          ·replace c43 := Bool.eq_false_iff.mpr c43
           subst c43
           rw [if_neg (show ¬ (false = true) by decide)] at H
           obtain rfl := Oi H
           have hcz47_0 := blk_cell BK101.out 0
           have hcz47_1 := blk_cell BK101.out 1
           have hcz47_2 := blk_cell BK101.out 2
           have hcz47_3 := blk_cell BK101.out 3
           have hcz47_4 := blk_cell BK101.out 4
           have hcz47_5 := blk_cell BK101.out 5
           have hfz47_0 := blk_frozen BK101.out
           go_wp2_with (first | (go_at_call 79; (with_reducible refine (spec_l1Ok.calls kj1 a0_3 false _ A42.out).mono ?_); rintro e w48 ⟨rfl, hb⟩; replace BK101 := Ak (blk_below BK101.out hb); replace HB := Ak (below_step (HB.out) hb); (try clear hb)))
           go_ret
           exact ⟨by first | rfl | (simp [*] <;> rfl), HB.out⟩
        ·rw [if_neg c39] at H
         have c39b0 := beq_eq_false_iff_ne.mpr c39
         have c39b1 := bne_iff_ne.mpr c39
         have c39b2 : ¬ (l0_2 = []) := fun h_ => c39 (by rw [h_]; rfl)
         obtain rfl := Oi H
         have hcz49_0 := blk_cell BK101.out 0
         have hcz49_1 := blk_cell BK101.out 1
         have hcz49_2 := blk_cell BK101.out 2
         have hcz49_3 := blk_cell BK101.out 3
         have hcz49_4 := blk_cell BK101.out 4
         have hcz49_5 := blk_cell BK101.out 5
         have hfz49_0 := blk_frozen BK101.out
         go_wp2
         go_ret
         exact ⟨by first | rfl | (simp [*] <;> rfl), HB.out⟩
       ·rw [if_neg c38] at H
        have c38b0 := beq_eq_false_iff_ne.mpr c38
        have c38b1 := bne_iff_ne.mpr c38
        obtain rfl := Oi H
        have hcz50_0 := blk_cell BK101.out 0
        have hcz50_1 := blk_cell BK101.out 1
        have hcz50_2 := blk_cell BK101.out 2
        have hcz50_3 := blk_cell BK101.out 3
        have hcz50_4 := blk_cell BK101.out 4
        have hcz50_5 := blk_cell BK101.out 5
        have hfz50_0 := blk_frozen BK101.out
        go_wp2
        go_ret
        exact ⟨by first | rfl | (simp [*] <;> rfl), HB.out⟩
      ·rw [if_neg c37] at H
       have c37b0 := beq_eq_false_iff_ne.mpr c37
       have c37b1 := bne_iff_ne.mpr c37
       by_cases c51 : a0_0 = 5
       ·rw [if_pos c51] at H
        have c51b0 := beq_iff_eq.mpr c51
        have c51b1 := bne_eq_false_iff_eq.mpr c51
        clear c51
        by_cases c52 : a0_1.toList = ([] : List UInt8)
        ·rw [if_pos c52] at H
         have c52b0 := beq_iff_eq.mpr c52
         have c52b1 := bne_eq_false_iff_eq.mpr c52
         clear c52
         by_cases c53 : (l0_2.length : Int) = 0
         ·rw [if_pos c53] at H
          have c53b0 := beq_iff_eq.mpr c53
          have c53b1 := bne_eq_false_iff_eq.mpr c53
          clear c53
          replace H := Ob H
          obtain ⟨t106, A540, H⟩ := H
          replace H : (if t106 = true then (some ((l0_5.length : Int) == 0)) else (some false)) = some r := H
          have A54 := Ak A540
          clear A540
          by_cases c55 : t106 = true
          ·subst c55
           rw [if_pos rfl] at H
           obtain rfl := Oi H
           have hcz56_0 := blk_cell BK101.out 0
           have hcz56_1 := blk_cell BK101.out 1
           have hcz56_2 := blk_cell BK101.out 2
           have hcz56_3 := blk_cell BK101.out 3
           have hcz56_4 := blk_cell BK101.out 4
           have hcz56_5 := blk_cell BK101.out 5
           have hfz56_0 := blk_frozen BK101.out
           go_wp2_with (first | (go_at_call 79; (with_reducible refine (spec_l1Ok.calls kj1 a0_3 true _ A54.out).mono ?_); rintro e w57 ⟨rfl, hb⟩; replace BK101 := Ak (blk_below BK101.out hb); replace HB := Ak (below_step (HB.out) hb); (try clear hb); have hcz58_0 := blk_cell BK101.out 0; have hcz58_1 := blk_cell BK101.out 1; have hcz58_2 := blk_cell BK101.out 2; have hcz58_3 := blk_cell BK101.out 3; have hcz58_4 := blk_cell BK101.out 4; have hcz58_5 := blk_cell BK101.out 5; have hfz58_0 := blk_frozen BK101.out; have hfz58_1 := blk_frozen BK101.out 1; have hfz58_2 := blk_frozen BK101.out 2; have hfz58_3 := blk_frozen BK101.out 3; have hfz58_4 := blk_frozen BK101.out 4; have hfz58_5 := blk_frozen BK101.out 5))
           go_ret
           exact ⟨by first | rfl | (simp [*] <;> rfl), HB.out⟩
          ·replace c55 := Bool.eq_false_iff.mpr c55
           subst c55
           rw [if_neg (show ¬ (false = true) by decide)] at H
           obtain rfl := Oi H
           have hcz59_0 := blk_cell BK101.out 0
           have hcz59_1 := blk_cell BK101.out 1
           have hcz59_2 := blk_cell BK101.out 2
           have hcz59_3 := blk_cell BK101.out 3
           have hcz59_4 := blk_cell BK101.out 4
           have hcz59_5 := blk_cell BK101.out 5
           have hfz59_0 := blk_frozen BK101.out
           go_wp2_with (first | (go_at_call 79; (with_reducible refine (spec_l1Ok.calls kj1 a0_3 false _ A54.out).mono ?_); rintro e w60 ⟨rfl, hb⟩; replace BK101 := Ak (blk_below BK101.out hb); replace HB := Ak (below_step (HB.out) hb); (try clear hb)))
           go_ret
           exact ⟨by first | rfl | (simp [*] <;> rfl), HB.out⟩
         ·rw [if_neg c53] at H
          have c53b0 := beq_eq_false_iff_ne.mpr c53
          have c53b1 := bne_iff_ne.mpr c53
          have c53b2 : ¬ (l0_2 = []) := fun h_ => c53 (by rw [h_]; rfl)
          obtain rfl := Oi H
          have hcz61_0 := blk_cell BK101.out 0
          have hcz61_1 := blk_cell BK101.out 1
          have hcz61_2 := blk_cell BK101.out 2
          have hcz61_3 := blk_cell BK101.out 3
          have hcz61_4 := blk_cell BK101.out 4
          have hcz61_5 := blk_cell BK101.out 5
          have hfz61_0 := blk_frozen BK101.out
          go_wp2
          go_ret
          exact ⟨by first | rfl | (simp [*] <;> rfl), HB.out⟩
        ·rw [if_neg c52] at H
         have c52b0 := beq_eq_false_iff_ne.mpr c52
         have c52b1 := bne_iff_ne.mpr c52
         obtain rfl := Oi H
         have hcz62_0 := blk_cell BK101.out 0
         have hcz62_1 := blk_cell BK101.out 1
         have hcz62_2 := blk_cell BK101.out 2
         have hcz62_3 := blk_cell BK101.out 3
         have hcz62_4 := blk_cell BK101.out 4
         have hcz62_5 := blk_cell BK101.out 5
         have hfz62_0 := blk_frozen BK101.out
         go_wp2
         go_ret
         exact ⟨by first | rfl | (simp [*] <;> rfl), HB.out⟩
       ·rw [if_neg c51] at H
        have c51b0 := beq_eq_false_iff_ne.mpr c51
        have c51b1 := bne_iff_ne.mpr c51
        obtain rfl := Oi H
        have hcz63_0 := blk_cell BK101.out 0
        have hcz63_1 := blk_cell BK101.out 1
        have hcz63_2 := blk_cell BK101.out 2
        have hcz63_3 := blk_cell BK101.out 3
        have hcz63_4 := blk_cell BK101.out 4
        have hcz63_5 := blk_cell BK101.out 5
        have hfz63_0 := blk_frozen BK101.out
        go_wp2
        go_ret
        exact ⟨by first | rfl | (simp [*] <;> rfl), HB.out⟩
mutual
def spec_TreeOk.l0 : Nat → Int → List Bool → Int → List (S45) → Option (Bool)
 | 0, _, _, _, _ => none
 | k + 1, x3, x4, x5, x102000 => if x5 < x3 then (if 0 ≤ x5 then (if x5 < (x102000.length : Int) then ((spec_l6Node.f k ((rd_T45 x102000 x5).f0) ((rd_T45 x102000 x5).f1) ((rd_T45 x102000 x5).f2) ((rd_T45 x102000 x5).f3) ((rd_T45 x102000 x5).f4) ((rd_T45 x102000 x5).f5)).bind fun t108 => (if t108 = true then (if ((((rd_T45 x102000 x5).f0) == 1) != (x5 == 0)) = true then (spec_TreeOk.j1 k x3 x4 x5 true x102000 ((rd_T45 x102000 x5).f0) ((rd_T45 x102000 x5).f1) ((rd_T45 x102000 x5).f2) ((rd_T45 x102000 x5).f3) ((rd_T45 x102000 x5).f4) ((rd_T45 x102000 x5).f5)) else ((spec_l1In.f ((rd_T45 x102000 x5).f4) (-1) (wrap64 (x3 - 1))).bind fun t109 => (if t109 = true then (if x5 = 0 then (spec_TreeOk.j1 k x3 x4 x5 (((rd_T45 x102000 x5).f4) != (-1)) x102000 ((rd_T45 x102000 x5).f0) ((rd_T45 x102000 x5).f1) ((rd_T45 x102000 x5).f2) ((rd_T45 x102000 x5).f3) ((rd_T45 x102000 x5).f4) ((rd_T45 x102000 x5).f5)) else (spec_TreeOk.j1 k x3 x4 x5 false x102000 ((rd_T45 x102000 x5).f0) ((rd_T45 x102000 x5).f1) ((rd_T45 x102000 x5).f2) ((rd_T45 x102000 x5).f3) ((rd_T45 x102000 x5).f4) ((rd_T45 x102000 x5).f5))) else (spec_TreeOk.j1 k x3 x4 x5 true x102000 ((rd_T45 x102000 x5).f0) ((rd_T45 x102000 x5).f1) ((rd_T45 x102000 x5).f2) ((rd_T45 x102000 x5).f3) ((rd_T45 x102000 x5).f4) ((rd_T45 x102000 x5).f5))))) else (spec_TreeOk.j1 k x3 x4 x5 true x102000 ((rd_T45 x102000 x5).f0) ((rd_T45 x102000 x5).f1) ((rd_T45 x102000 x5).f2) ((rd_T45 x102000 x5).f3) ((rd_T45 x102000 x5).f4) ((rd_T45 x102000 x5).f5)))) else (none)) else (none)) else (spec_TreeOk.l2 k x3 x4 0 x102000)
def spec_TreeOk.j1 : Nat → Int → List Bool → Int → Bool → List (S45) → Int → ByteArray → List (S98) → ByteArray → Int → List Int → Option (Bool)
 | 0, _, _, _, _, _, _, _, _, _, _, _ => none
 | k + 1, x3, x4, x5, x57, x102000, x108000, x108001, x108002, x108003, x108004, x108005 => if x57 = true then (some false) else (spec_TreeOk.l1 k x3 x4 x5 0 x102000 x108000 x108001 x108002 x108003 x108004 x108005)
def spec_TreeOk.l1 : Nat → Int → List Bool → Int → Int → List (S45) → Int → ByteArray → List (S98) → ByteArray → Int → List Int → Option (Bool)
 | 0, _, _, _, _, _, _, _, _, _, _, _ => none
 | k + 1, x3, x4, x5, x7, x102000, x108000, x108001, x108002, x108003, x108004, x108005 => if x7 < (x108005.length : Int) then (if 0 ≤ x7 then ((spec_l1In.f (rd x108005 x7) 1 (wrap64 (x3 - 1))).bind fun t111 => (if t111 = true then (if 0 ≤ (rd x108005 x7) then (if (rd x108005 x7) < (x4.length : Int) then (if rdOf false x4 (rd x108005 x7) = true then (some false) else (if (rd x108005 x7) < (x102000.length : Int) then (if ((rd_T45 x102000 (rd x108005 x7)).f4) = x5 then (spec_TreeOk.l1 k x3 (x4.set ((rd x108005 x7) : Int).toNat true) x5 (wrap64 (x7 + 1)) x102000 x108000 x108001 x108002 x108003 x108004 x108005) else (some false)) else (none))) else (none)) else (none)) else (some false))) else (none)) else (spec_TreeOk.l0 k x3 x4 (wrap64 (x5 + 1)) x102000)
def spec_TreeOk.l2 : Nat → Int → List Bool → Int → List (S45) → Option (Bool)
 | 0, _, _, _, _ => none
 | k + 1, x3, x4, x9, x102000 => if x9 < x3 then (if 0 ≤ x9 then (if x9 < (x4.length : Int) then (if x9 < (x102000.length : Int) then (if ((rdOf false x4 x9) != (decide (((rd_T45 x102000 x9).f4) ≥ 0))) = true then (some false) else (spec_TreeOk.l3 k x3 x4 x9 x9 0 x102000)) else (none)) else (none)) else (none)) else (some true)
def spec_TreeOk.l3 : Nat → Int → List Bool → Int → Int → Int → List (S45) → Option (Bool)
 | 0, _, _, _, _, _, _ => none
 | k + 1, x3, x4, x9, x10, x11, x102000 => if x10 ≥ 0 then (if x11 > x3 then (some false) else (if 0 ≤ x10 then (if x10 < (x102000.length : Int) then (spec_TreeOk.l3 k x3 x4 x9 ((rd_T45 x102000 x10).f4) (wrap64 (x11 + 1)) x102000) else (none)) else (none))) else (spec_TreeOk.l2 k x3 x4 (wrap64 (x9 + 1)) x102000)
end
def spec_TreeOk.f (k : Nat) (l0_0 : List (S45)) : Option (Bool) := (spec_l1In.f (l0_0.length : Int) 1 500).bind fun t102 => (if t102 = true then (if 0 ≤ (l0_0.length : Int) then (if ((l0_0.length : Int) : Int).toNat ≤ 281474976710656 then (spec_TreeOk.l0 k (l0_0.length : Int) (List.replicate ((l0_0.length : Int) : Int).toNat false) 0 l0_0) else (none)) else (none)) else (some false))
theorem spec_TreeOk.mono_l : ∀ k, (∀ y0 y1 y2 y3, LeO (spec_TreeOk.l0 k y0 y1 y2 y3) (spec_TreeOk.l0 (k + 1) y0 y1 y2 y3)) ∧ (∀ y0 y1 y2 y3 y4 y5 y6 y7 y8 y9 y10, LeO (spec_TreeOk.j1 k y0 y1 y2 y3 y4 y5 y6 y7 y8 y9 y10) (spec_TreeOk.j1 (k + 1) y0 y1 y2 y3 y4 y5 y6 y7 y8 y9 y10)) ∧ (∀ y0 y1 y2 y3 y4 y5 y6 y7 y8 y9 y10, LeO (spec_TreeOk.l1 k y0 y1 y2 y3 y4 y5 y6 y7 y8 y9 y10) (spec_TreeOk.l1 (k + 1) y0 y1 y2 y3 y4 y5 y6 y7 y8 y9 y10)) ∧ (∀ y0 y1 y2 y3, LeO (spec_TreeOk.l2 k y0 y1 y2 y3) (spec_TreeOk.l2 (k + 1) y0 y1 y2 y3)) ∧ (∀ y0 y1 y2 y3 y4 y5, LeO (spec_TreeOk.l3 k y0 y1 y2 y3 y4 y5) (spec_TreeOk.l3 (k + 1) y0 y1 y2 y3 y4 y5))
 | 0 => ⟨fun _ _ _ _ r h => by simp [spec_TreeOk.l0] at h, fun _ _ _ _ _ _ _ _ _ _ _ r h => by simp [spec_TreeOk.j1] at h, fun _ _ _ _ _ _ _ _ _ _ _ r h => by simp [spec_TreeOk.l1] at h, fun _ _ _ _ r h => by simp [spec_TreeOk.l2] at h, fun _ _ _ _ _ _ r h => by simp [spec_TreeOk.l3] at h⟩
 | k + 1 => by
  obtain ⟨ih0, ih1, ih2, ih3, ih4⟩ := spec_TreeOk.mono_l k
  refine ⟨?_, ?_, ?_, ?_, ?_⟩
  ·intro y0 y1 y2 y3
   unfold spec_TreeOk.l0
   repeat' first | exact ih1 _ _ _ _ _ _ _ _ _ _ _ | exact ih3 _ _ _ _ | exact spec_l6Node.mono _ _ _ _ _ _ _ | (with_reducible exact LeO.refl _) | refine LeO.ite ?_ ?_ | refine LeO.bind ?_ (fun _ => ?_)
  ·intro y0 y1 y2 y3 y4 y5 y6 y7 y8 y9 y10
   unfold spec_TreeOk.j1
   exact LeO.ite (LeO.refl _) (ih2 _ _ _ _ _ _ _ _ _ _ _)
  ·intro y0 y1 y2 y3 y4 y5 y6 y7 y8 y9 y10
   unfold spec_TreeOk.l1
   repeat' first | exact ih0 _ _ _ _ | exact ih2 _ _ _ _ _ _ _ _ _ _ _ | (with_reducible exact LeO.refl _) | refine LeO.ite ?_ ?_ | refine LeO.bind ?_ (fun _ => ?_)
  ·intro y0 y1 y2 y3
   unfold spec_TreeOk.l2
   repeat' first | exact ih4 _ _ _ _ _ _ | (with_reducible exact LeO.refl _) | refine LeO.ite ?_ ?_
  ·intro y0 y1 y2 y3 y4 y5
   unfold spec_TreeOk.l3
   repeat' first | exact ih3 _ _ _ _ | exact ih4 _ _ _ _ _ _ | (with_reducible exact LeO.refl _) | refine LeO.ite ?_ ?_
theorem spec_TreeOk.mono : ∀ a0 k, LeO (spec_TreeOk.f k a0) (spec_TreeOk.f (k + 1) a0) := fun a0 k => LeO.bind (LeO.refl _) (fun _ => LeO.ite (LeO.ite (LeO.ite ((spec_TreeOk.mono_l k).1 _ _ _ _) (LeO.refl _)) (LeO.refl _)) (LeO.refl _))
structure SeenW (w W : World) (gt : Nat) (A : Option Addr) (m c : Nat) (gs cap : Nat) (s : List Bool) : Prop where
 box : BoxW w W gt A m c
 row : Kd.R Kd.bool 4 W w.heap.size (fun k => k = gs) (.slice (some ⟨gs, 0, none⟩) m cap) s
 ne : gs ≠ gt
section
variable {w W W2 : World} {gt m c gs cap : Nat} {A : Option Addr} {s : List Bool}
theorem SeenW.below (h : SeenW w W gt A m c gs cap s) (hb : Below W.heap.size W W2) : SeenW w W2 gt A m c gs cap s := ⟨h.box.below hb, Kd.R_below h.row hb, h.ne⟩
theorem SeenW.drewN (h : SeenW w W gt A m c gs cap s) (k : Nat) : SeenW w (W.drewN k) gt A m c gs cap s := ⟨h.box.drewN k, Kd.R_drewN h.row k, h.ne⟩
theorem SeenW.fill (h : SeenW w W gt A m c gs cap s) {gb : Nat} (hb : w.heap.size ≤ gb) (hne : gb ≠ gt) (hne2 : gb ≠ gs) (x : S45) (v2 v5 : Value) : SeenW w (fillN W gb x v2 v5) gt A m c gs cap s :=
 ⟨h.box.fill hb hne x v2 v5, by
  have hf : ∀ k, k = gs → k ≠ gb := fun k hk => by omega
  exact Kd.R_far (p := ⟨gb, 5, none⟩) (Kd.R_far (p := ⟨gb, 4, none⟩) (Kd.R_far (p := ⟨gb, 3, none⟩) (Kd.R_far (p := ⟨gb, 2, none⟩) (Kd.R_far (p := ⟨gb, 1, none⟩) (Kd.R_far (p := ⟨gb, 0, none⟩) h.row hf _) hf _) hf _) hf _) hf _) hf _, h.ne⟩
theorem SeenW.put (h : SeenW w W gt A m c gs cap s) (i : Int) (x : Bool) : SeenW w (W.setCell ⟨gs, i.toNat, none⟩ (.bool x)) gt A m c gs cap (s.set i.toNat x) :=
 ⟨⟨blk_far h.box.blk (p := ⟨gs, i.toNat, none⟩) (Ne.symm h.ne) _, below_set h.box.low (Kd.R_base h.row gs rfl), h.box.ge⟩, Kd.R_putn h.row i x, h.ne⟩
theorem SeenW.at_ (h : SeenW w W gt A m c gs cap s) (i : Int) (h0 : 0 ≤ i) (h1 : i < m) : W.cell? ⟨gs, i.toNat, none⟩ = some (.bool (rdOf false s i)) ∧ W.frozen? ⟨gs, i.toNat, none⟩ = false := Kd.R_celln false h.row i h0 h1
end
theorem spec_TreeOk.calls (k : Nat) (A0_0 : Option Addr) (c0_0 : Nat) (l0_0 : List S45) (r : Bool) (w : World) (hr0_0 : Kd.C k45 w A0_0 l0_0.length l0_0) (hc0_0 : l0_0.length ≤ c0_0) (h : spec_TreeOk.f k l0_0 = some r) :
 Calls Try.prog 11 #[.agg #[.slice A0_0 l0_0.length c0_0]] w fun e w' => e = .returned (.bool r) ∧ Below w.heap.size w w' := by
 have HC := Ak hr0_0
 clear hr0_0 hc0_0
 unfold spec_TreeOk.f at h
 obtain ⟨t, A1, h⟩ := Ob h
 have HN0 := Ak (show t = true → 0 < l0_0.length from fun e => by
  subst e
  unfold spec_l1In.f at A1
  split at A1
  ·omega
  ·cases A1)
 have HN1 := Ak (show t = true → l0_0.length ≤ 500 from fun e => by
  subst e
  unfold spec_l1In.f at A1
  split at A1
  ·have := of_decide_eq_true (Oi A1); omega
  ·cases A1)
 replace A1 := Ak A1
 cases t with
 | false =>
  rw [if_neg (by decide)] at h
  obtain rfl := Oi h
  clear h HN0 HN1
  go_enter Try.func11, Try.ntmps11
  go_wp2_with (first | (go_at_call 37; (with_reducible refine (spec_l1In.calls _ _ _ false _ A1.out).mono ?_); rintro e w' ⟨rfl, ⟨nd, rfl⟩⟩))
  go_ret
  exact ⟨rfl, by repeat (first | exact Below.refl _ _ | apply below_alloc | apply pw_below_drewN)⟩
 | true =>
  rw [if_pos rfl, if_pos (by omega), if_pos (by have := HN1.out rfl; omega)] at h
  have HA := Ak h
  have HM0 := Ak (HN0.out rfl)
  have HM1 := Ak (HN1.out rfl)
  clear h HN0 HN1
  go_enter Try.func11, Try.ntmps11
  go_wp2_with (first
   | ((with_reducible refine gate_dst (N := 1) rfl ?_); refine box_event ?hg (N := 1) ?hd (cs := #[.slice A0_0 l0_0.length c0_0]) (t := 29) ?hr ?_; (case hd => rfl); (case hg => rfl); (case hr => first | (go_simp; done) | (go_simp; rfl)); intro gt hg w1 hbox hb; have HX := Ak (show BoxW w w1 gt A0_0 l0_0.length c0_0 from ⟨hbox, hb, by rw [hg]; exact Nat.le_refl _⟩); have hcb := HX.out.cell; clear hbox hb hg)
   | (go_at_call 37; (with_reducible refine (spec_l1In.calls _ _ _ true _ A1.out).mono ?_); rintro e w' ⟨rfl, ⟨nd, rfl⟩⟩; have HX2 := Ak (HX.out.drewN nd); clear HX)
   | ((with_reducible refine gate_dst (N := 19) rfl ?_); refine Kd.R_make (w0 := w) Kd.bool w.heap.size 4 rfl (N := 19) rfl 61 _ _ rfl (l0_0.length : Int) rfl rfl Try.underlying61 (.bool false) 1 info4 rfl (by decide) (by omega) false (ok := fun k => k ≠ gt) (okp := fun k => k ≠ gt) rfl (fun _ hk => hk) (fun e_ => by have := blk_lt HX2.out.blk; omega) (by omega) (by have := HM1.out; omega) HX2.out.low HX2.out.low.size ?_; intro vs w2 ho hb hg_ hnew_; rw [Int.toNat_natCast] at ho; obtain ⟨gs, cap, ev, _, _, _⟩ := Kd.R_form ho (by have := HM0.out; rw [List.length_replicate]; exact this); rw [List.length_replicate] at ev; subst ev; have HS := Ak (show SeenW w w2 gt A0_0 l0_0.length c0_0 gs cap (List.replicate l0_0.length false) from ⟨⟨blk_grown HX2.out.blk hg_ (by simp), hb, HX2.out.ge⟩, Kd.R_mono (Kd.R_tight rfl ho) (fun k_ hk => by simpa [Value.ownBlock] using hk), Kd.R_away ho (fun k_ hk => hk) |> fun h_ e_ => h_ (by rw [e_]; rfl)⟩); clear ho hb hg_ hnew_ HX2 hcb))
  go_loopg [5] k (fun kq v5 w' => ∃ (i : Int) (s : List Bool), v5 = .int .i64 i ∧ Aside0 (spec_TreeOk.l0 kq (l0_0.length : Int) s i l0_0 = some r) ∧ Aside0 (kq ≤ k) ∧ Aside0 (SeenW w w' gt A0_0 l0_0.length c0_0 gs cap s))
  case atStart => exact ⟨0, _, rfl, (by rw [Int.toNat_natCast] at HA; exact HA), ⟨Nat.le_refl _⟩, HS⟩
  case round =>
   clear HA HS
   obtain ⟨i, s, rfl, HA, HK, HS⟩ := hrel
   cases gk with
   | zero => exact absurd HA.out (by simp [spec_TreeOk.l0])
   | succ k1 =>
    have H := HA.out
    clear HA
    simp only [spec_TreeOk.l0] at H
    by_cases c1 : i < (l0_0.length : Int)
    ·rw [if_pos c1] at H
     by_cases c2 : 0 ≤ i
     ·rw [if_pos c2, if_pos c1] at H
      have c1b : decide (i < (l0_0.length : Int)) = true := decide_eq_true c1
      obtain ⟨ad, A_2, c_2, A_5, c_5, e1, hx0, hx1, hx2, hx3, hx4, hx5, hl2, hi2, hl5, hi5⟩ := at_T45 HC.out i c2 c1
      subst e1
      replace hx0 := pw_cell_below HS.out.box.low hx0
      replace hx1 := pw_cell_below HS.out.box.low hx1
      replace hx2 := pw_cell_below HS.out.box.low hx2
      replace hx3 := pw_cell_below HS.out.box.low hx3
      replace hx4 := pw_cell_below HS.out.box.low hx4
      replace hx5 := pw_cell_below HS.out.box.low hx5
      have hcb := HS.out.box.cell
      have HI2 := Ak hi2
      have HI5 := Ak hi5
      have HL2 := Ak hl2
      have HL5 := Ak hl5
      clear hl2 hi2 hl5 hi5
      replace c2 := eq_true c2
      replace c1 := eq_true c1
      go_upto_region 9 with (first | ((with_reducible refine gate_dst (N := 6) rfl ?_); refine box_event ?hg (N := 6) ?hd (cs := #[.int .i64 0, .string (⟨#[]⟩ : ByteArray), .slice none 0 0, .string (⟨#[]⟩ : ByteArray), .int .i64 0, .slice none 0 0]) (t := 45) ?hr ?_; (case hd => rfl); (case hg => rfl); (case hr => first | (go_simp; done) | (go_simp; rfl)); intro gb hg w2 hbox hb; have HNE := Ak (show gb ≠ gt by have := blk_lt HS.out.box.blk; omega); have HNG := Ak (show gs ≠ gb by have := Kd.R_lt HS.out.row gs rfl; omega); have HS2 := Ak (HS.out.below hb); have HGB := Ak (show w.heap.size ≤ gb by rw [hg]; exact below_size HS.out.box.low); have HBX := Ak hbox; have hz0 := blk_cell hbox 0; have hz1 := blk_cell hbox 1; have hz2 := blk_cell hbox 2; have hz3 := blk_cell hbox 3; have hz4 := blk_cell hbox 4; have hz5 := blk_cell hbox 5; have hf := blk_frozen hbox; clear hbox hb hg HS))
      have HB6 := Ak (fillN_blk (rd_T45 l0_0 i) (.slice A_2 (rd_T45 l0_0 i).f2.length c_2) (.slice A_5 (rd_T45 l0_0 i).f5.length c_5) HBX.out)
      have HS := Ak (HS2.out.fill HGB.out HNE.out (Ne.symm HNG.out) (rd_T45 l0_0 i) (.slice A_2 (rd_T45 l0_0 i).f2.length c_2) (.slice A_5 (rd_T45 l0_0 i).f5.length c_5))
      show Code.wp _ _ _ _ (fillN w2 gb (rd_T45 l0_0 i) (.slice A_2 (rd_T45 l0_0 i).f2.length c_2) (.slice A_5 (rd_T45 l0_0 i).f5.length c_5))
      generalize fillN w2 gb (rd_T45 l0_0 i) (.slice A_2 (rd_T45 l0_0 i).f2.length c_2) (.slice A_5 (rd_T45 l0_0 i).f5.length c_5) = w3 at HB6 HS ⊢
      clear hz0 hz1 hz2 hz3 hz4 hz5 hf HBX HS2 hx0 hx1 hx2 hx3 hx4 hx5 HNE HGB hcb
      have hz0 := blk_cell HB6.out 0
      have hz1 := blk_cell HB6.out 1
      have hz2 := blk_cell HB6.out 2
      have hz3 := blk_cell HB6.out 3
      have hz4 := blk_cell HB6.out 4
      have hz5 := blk_cell HB6.out 5
      have HJ2 := Ak (Kd.C_below HI2.out HS.out.box.low)
      have HJ5 := Ak (Kd.C_below HI5.out HS.out.box.low)
      have HH := Ak H
      clear H
      go_cut [57] (fun v57 wc => ∃ (kq : Nat) (b : Bool), v57 = .bool b ∧ Aside0 (spec_TreeOk.j1 kq (l0_0.length : Int) s i b l0_0 (rd_T45 l0_0 i).f0 (rd_T45 l0_0 i).f1 (rd_T45 l0_0 i).f2 (rd_T45 l0_0 i).f3 (rd_T45 l0_0 i).f4 (rd_T45 l0_0 i).f5 = some r) ∧ Aside0 (kq ≤ k1) ∧ Aside0 (SeenW w wc gt (some ad) l0_0.length c0_0 gs cap s) ∧ Aside0 (wc.heap[gb]? = some (.cells #[.int .i64 (rd_T45 l0_0 i).f0, .string (rd_T45 l0_0 i).f1, (.slice A_2 (rd_T45 l0_0 i).f2.length c_2), .string (rd_T45 l0_0 i).f3, .int .i64 (rd_T45 l0_0 i).f4, (.slice A_5 (rd_T45 l0_0 i).f5.length c_5)] 45 (0, 0))))
      case first =>
       have H := HH.out
       clear HH
       obtain ⟨t, A2, H⟩ := Ob H
       replace A2 := Ak A2
       cases t with
       | false =>
        rw [if_neg (by decide)] at H
        have HA := Ak H
        clear H
        go_wp2_with (first | (go_at_call 38; (with_reducible refine (spec_l6Node.calls k1 _ _ _ _ _ _ _ _ _ _ false _ HJ2.out HL2.out HJ5.out HL5.out A2.out).mono ?_); rintro e w4 ⟨rfl, hb⟩; have HS4 := Ak (HS.out.below hb); have HB4 := Ak (blk_below HB6.out hb); have hy0 := blk_cell HB4.out 0; have hy4 := blk_cell HB4.out 4; clear hb))
        go_meet
        case rel => exact ⟨_, true, rfl, HA, ⟨by have := HK.out; omega⟩, HS4, HB4⟩
       | true =>
        rw [if_pos rfl] at H
        by_cases c3 : (((rd_T45 l0_0 i).f0 == 1) != (i == 0)) = true
        ·rw [if_pos c3] at H
         have c3b1 : decide (((rd_T45 l0_0 i).f0 == 1) = (i == 0)) = false := by simpa using c3
         have c3b2 : (((rd_T45 l0_0 i).f0 == 1) == (i == 0)) = false := by simpa using c3
         have c3b3 : ¬ (((rd_T45 l0_0 i).f0 == 1) = (i == 0)) := by simpa using c3
         have HA := Ak H
         clear H
         go_wp2_with (first | (go_at_call 38; (with_reducible refine (spec_l6Node.calls k1 _ _ _ _ _ _ _ _ _ _ true _ HJ2.out HL2.out HJ5.out HL5.out A2.out).mono ?_); rintro e w4 ⟨rfl, hb⟩; have HS4 := Ak (HS.out.below hb); have HB4 := Ak (blk_below HB6.out hb); have hy0 := blk_cell HB4.out 0; have hy4 := blk_cell HB4.out 4; clear hb))
         go_meet
         case rel => exact ⟨_, true, rfl, HA, ⟨by have := HK.out; omega⟩, HS4, HB4⟩
        ·rw [if_neg c3] at H
         obtain ⟨u, A3, H⟩ := Ob H
         replace A3 := Ak A3
         cases u with
         | false =>
          rw [if_neg (by decide)] at H
          have c3b : (((rd_T45 l0_0 i).f0 == 1) != (i == 0)) = false := Bool.eq_false_iff.mpr c3
          have c3b1 : decide (((rd_T45 l0_0 i).f0 == 1) = (i == 0)) = true := by simpa using c3
          have c3b2 : (((rd_T45 l0_0 i).f0 == 1) == (i == 0)) = true := by simpa using c3
          clear c3
          have HA := Ak H
          clear H
          go_wp2_with (first | (go_at_call 38; (with_reducible refine (spec_l6Node.calls k1 _ _ _ _ _ _ _ _ _ _ true _ HJ2.out HL2.out HJ5.out HL5.out A2.out).mono ?_); rintro e w4 ⟨rfl, hb⟩; have HS4 := Ak (HS.out.below hb); have HB4 := Ak (blk_below HB6.out hb); have hy0 := blk_cell HB4.out 0; have hy4 := blk_cell HB4.out 4; clear hb) | (go_at_call 37; (with_reducible refine (spec_l1In.calls _ _ _ false _ A3.out).mono ?_); rintro e w5 ⟨rfl, ⟨nd, rfl⟩⟩; (try first | exact ⟨rfl, _, World.drewN_drewN _ _ _⟩ | exact ⟨rfl, _, Eq.trans (World.drewN_drewN _ _ _) (congrArg (World.drewN _) (Nat.add_assoc _ _ _))⟩)))
          go_meet
          case rel => exact ⟨_, true, rfl, HA, ⟨by have := HK.out; omega⟩, ⟨SeenW.drewN HS4.out _⟩, HB4⟩
         | true =>
          rw [if_pos rfl] at H
          by_cases c4 : i = 0
          ·rw [if_pos c4] at H
           have c3c : ((rd_T45 l0_0 i).f0 == 1) = true := by have := Bool.eq_false_iff.mpr c3; rw [beq_iff_eq.mpr c4] at this; simpa using this
           have c4b : (i == 0) = true := beq_iff_eq.mpr c4
           clear c3 c4
           have HA := Ak H
           clear H
           go_wp2_with (first | (go_at_call 38; (with_reducible refine (spec_l6Node.calls k1 _ _ _ _ _ _ _ _ _ _ true _ HJ2.out HL2.out HJ5.out HL5.out A2.out).mono ?_); rintro e w4 ⟨rfl, hb⟩; have HS4 := Ak (HS.out.below hb); have HB4 := Ak (blk_below HB6.out hb); have hy0 := blk_cell HB4.out 0; have hy4 := blk_cell HB4.out 4; clear hb) | (go_at_call 37; (with_reducible refine (spec_l1In.calls _ _ _ true _ A3.out).mono ?_); rintro e w5 ⟨rfl, ⟨nd, rfl⟩⟩; (try first | exact ⟨rfl, _, World.drewN_drewN _ _ _⟩ | exact ⟨rfl, _, Eq.trans (World.drewN_drewN _ _ _) (congrArg (World.drewN _) (Nat.add_assoc _ _ _))⟩)))
           go_meet
           case rel => exact ⟨_, ((rd_T45 l0_0 i).f4 != -1), rfl, HA, ⟨by have := HK.out; omega⟩, ⟨SeenW.drewN HS4.out _⟩, HB4⟩
          ·rw [if_neg c4] at H
           have c3c : ((rd_T45 l0_0 i).f0 == 1) = false := by have := Bool.eq_false_iff.mpr c3; rw [beq_eq_false_iff_ne.mpr c4] at this; simpa using this
           have c4b : (i == 0) = false := beq_eq_false_iff_ne.mpr c4
           clear c3 c4
           have HA := Ak H
           clear H
           go_wp2_with (first | (go_at_call 38; (with_reducible refine (spec_l6Node.calls k1 _ _ _ _ _ _ _ _ _ _ true _ HJ2.out HL2.out HJ5.out HL5.out A2.out).mono ?_); rintro e w4 ⟨rfl, hb⟩; have HS4 := Ak (HS.out.below hb); have HB4 := Ak (blk_below HB6.out hb); have hy0 := blk_cell HB4.out 0; have hy4 := blk_cell HB4.out 4; clear hb) | (go_at_call 37; (with_reducible refine (spec_l1In.calls _ _ _ true _ A3.out).mono ?_); rintro e w5 ⟨rfl, ⟨nd, rfl⟩⟩; (try first | exact ⟨rfl, _, World.drewN_drewN _ _ _⟩ | exact ⟨rfl, _, Eq.trans (World.drewN_drewN _ _ _) (congrArg (World.drewN _) (Nat.add_assoc _ _ _))⟩)))
           go_meet
           case rel => exact ⟨_, false, rfl, HA, ⟨by have := HK.out; omega⟩, ⟨SeenW.drewN HS4.out _⟩, HB4⟩
      case rest =>
       obtain ⟨kq, b, rfl, HA, HJ, HS, HB6⟩ := hcut
       clear hz0 hz1 hz2 hz3 hz4 HJ2 HJ5 HH c1b
       cases kq with
       | zero => exact absurd HA.out (by simp [spec_TreeOk.j1])
       | succ kj =>
        have H := HA.out
        clear HA
        simp only [spec_TreeOk.j1] at H
        cases b with
        | true =>
         rw [if_pos (by trivial)] at H
         obtain rfl := Oi H
         clear H
         go_wp2
         go_ret
         exact ⟨rfl, HS.out.box.low⟩
        | false =>
         rw [if_neg (by decide)] at H
         have HA := Ak H
         clear H
         have HG5 := Ak HB6.out
         go_wp2
         go_loopg [7] kj (fun kq v7 w' => ∃ (j : Int) (s : List Bool), v7 = .int .i64 j ∧ Aside0 (spec_TreeOk.l1 kq (l0_0.length : Int) s i j l0_0 (rd_T45 l0_0 i).f0 (rd_T45 l0_0 i).f1 (rd_T45 l0_0 i).f2 (rd_T45 l0_0 i).f3 (rd_T45 l0_0 i).f4 (rd_T45 l0_0 i).f5 = some r) ∧ Aside0 (kq ≤ kj) ∧ Aside0 (SeenW w w' gt (some ad) l0_0.length c0_0 gs cap s) ∧ Aside0 (w'.heap[gb]? = some (.cells #[.int .i64 (rd_T45 l0_0 i).f0, .string (rd_T45 l0_0 i).f1, (.slice A_2 (rd_T45 l0_0 i).f2.length c_2), .string (rd_T45 l0_0 i).f3, .int .i64 (rd_T45 l0_0 i).f4, (.slice A_5 (rd_T45 l0_0 i).f5.length c_5)] 45 (0, 0))))
         case atStart => exact ⟨0, _, rfl, HA, ⟨Nat.le_refl _⟩, HS, HB6⟩
         case round =>
          clear HA HS HB6 hz5 HG5
          obtain ⟨j, s, rfl, HA, HK2, HS, HB6⟩ := hrel
          cases gk with
          | zero => exact absurd HA.out (by simp [spec_TreeOk.l1])
          | succ k2 =>
           have H := HA.out
           clear HA
           simp only [spec_TreeOk.l1] at H
           have hz5 := blk_cell HB6.out 5
           have hcb := HS.out.box.cell
           by_cases c3 : j < ((rd_T45 l0_0 i).f5.length : Int)
           ·rw [if_pos c3] at H
            by_cases c4 : 0 ≤ j
            ·rw [if_pos c4] at H
             obtain ⟨t, A3, H⟩ := Ob H
             replace A3 := Ak A3
             obtain ⟨ak, e2, hy0⟩ := Kd.at_int HI5.out j c4 c3
             subst e2
             replace hy0 := pw_cell_below HS.out.box.low hy0
             have c3b : decide (j < ((rd_T45 l0_0 i).f5.length : Int)) = true := decide_eq_true c3
             replace c3 := eq_true c3
             replace c4 := eq_true c4
             obtain ⟨kid, hkid⟩ : ∃ q : Int, q = rd (rd_T45 l0_0 i).f5 j := ⟨_, rfl⟩
             rw [← hkid] at hy0 H A3
             clear hkid
             cases t with
             | false =>
              rw [if_neg (by decide)] at H
              obtain rfl := Oi H
              clear H
              go_wp2_with (first | (go_at_call 37; (with_reducible refine (spec_l1In.calls _ _ _ false _ A3.out).mono ?_); rintro e w5 ⟨rfl, ⟨nd, rfl⟩⟩))
              go_ret
              exact ⟨rfl, pw_below_drewN HS.out.box.low _⟩
             | true =>
              rw [if_pos rfl] at H
              by_cases c5 : 0 ≤ kid
              ·rw [if_pos c5] at H
               by_cases c6' : kid < (s.length : Int)
               ·rw [if_pos c6'] at H
                have c6 : kid < (l0_0.length : Int) := by have := (Kd.R_reads' HS.out.row).1; omega
                clear c6'
                obtain ⟨hs, hsf⟩ := HS.out.at_ kid c5 c6
                by_cases c8 : rdOf false s kid = true
                ·rw [if_pos c8] at H
                 obtain rfl := Oi H
                 clear H
                 rw [c8] at hs
                 clear c8
                 replace c5 := eq_true c5
                 replace c6 := eq_true c6
                 go_wp2_with (first | (go_at_call 37; (with_reducible refine (spec_l1In.calls _ _ _ true _ A3.out).mono ?_); rintro e w5 ⟨rfl, ⟨nd, rfl⟩⟩))
                 go_ret
                 exact ⟨rfl, pw_below_drewN HS.out.box.low _⟩
                ·rw [if_neg c8, if_pos c6] at H
                 rw [Bool.eq_false_iff.mpr c8] at hs
                 clear c8
                 obtain ⟨ad', A_6, c_6, A_7, c_7, e3, hw0, hw1, hw2, hw3, hw4, hw5, hl6, hi6, hl7, hi7⟩ := at_T45 HC.out kid c5 c6
                 injection e3 with e3
                 subst e3
                 replace hw4 := pw_cell_below HS.out.box.low hw4
                 clear hw0 hw1 hw2 hw3 hw5 hl6 hi6 hl7 hi7
                 replace c5 := eq_true c5
                 replace c6 := eq_true c6
                 by_cases c7 : (rd_T45 l0_0 kid).f4 = i
                 ·rw [if_pos c7] at H
                  have HA := Ak H
                  clear H
                  have c7b : ((rd_T45 l0_0 kid).f4 == i) = true := beq_iff_eq.mpr c7
                  have c7c : ((rd_T45 l0_0 kid).f4 != i) = false := bne_eq_false_iff_eq.mpr c7
                  clear c7
                  go_wp2_with (first | (go_at_call 37; (with_reducible refine (spec_l1In.calls _ _ _ true _ A3.out).mono ?_); rintro e w5 ⟨rfl, ⟨nd, rfl⟩⟩))
                  go_roundg k2
                  case measure => have := HK.out; have := HJ.out; have := HK2.out; omega
                  case rel => exact ⟨_, _, rfl, HA, ⟨by have := HK2.out; omega⟩, ⟨SeenW.put (SeenW.drewN HS.out _) kid true⟩, ⟨blk_far (p := ⟨gs, kid.toNat, none⟩) HB6.out (Ne.symm (HNG.out)) _⟩⟩
                 ·rw [if_neg c7] at H
                  obtain rfl := Oi H
                  clear H
                  have c7b : ((rd_T45 l0_0 kid).f4 == i) = false := beq_eq_false_iff_ne.mpr c7
                  have c7c : ((rd_T45 l0_0 kid).f4 != i) = true := bne_iff_ne.mpr c7
                  clear c7
                  go_wp2_with (first | (go_at_call 37; (with_reducible refine (spec_l1In.calls _ _ _ true _ A3.out).mono ?_); rintro e w5 ⟨rfl, ⟨nd, rfl⟩⟩))
                  go_ret
                  exact ⟨rfl, pw_below_drewN HS.out.box.low _⟩
               ·rw [if_neg c6'] at H; cases H
              ·rw [if_neg c5] at H; cases H
            ·rw [if_neg c4] at H; cases H
           ·rw [if_neg c3] at H
            have HA := Ak H
            clear H
            have c3b : decide (j < ((rd_T45 l0_0 i).f5.length : Int)) = false := decide_eq_false c3
            clear c3
            go_wp2
            go_roundg k2
            case measure => have := HK.out; have := HJ.out; have := HK2.out; omega
            case rel => exact ⟨_, _, rfl, HA, ⟨by have := HK.out; have := HJ.out; have := HK2.out; omega⟩, HS⟩
     ·rw [if_neg c2] at H; cases H
    ·rw [if_neg c1] at H
     have HA := Ak H
     clear H
     have c1b : decide (i < (l0_0.length : Int)) = false := decide_eq_false c1
     clear c1
     go_wp2
     go_loopg [9] k1 (fun kq v9 w' => ∃ (i : Int), v9 = .int .i64 i ∧ Aside0 (spec_TreeOk.l2 kq (l0_0.length : Int) s i l0_0 = some r) ∧ Aside0 (kq ≤ k1) ∧ Aside0 (SeenW w w' gt A0_0 l0_0.length c0_0 gs cap s))
     case atStart => exact ⟨0, rfl, HA, ⟨Nat.le_refl _⟩, HS⟩
     case round =>
      clear HA HS c1b
      obtain ⟨i, rfl, HA, HK2, HS⟩ := hrel
      cases gk with
      | zero => exact absurd HA.out (by simp [spec_TreeOk.l2])
      | succ k2 =>
       have H := HA.out
       clear HA
       simp only [spec_TreeOk.l2] at H
       by_cases c1 : i < (l0_0.length : Int)
       ·rw [if_pos c1] at H
        by_cases c2 : 0 ≤ i
        ·rw [if_pos c2] at H
         by_cases c2' : i < (s.length : Int)
         ·rw [if_pos c2', if_pos c1] at H
          clear c2'
          have c1b : decide (i < (l0_0.length : Int)) = true := decide_eq_true c1
          have hcb := HS.out.box.cell
          obtain ⟨hs, hsf⟩ := HS.out.at_ i c2 c1
          obtain ⟨ad, A_2, c_2, A_5, c_5, e1, hx0, hx1, hx2, hx3, hx4, hx5, hl2, hi2, hl5, hi5⟩ := at_T45 HC.out i c2 c1
          subst e1
          replace hx4 := pw_cell_below HS.out.box.low hx4
          clear hx0 hx1 hx2 hx3 hx5 hl2 hi2 hl5 hi5
          replace c2 := eq_true c2
          replace c1 := eq_true c1
          by_cases c3 : (rdOf false s i != decide ((rd_T45 l0_0 i).f4 ≥ 0)) = true
          ·rw [if_pos c3] at H
           obtain rfl := Oi H
           clear H
           have c3b1 : decide (rdOf false s i = decide (0 ≤ (rd_T45 l0_0 i).f4)) = false := by simpa using c3
           have c3b2 : (rdOf false s i == decide (0 ≤ (rd_T45 l0_0 i).f4)) = false := by simpa using c3
           have c3b3 : ¬ (rdOf false s i = decide (0 ≤ (rd_T45 l0_0 i).f4)) := by simpa using c3
           have c3b4 : (rdOf false s i != decide (0 ≤ (rd_T45 l0_0 i).f4)) = true := c3
           clear c3
           go_wp2
           go_quiet (fail)
           try go_wp2
           go_ret
           exact ⟨rfl, pw_below_drewN HS.out.box.low _⟩
          ·rw [if_neg c3] at H
           have HA := Ak H
           clear H
           have c3b1 : decide (rdOf false s i = decide (0 ≤ (rd_T45 l0_0 i).f4)) = true := by simpa using c3
           have c3b2 : (rdOf false s i == decide (0 ≤ (rd_T45 l0_0 i).f4)) = true := by simpa using c3
           have c3b4 : (rdOf false s i != decide (0 ≤ (rd_T45 l0_0 i).f4)) = false := Bool.eq_false_iff.mpr c3
           clear c3
           go_wp2
           go_quiet (fail)
           try go_wp2
           go_loopg [10, 11] k2 (fun kq v10 v11 w' => ∃ (u : Int) (q : Int), v10 = .int .i64 u ∧ v11 = .int .i64 q ∧ Aside0 (spec_TreeOk.l3 kq (l0_0.length : Int) s i u q l0_0 = some r) ∧ Aside0 (kq ≤ k2) ∧ Aside0 (SeenW w w' gt (some ad) l0_0.length c0_0 gs cap s))
           case atStart => exact ⟨_, 0, rfl, rfl, HA, ⟨Nat.le_refl _⟩, ⟨SeenW.drewN HS.out _⟩⟩
           case round =>
            clear HA HS hs hsf hcb c1b c3b1 c3b2 c3b4 hx4
            obtain ⟨u, q, rfl, rfl, HA, HK3, HS⟩ := hrel
            cases gk with
            | zero => exact absurd HA.out (by simp [spec_TreeOk.l3])
            | succ k3 =>
             have H := HA.out
             clear HA
             simp only [spec_TreeOk.l3] at H
             have hcb := HS.out.box.cell
             by_cases c4 : u ≥ 0
             ·rw [if_pos c4] at H
              have c4b : decide (0 ≤ u) = true := decide_eq_true c4
              by_cases c5 : q > (l0_0.length : Int)
              ·rw [if_pos c5] at H
               obtain rfl := Oi H
               clear H
               have c5b : decide ((l0_0.length : Int) < q) = true := decide_eq_true c5
               clear c4 c5
               go_wp2
               go_ret
               exact ⟨rfl, HS.out.box.low⟩
              ·rw [if_neg c5] at H
               have c5b : decide ((l0_0.length : Int) < q) = false := decide_eq_false c5
               rw [if_pos c4] at H
               by_cases c6 : u < (l0_0.length : Int)
               ·rw [if_pos c6] at H
                have HA := Ak H
                clear H
                obtain ⟨ad', A_6, c_6, A_7, c_7, e3, hw0, hw1, hw2, hw3, hw4, hw5, hl6, hi6, hl7, hi7⟩ := at_T45 HC.out u c4 c6
                injection e3 with e3
                subst e3
                replace hw4 := pw_cell_below HS.out.box.low hw4
                clear hw0 hw1 hw2 hw3 hw5 hl6 hi6 hl7 hi7 c5
                have c4' : (0 ≤ u) = True := eq_true c4
                clear c4
                replace c6 := eq_true c6
                go_wp2
                go_roundg k3
                case measure => have := HK.out; have := HK2.out; have := HK3.out; omega
                case rel => exact ⟨_, _, rfl, rfl, HA, ⟨by have := HK3.out; omega⟩, HS⟩
               ·rw [if_neg c6] at H; cases H
             ·rw [if_neg c4] at H
              have HA := Ak H
              clear H
              have c4b : decide (0 ≤ u) = false := decide_eq_false c4
              clear c4
              go_wp2
              go_roundg k3
              case measure => have := HK.out; have := HK2.out; have := HK3.out; omega
              case rel => exact ⟨_, rfl, HA, ⟨by have := HK2.out; have := HK3.out; omega⟩, HS⟩
         ·rw [if_neg c2'] at H; cases H
        ·rw [if_neg c2] at H; cases H
       ·rw [if_neg c1] at H
        obtain rfl := Oi H
        clear H
        have c1b : decide (i < (l0_0.length : Int)) = false := decide_eq_false c1
        clear c1
        go_wp2
        go_ret
        exact ⟨rfl, HS.out.box.low⟩
theorem eqA98 (d : Nat) (w : World) (x0 y0 : ByteArray) (x1 y1 : ByteArray) :
 (Op.equalIn (d + 2) 98 (.agg #[.string x0, .string x1]) (.agg #[.string y0, .string y1])).run Try.prog w = .ok (x0.toList == y0.toList && (x1.toList == y1.toList)) w := by
 refine eqA_of Try.underlying98 (by kernel_rfl) ?_
 refine eqf_cons (by rfl) (by go_simp; rfl) (by go_simp; rfl) (by go_simp) ?_
 exact eqf_last (by rfl) (by go_simp; rfl) (by go_simp; rfl) (by go_simp)
def spec_l6Alike.l1 : Nat → List S98 → List S98 → Int → Option Bool
 | 0, _, _, _ => none
 | k + 1, xs, ys, i => if i < (xs.length : Int) then (if 0 ≤ i then (if i < (ys.length : Int) then (if ((rd_T98 xs i).f0.toList == (rd_T98 ys i).f0.toList && (rd_T98 xs i).f1.toList == (rd_T98 ys i).f1.toList) = true then spec_l6Alike.l1 k xs ys (wrap64 (i + 1)) else some false) else none) else none) else some true
def spec_l6Alike.l2 : Nat → List Int → List Int → Int → Option Bool
 | 0, _, _, _ => none
 | k + 1, xs, ys, i => if i < (xs.length : Int) then (if 0 ≤ i then (if i < (ys.length : Int) then (if rd xs i = rd ys i then spec_l6Alike.l2 k xs ys (wrap64 (i + 1)) else some false) else none) else none) else some true
def spec_l6Alike.eqN (x y : S45) : Bool := x.f0 == y.f0 && x.f1.toList == y.f1.toList && x.f3.toList == y.f3.toList && x.f4 == y.f4 && (x.f2.length : Int) == (y.f2.length : Int) && (x.f5.length : Int) == (y.f5.length : Int)
def spec_l6Alike.l0 : Nat → List S45 → List S45 → Int → Option Bool
 | 0, _, _, _ => none
 | k + 1, xs, ys, i => if i < (xs.length : Int) then (if 0 ≤ i then (if i < (ys.length : Int) then (if spec_l6Alike.eqN (rd_T45 xs i) (rd_T45 ys i) = true then ((spec_l6Alike.l1 k (rd_T45 xs i).f2 (rd_T45 ys i).f2 0).bind fun b1 => if b1 = true then ((spec_l6Alike.l2 k (rd_T45 xs i).f5 (rd_T45 ys i).f5 0).bind fun b2 => if b2 = true then spec_l6Alike.l0 k xs ys (wrap64 (i + 1)) else some false) else some false) else some false) else none) else none) else some true
def spec_l6Alike.f (k : Nat) (xs ys : List S45) : Option Bool := if (xs.length : Int) = (ys.length : Int) then spec_l6Alike.l0 k xs ys 0 else some false
theorem spec_l6Alike.mono1 : ∀ k a b i, LeO (spec_l6Alike.l1 k a b i) (spec_l6Alike.l1 (k + 1) a b i)
 | 0 => fun _ _ _ r h => by simp [spec_l6Alike.l1] at h
 | k + 1 => fun a b i => by
  rw [spec_l6Alike.l1, spec_l6Alike.l1]
  exact LeO.ite (LeO.ite (LeO.ite (LeO.ite (spec_l6Alike.mono1 k _ _ _) (LeO.refl _)) (LeO.refl _)) (LeO.refl _)) (LeO.refl _)
theorem spec_l6Alike.mono2 : ∀ k a b i, LeO (spec_l6Alike.l2 k a b i) (spec_l6Alike.l2 (k + 1) a b i)
 | 0 => fun _ _ _ r h => by simp [spec_l6Alike.l2] at h
 | k + 1 => fun a b i => by
  rw [spec_l6Alike.l2, spec_l6Alike.l2]
  exact LeO.ite (LeO.ite (LeO.ite (LeO.ite (spec_l6Alike.mono2 k _ _ _) (LeO.refl _)) (LeO.refl _)) (LeO.refl _)) (LeO.refl _)
theorem spec_l6Alike.mono0 : ∀ k a b i, LeO (spec_l6Alike.l0 k a b i) (spec_l6Alike.l0 (k + 1) a b i)
 | 0 => fun _ _ _ r h => by simp [spec_l6Alike.l0] at h
 | k + 1 => fun a b i => by
  rw [spec_l6Alike.l0, spec_l6Alike.l0]
  exact LeO.ite (LeO.ite (LeO.ite (LeO.ite (LeO.bind (spec_l6Alike.mono1 k _ _ _) (fun _ => LeO.ite (LeO.bind (spec_l6Alike.mono2 k _ _ _) (fun _ => LeO.ite (spec_l6Alike.mono0 k _ _ _) (LeO.refl _))) (LeO.refl _))) (LeO.refl _)) (LeO.refl _)) (LeO.refl _)) (LeO.refl _)
theorem spec_l6Alike.mono : ∀ a0 a1 k, LeO (spec_l6Alike.f k a0 a1) (spec_l6Alike.f (k + 1) a0 a1) := fun a0 a1 k => LeO.ite (spec_l6Alike.mono0 k _ _ _) (LeO.refl _)
attribute [local go_sem high] eqA98
structure Alk2 (w W : World) (ga gb gx gy : Nat) (A0 A1 : Option Addr) (n0 c0 n1 c1 : Nat) (x y : S45) (A2 A5 B2 B5 : Option Addr) (c2 c5 d2 d5 : Nat) : Prop where
 t : AlkW w W ga gb A0 A1 n0 c0 n1 c1
 x : W.heap[gx]? = some (.cells #[.int .i64 x.f0, .string x.f1, .slice A2 x.f2.length c2, .string x.f3, .int .i64 x.f4, .slice A5 x.f5.length c5] 45 (0, 0))
 y : W.heap[gy]? = some (.cells #[.int .i64 y.f0, .string y.f1, .slice B2 y.f2.length d2, .string y.f3, .int .i64 y.f4, .slice B5 y.f5.length d5] 45 (0, 0))
theorem Alk2.drewN {w W : World} {ga gb gx gy n0 c0 n1 c1 c2 c5 d2 d5 : Nat} {A0 A1 A2 A5 B2 B5 : Option Addr} {x y : S45} (h : Alk2 w W ga gb gx gy A0 A1 n0 c0 n1 c1 x y A2 A5 B2 B5 c2 c5 d2 d5) (n : Nat) : Alk2 w (W.drewN n) ga gb gx gy A0 A1 n0 c0 n1 c1 x y A2 A5 B2 B5 c2 c5 d2 d5 := ⟨h.t.drewN n, h.x, h.y⟩
theorem one_new (W : World) (o o' : Obj) : ((W.alloc o).alloc o').heap[W.heap.size]? = some o := blk_below (blk_new W o) (below_alloc (Below.refl _ _) o')
theorem two_new (W : World) (o o' : Obj) : ((W.alloc o).alloc o').heap[W.heap.size + 1]? = some o' := by
 have h := blk_new (W.alloc o) o'
 have hs : (W.alloc o).heap.size = W.heap.size + 1 := Array.size_push _
 rwa [hs] at h
theorem Alk2.xy {w W : World} {ga gb n0 c0 n1 c1 c2 c5 d2 d5 : Nat} {A0 A1 A2 A5 B2 B5 : Option Addr} {x y : S45} (h : AlkW w W ga gb A0 A1 n0 c0 n1 c1) : Alk2 w ((W.alloc (.cells #[.int .i64 x.f0, .string x.f1, .slice A2 x.f2.length c2, .string x.f3, .int .i64 x.f4, .slice A5 x.f5.length c5] 45)).alloc (.cells #[.int .i64 y.f0, .string y.f1, .slice B2 y.f2.length d2, .string y.f3, .int .i64 y.f4, .slice B5 y.f5.length d5] 45)).drew ga gb W.heap.size (W.heap.size + 1) A0 A1 n0 c0 n1 c1 x y A2 A5 B2 B5 c2 c5 d2 d5 :=
 ⟨(h.below (below_alloc (below_alloc (Below.refl _ _) _) _)).drewN 1, one_new W _ _, two_new W _ _⟩
theorem Alk2.yx {w W : World} {ga gb n0 c0 n1 c1 c2 c5 d2 d5 : Nat} {A0 A1 A2 A5 B2 B5 : Option Addr} {x y : S45} (h : AlkW w W ga gb A0 A1 n0 c0 n1 c1) : Alk2 w ((W.alloc (.cells #[.int .i64 y.f0, .string y.f1, .slice B2 y.f2.length d2, .string y.f3, .int .i64 y.f4, .slice B5 y.f5.length d5] 45)).alloc (.cells #[.int .i64 x.f0, .string x.f1, .slice A2 x.f2.length c2, .string x.f3, .int .i64 x.f4, .slice A5 x.f5.length c5] 45)).drew ga gb (W.heap.size + 1) W.heap.size A0 A1 n0 c0 n1 c1 x y A2 A5 B2 B5 c2 c5 d2 d5 :=
 ⟨(h.below (below_alloc (below_alloc (Below.refl _ _) _) _)).drewN 1, two_new W _ _, one_new W _ _⟩
theorem spec_l6Alike.calls (k : Nat) (A0 : Option Addr) (c0 : Nat) (xs : List S45) (A1 : Option Addr) (c1 : Nat) (ys : List S45) (r : Bool) (w : World) (hr0 : Kd.C k45 w A0 xs.length xs) (hr1 : Kd.C k45 w A1 ys.length ys) (h : spec_l6Alike.f k xs ys = some r) :
 Calls Try.prog 44 #[.agg #[.slice A0 xs.length c0], .agg #[.slice A1 ys.length c1]] w fun e w' => e = .returned (.bool r) ∧ Below w.heap.size w w' := by
 unfold spec_l6Alike.f at h
 have HC := Ak hr0
 have HD := Ak hr1
 have HE := Ak h
 clear hr0 hr1 h
 go_enter Try.func44, Try.ntmps44
 go_upto_region 1 with (first
  | ((with_reducible refine gate_dst (N := 2) rfl ?_); refine box_event ?hg (N := 2) ?hd (cs := #[.slice A0 xs.length c0]) (t := 29) ?hr ?_; (case hd => rfl); (case hg => rfl); (case hr => first | (go_simp; done) | (go_simp; rfl)); intro ga hg w1 hbox hb; have HX := Ak (show BoxW w w1 ga A0 xs.length c0 from ⟨hbox, hb, by rw [hg]; exact Nat.le_refl _⟩); clear hbox hb hg)
  | ((with_reducible refine gate_dst (N := 3) rfl ?_); refine box_event ?hg (N := 3) ?hd (cs := #[.slice A1 ys.length c1]) (t := 29) ?hr ?_; (case hd => rfl); (case hg => rfl); (case hr => first | (go_simp; done) | (go_simp; rfl)); intro gb hg w2 hbox hb; have HS := Ak (show AlkW w w2 ga gb A0 A1 xs.length c0 ys.length c1 from ⟨blk_below HX.out.blk hb, hbox, below_step HX.out.low hb⟩); clear hbox hb hg HX))
 have hca := blk_cell HS.out.a 0
 have hcb := blk_cell HS.out.b 0
 by_cases cl : (xs.length : Int) = (ys.length : Int)
 ·have H := HE.out
  rw [if_pos cl] at H
  have HA := Ak H
  clear H HE
  have CL := Ak cl
  have clb : ((xs.length : Int) != (ys.length : Int)) = false := bne_eq_false_iff_eq.mpr cl
  clear cl
  go_wp2
  clear hca hcb
  go_loopg [5] k (fun kq v5 w' => ∃ (i : Int), v5 = .int .i64 i ∧ Aside0 (spec_l6Alike.l0 kq xs ys i = some r) ∧ Aside0 (kq ≤ k) ∧ Aside0 (AlkW w w' ga gb A0 A1 xs.length c0 ys.length c1))
  case atStart => exact ⟨0, rfl, HA, ⟨Nat.le_refl _⟩, HS⟩
  case round =>
   clear HA HS
   obtain ⟨i, rfl, HA, HK, HS⟩ := hrel
   cases gk with
   | zero => exact absurd HA.out (by simp [spec_l6Alike.l0])
   | succ k1 =>
    have H := HA.out
    clear HA
    simp only [spec_l6Alike.l0] at H
    have hca := blk_cell HS.out.a 0
    have hcb := blk_cell HS.out.b 0
    by_cases g1 : i < (xs.length : Int)
    ·rw [if_pos g1] at H
     by_cases g2 : 0 ≤ i
     ·rw [if_pos g2] at H
      by_cases g3 : i < (ys.length : Int)
      ·rw [if_pos g3] at H
       have HA := Ak H
       clear H
       have g1b : decide (i < (xs.length : Int)) = true := decide_eq_true g1
       obtain ⟨ad, A_2, c_2, A_5, c_5, e1, hx0, hx1, hx2, hx3, hx4, hx5, hl2, hi2, hl5, hi5⟩ := at_T45 HC.out i g2 g1
       obtain ⟨bd, B_2, d_2, B_5, d_5, e2, hy0, hy1, hy2, hy3, hy4, hy5, hm2, hj2, hm5, hj5⟩ := at_T45 HD.out i g2 g3
       subst e1
       subst e2
       have HI2 := Ak hi2
       have HI5 := Ak hi5
       have HJ2 := Ak hj2
       have HJ5 := Ak hj5
       clear hl2 hi2 hl5 hi5 hm2 hj2 hm5 hj5
       have hx0 := pw_cell_below HS.out.low hx0
       have hx1 := pw_cell_below HS.out.low hx1
       have hx2 := pw_cell_below HS.out.low hx2
       have hx3 := pw_cell_below HS.out.low hx3
       have hx4 := pw_cell_below HS.out.low hx4
       have hx5 := pw_cell_below HS.out.low hx5
       have hy0 := pw_cell_below HS.out.low hy0
       have hy1 := pw_cell_below HS.out.low hy1
       have hy2 := pw_cell_below HS.out.low hy2
       have hy3 := pw_cell_below HS.out.low hy3
       have hy4 := pw_cell_below HS.out.low hy4
       have hy5 := pw_cell_below HS.out.low hy5
       replace g1 := eq_true g1
       replace g2 := eq_true g2
       replace g3 := eq_true g3
       go_upto_region 6 with (fail)
       have hq1ca := fun O => pw_cell_below (below_alloc (Below.refl wr.heap.size wr) O) hca
       have hq2ca := fun O O' => pw_cell_below (below_alloc (below_alloc (Below.refl wr.heap.size wr) O) O') hca
       have hq1cb := fun O => pw_cell_below (below_alloc (Below.refl wr.heap.size wr) O) hcb
       have hq2cb := fun O O' => pw_cell_below (below_alloc (below_alloc (Below.refl wr.heap.size wr) O) O') hcb
       have hq1x0 := fun O => pw_cell_below (below_alloc (Below.refl wr.heap.size wr) O) hx0
       have hq2x0 := fun O O' => pw_cell_below (below_alloc (below_alloc (Below.refl wr.heap.size wr) O) O') hx0
       have hq1x1 := fun O => pw_cell_below (below_alloc (Below.refl wr.heap.size wr) O) hx1
       have hq2x1 := fun O O' => pw_cell_below (below_alloc (below_alloc (Below.refl wr.heap.size wr) O) O') hx1
       have hq1x2 := fun O => pw_cell_below (below_alloc (Below.refl wr.heap.size wr) O) hx2
       have hq2x2 := fun O O' => pw_cell_below (below_alloc (below_alloc (Below.refl wr.heap.size wr) O) O') hx2
       have hq1x3 := fun O => pw_cell_below (below_alloc (Below.refl wr.heap.size wr) O) hx3
       have hq2x3 := fun O O' => pw_cell_below (below_alloc (below_alloc (Below.refl wr.heap.size wr) O) O') hx3
       have hq1x4 := fun O => pw_cell_below (below_alloc (Below.refl wr.heap.size wr) O) hx4
       have hq2x4 := fun O O' => pw_cell_below (below_alloc (below_alloc (Below.refl wr.heap.size wr) O) O') hx4
       have hq1x5 := fun O => pw_cell_below (below_alloc (Below.refl wr.heap.size wr) O) hx5
       have hq2x5 := fun O O' => pw_cell_below (below_alloc (below_alloc (Below.refl wr.heap.size wr) O) O') hx5
       have hq1y0 := fun O => pw_cell_below (below_alloc (Below.refl wr.heap.size wr) O) hy0
       have hq2y0 := fun O O' => pw_cell_below (below_alloc (below_alloc (Below.refl wr.heap.size wr) O) O') hy0
       have hq1y1 := fun O => pw_cell_below (below_alloc (Below.refl wr.heap.size wr) O) hy1
       have hq2y1 := fun O O' => pw_cell_below (below_alloc (below_alloc (Below.refl wr.heap.size wr) O) O') hy1
       have hq1y2 := fun O => pw_cell_below (below_alloc (Below.refl wr.heap.size wr) O) hy2
       have hq2y2 := fun O O' => pw_cell_below (below_alloc (below_alloc (Below.refl wr.heap.size wr) O) O') hy2
       have hq1y3 := fun O => pw_cell_below (below_alloc (Below.refl wr.heap.size wr) O) hy3
       have hq2y3 := fun O O' => pw_cell_below (below_alloc (below_alloc (Below.refl wr.heap.size wr) O) O') hy3
       have hq1y4 := fun O => pw_cell_below (below_alloc (Below.refl wr.heap.size wr) O) hy4
       have hq2y4 := fun O O' => pw_cell_below (below_alloc (below_alloc (Below.refl wr.heap.size wr) O) O') hy4
       have hq1y5 := fun O => pw_cell_below (below_alloc (Below.refl wr.heap.size wr) O) hy5
       have hq2y5 := fun O O' => pw_cell_below (below_alloc (below_alloc (Below.refl wr.heap.size wr) O) O') hy5
       go_cut [6, 7] from 17 to 113 (fun s6 s7 wx => ∃ gx gy, s6 = .pointer (some ⟨gx, 0, none⟩) ∧ s7 = .pointer (some ⟨gy, 0, none⟩) ∧ Aside0 (Alk2 w wx ga gb gx gy (some ad) (some bd) xs.length c0 ys.length c1 (rd_T45 xs i) (rd_T45 ys i) A_2 A_5 B_2 B_5 c_2 c_5 d_2 d_5))
       case first =>
        have HW := HS.out
        go_region
        all_goals (go_wp2_with fail; go_meet)
        ·exact ⟨_, _, rfl, rfl, ⟨Alk2.xy HW⟩⟩
        ·exact ⟨_, _, rfl, rfl, ⟨Alk2.yx HW⟩⟩
       case rest =>
        obtain ⟨gx, gy, rfl, rfl, HW⟩ := hcut
        generalize rd_T45 xs i = x at HA HW HI2 HI5 ⊢
        generalize rd_T45 ys i = y at HA HW HJ2 HJ5 ⊢
        clear hca hcb hx0 hy0 hx1 hy1 hx2 hy2 hx3 hy3 hx4 hy4 hx5 hy5
        clear hq1ca hq2ca hq1cb hq2cb hq1x0 hq2x0 hq1x1 hq2x1 hq1x2 hq2x2 hq1x3 hq2x3 hq1x4 hq2x4 hq1x5 hq2x5 hq1y0 hq2y0 hq1y1 hq2y1 hq1y2 hq2y2 hq1y3 hq2y3 hq1y4 hq2y4 hq1y5 hq2y5
        have hz0 := blk_cell HW.out.x 0
        have hz1 := blk_cell HW.out.x 1
        have hz2 := blk_cell HW.out.x 2
        have hz3 := blk_cell HW.out.x 3
        have hz4 := blk_cell HW.out.x 4
        have hz5 := blk_cell HW.out.x 5
        have hv0 := blk_cell HW.out.y 0
        have hv1 := blk_cell HW.out.y 1
        have hv2 := blk_cell HW.out.y 2
        have hv3 := blk_cell HW.out.y 3
        have hv4 := blk_cell HW.out.y 4
        have hv5 := blk_cell HW.out.y 5
        have H := HA.out
        clear HA
        by_cases e : spec_l6Alike.eqN x y = true
        ·rw [if_pos e] at H
         obtain ⟨b1, hb1, H⟩ := Ob H
         have HA1 := Ak hb1
         have HA := Ak H
         clear H hb1
         simp only [spec_l6Alike.eqN, Bool.and_eq_true] at e
         obtain ⟨⟨⟨⟨⟨q0, q1⟩, q3⟩, q4⟩, q2⟩, q5⟩ := e
         have p0 : (x.f0 != y.f0) = false := by simp [bne, q0]
         have p1 : (x.f1.toList != y.f1.toList) = false := by simp [bne, q1]
         have p3 : (x.f3.toList != y.f3.toList) = false := by simp [bne, q3]
         have p4 : (x.f4 != y.f4) = false := by simp [bne, q4]
         have p2 : ((x.f2.length : Int) != (y.f2.length : Int)) = false := by simp [bne, q2]
         have p5 : ((x.f5.length : Int) != (y.f5.length : Int)) = false := by simp [bne, q5]
         have Q2 := Ak (eq_of_beq q2)
         have Q5 := Ak (eq_of_beq q5)
         go_wp2
         clear q0 q1 q2 q3 q4 q5 p0 p1 p2 p3 p4 p5 hz0 hz1 hz2 hz3 hz4 hz5 hv0 hv1 hv2 hv3 hv4 hv5
         go_loopg [8] k1 (fun kq v8 w' => ∃ (j : Int), v8 = .int .i64 j ∧ Aside0 (spec_l6Alike.l1 kq x.f2 y.f2 j = some b1) ∧ Aside0 (kq ≤ k1) ∧ Aside0 (Alk2 w w' ga gb gx gy (some ad) (some bd) xs.length c0 ys.length c1 x y A_2 A_5 B_2 B_5 c_2 c_5 d_2 d_5))
         case atStart => exact ⟨0, rfl, HA1, ⟨Nat.le_refl _⟩, HW⟩
         case round =>
          clear HA1 HW
          obtain ⟨j, rfl, HA1, HK2, HW⟩ := hrel
          have hz2 := blk_cell HW.out.x 2
          have hv2 := blk_cell HW.out.y 2
          cases gk with
          | zero => exact absurd HA1.out (by simp [spec_l6Alike.l1])
          | succ k2 =>
           have H := HA1.out
           clear HA1
           simp only [spec_l6Alike.l1] at H
           by_cases g1 : j < (x.f2.length : Int)
           ·rw [if_pos g1] at H
            by_cases g2 : 0 ≤ j
            ·rw [if_pos g2] at H
             by_cases g3 : j < (y.f2.length : Int)
             ·rw [if_pos g3] at H
              have g1b : decide (j < (x.f2.length : Int)) = true := decide_eq_true g1
              obtain ⟨aa, e1, hx0, hx1⟩ := at_T98 HI2.out j g2 g1
              obtain ⟨bb, e2, hy0, hy1⟩ := at_T98 HJ2.out j g2 g3
              subst e1
              subst e2
              have hx0 := pw_cell_below HW.out.t.low hx0
              have hx1 := pw_cell_below HW.out.t.low hx1
              have hy0 := pw_cell_below HW.out.t.low hy0
              have hy1 := pw_cell_below HW.out.t.low hy1
              replace g1 := eq_true g1
              replace g2 := eq_true g2
              replace g3 := eq_true g3
              by_cases e : ((rd_T98 x.f2 j).f0.toList == (rd_T98 y.f2 j).f0.toList && (rd_T98 x.f2 j).f1.toList == (rd_T98 y.f2 j).f1.toList) = true
              ·rw [if_pos e] at H
               have HA1 := Ak H
               clear H
               go_wp2
               repeat (go_quiet (fail); try go_wp2)
               go_roundg k2
               case measure => have := HK2.out; omega
               case rel => exact ⟨_, rfl, HA1, ⟨by have := HK2.out; omega⟩, ⟨HW.out.drewN _⟩⟩
              ·rw [if_neg e] at H
               obtain rfl := Oi H
               clear H
               have H := HA.out
               rw [if_neg (by decide)] at H
               obtain rfl := Oi H
               clear H
               have e' := Bool.eq_false_iff.2 e
               clear e
               go_wp2
               repeat (go_quiet (fail); try go_wp2)
               go_ret
               exact ⟨rfl, (HW.out.drewN _).t.low⟩
             ·rw [if_neg g3] at H; cases H
            ·rw [if_neg g2] at H; cases H
           ·rw [if_neg g1] at H
            obtain rfl := Oi H
            clear H
            have H := HA.out
            rw [if_pos rfl] at H
            clear HA
            obtain ⟨b2, hb2, H⟩ := Ob H
            have HA1 := Ak hb2
            have HA := Ak H
            clear H hb2
            have g1b : decide (j < (x.f2.length : Int)) = false := decide_eq_false g1
            clear g1
            go_wp2
            clear g1b hz2 hv2
            go_loopg [9] k1 (fun kq v9 w' => ∃ (j : Int), v9 = .int .i64 j ∧ Aside0 (spec_l6Alike.l2 kq x.f5 y.f5 j = some b2) ∧ Aside0 (kq ≤ k1) ∧ Aside0 (Alk2 w w' ga gb gx gy (some ad) (some bd) xs.length c0 ys.length c1 x y A_2 A_5 B_2 B_5 c_2 c_5 d_2 d_5))
            case atStart => exact ⟨0, rfl, HA1, ⟨Nat.le_refl _⟩, HW⟩
            case round =>
             clear HA1 HW
             obtain ⟨j, rfl, HA1, HK2, HW⟩ := hrel
             have hz5 := blk_cell HW.out.x 5
             have hv5 := blk_cell HW.out.y 5
             cases gk with
             | zero => exact absurd HA1.out (by simp [spec_l6Alike.l2])
             | succ k3 =>
              have H := HA1.out
              clear HA1
              simp only [spec_l6Alike.l2] at H
              by_cases g1 : j < (x.f5.length : Int)
              ·rw [if_pos g1] at H
               by_cases g2 : 0 ≤ j
               ·rw [if_pos g2] at H
                by_cases g3 : j < (y.f5.length : Int)
                ·rw [if_pos g3] at H
                 have g1b : decide (j < (x.f5.length : Int)) = true := decide_eq_true g1
                 obtain ⟨aa, e1, hx0⟩ := Kd.at_int HI5.out j g2 g1
                 obtain ⟨bb, e2, hy0⟩ := Kd.at_int HJ5.out j g2 g3
                 subst e1
                 subst e2
                 have hx0 := pw_cell_below HW.out.t.low hx0
                 have hy0 := pw_cell_below HW.out.t.low hy0
                 replace g1 := eq_true g1
                 replace g2 := eq_true g2
                 replace g3 := eq_true g3
                 by_cases e : rd x.f5 j = rd y.f5 j
                 ·rw [if_pos e] at H
                  have HA1 := Ak H
                  clear H
                  have e' : (rd x.f5 j != rd y.f5 j) = false := bne_eq_false_iff_eq.mpr e
                  clear e
                  go_wp2
                  repeat (go_quiet (fail); try go_wp2)
                  go_roundg k3
                  case measure => have := HK2.out; omega
                  case rel => exact ⟨_, rfl, HA1, ⟨by have := HK2.out; omega⟩, ⟨HW.out.drewN _⟩⟩
                 ·rw [if_neg e] at H
                  obtain rfl := Oi H
                  clear H
                  have H := HA.out
                  rw [if_neg (by decide)] at H
                  obtain rfl := Oi H
                  clear H
                  have e' : (rd x.f5 j != rd y.f5 j) = true := bne_iff_ne.mpr e
                  clear e
                  go_wp2
                  repeat (go_quiet (fail); try go_wp2)
                  go_ret
                  exact ⟨rfl, (HW.out.drewN _).t.low⟩
                ·rw [if_neg g3] at H; cases H
               ·rw [if_neg g2] at H; cases H
              ·rw [if_neg g1] at H
               obtain rfl := Oi H
               clear H
               have H := HA.out
               rw [if_pos rfl] at H
               have HA1 := Ak H
               clear H HA
               have g1b : decide (j < (x.f5.length : Int)) = false := decide_eq_false g1
               clear g1
               go_wp2
               go_roundg k1
               case measure => have := HK.out; omega
               case rel => exact ⟨_, rfl, HA1, ⟨by have := HK.out; omega⟩, ⟨HW.out.t⟩⟩
        ·rw [if_neg e] at H
         obtain rfl := Oi H
         clear H
         have e' := Bool.eq_false_iff.2 e
         clear e
         simp only [spec_l6Alike.eqN] at e'
         cases q0 : (x.f0 == y.f0) with
         | false => clear e'; have p0 : (x.f0 != y.f0) = true := (by simp [bne, q0]); go_wp2; go_ret; exact ⟨rfl, HW.out.t.low⟩
         | true => cases q1 : (x.f1.toList == y.f1.toList) with
          | false => clear e'; have p0 : (x.f0 != y.f0) = false := (by simp [bne, q0]); have p1 : (x.f1.toList != y.f1.toList) = true := (by simp [bne, q1]); go_wp2; go_ret; exact ⟨rfl, HW.out.t.low⟩
          | true => cases q3 : (x.f3.toList == y.f3.toList) with
           | false => clear e'; have p0 : (x.f0 != y.f0) = false := (by simp [bne, q0]); have p1 : (x.f1.toList != y.f1.toList) = false := (by simp [bne, q1]); have p3 : (x.f3.toList != y.f3.toList) = true := (by simp [bne, q3]); go_wp2; go_ret; exact ⟨rfl, HW.out.t.low⟩
           | true => cases q4 : (x.f4 == y.f4) with
            | false => clear e'; have p0 : (x.f0 != y.f0) = false := (by simp [bne, q0]); have p1 : (x.f1.toList != y.f1.toList) = false := (by simp [bne, q1]); have p3 : (x.f3.toList != y.f3.toList) = false := (by simp [bne, q3]); have p4 : (x.f4 != y.f4) = true := (by simp [bne, q4]); go_wp2; go_ret; exact ⟨rfl, HW.out.t.low⟩
            | true => cases q2 : ((x.f2.length : Int) == (y.f2.length : Int)) with
             | false => clear e'; have p0 : (x.f0 != y.f0) = false := (by simp [bne, q0]); have p1 : (x.f1.toList != y.f1.toList) = false := (by simp [bne, q1]); have p3 : (x.f3.toList != y.f3.toList) = false := (by simp [bne, q3]); have p4 : (x.f4 != y.f4) = false := (by simp [bne, q4]); have p2 : ((x.f2.length : Int) != (y.f2.length : Int)) = true := (by simp [bne, q2]); go_wp2; go_ret; exact ⟨rfl, HW.out.t.low⟩
             | true => cases q5 : ((x.f5.length : Int) == (y.f5.length : Int)) with
              | false => clear e'; have p0 : (x.f0 != y.f0) = false := (by simp [bne, q0]); have p1 : (x.f1.toList != y.f1.toList) = false := (by simp [bne, q1]); have p3 : (x.f3.toList != y.f3.toList) = false := (by simp [bne, q3]); have p4 : (x.f4 != y.f4) = false := (by simp [bne, q4]); have p2 : ((x.f2.length : Int) != (y.f2.length : Int)) = false := (by simp [bne, q2]); have p5 : ((x.f5.length : Int) != (y.f5.length : Int)) = true := (by simp [bne, q5]); go_wp2; go_ret; exact ⟨rfl, HW.out.t.low⟩
              | true => rw [q0, q1, q3, q4, q2, q5] at e'; cases e'
      ·rw [if_neg g3] at H; cases H
     ·rw [if_neg g2] at H; cases H
    ·rw [if_neg g1] at H
     obtain rfl := Oi H
     clear H
     have g1b : decide (i < (xs.length : Int)) = false := decide_eq_false g1
     clear g1
     go_wp2
     go_ret
     exact ⟨rfl, HS.out.low⟩
 ·have H := HE.out
  rw [if_neg cl] at H
  obtain rfl := Oi H
  clear H HE
  have clb : ((xs.length : Int) != (ys.length : Int)) = true := bne_iff_ne.mpr cl
  clear cl
  go_wp2
  go_ret
  exact ⟨rfl, HS.out.low⟩
mutual
def spec_l6Tidy.f : Nat → List S45 → Int → Int → List S45 → Option (List S45)
 | 0, _, _, _, _ => none
 | k + 1, xs, a1, a2, outs => if 0 ≤ a1 then (if a1 < (xs.length : Int) then (if outs.length < 1000000 then (if (rd_T45 xs a1).f2.length ≤ 1048576 then spec_l6Tidy.l0 k xs (rd_T45 xs a1).f5 0 (outs.length : Int) (outs ++ [⟨(rd_T45 xs a1).f0, (rd_T45 xs a1).f1, (rd_T45 xs a1).f2, (rd_T45 xs a1).f3, a2, []⟩]) else none) else none) else none) else none
def spec_l6Tidy.l0 : Nat → List S45 → List Int → Int → Int → List S45 → Option (List S45)
 | 0, _, _, _, _, _ => none
 | k + 1, xs, ks, i, me, outs => if i < (ks.length : Int) then (if 0 ≤ i then (if 0 ≤ me then (if me < (outs.length : Int) then (if (rd_T45 outs me).f5.length < 1000000 then ((spec_l6Tidy.f k xs (rd ks i) me (outs.set me.toNat ⟨(rd_T45 outs me).f0, (rd_T45 outs me).f1, (rd_T45 outs me).f2, (rd_T45 outs me).f3, (rd_T45 outs me).f4, (rd_T45 outs me).f5 ++ [(outs.length : Int)]⟩)).bind fun o2 => spec_l6Tidy.l0 k xs ks (wrap64 (i + 1)) me o2) else none) else none) else none) else none) else some outs
end
theorem spec_l6Tidy.mono_l : ∀ k, (∀ y0 y1 y2 y3, LeO (spec_l6Tidy.f k y0 y1 y2 y3) (spec_l6Tidy.f (k + 1) y0 y1 y2 y3)) ∧ (∀ y0 y1 y2 y3 y4, LeO (spec_l6Tidy.l0 k y0 y1 y2 y3 y4) (spec_l6Tidy.l0 (k + 1) y0 y1 y2 y3 y4))
 | 0 => ⟨fun _ _ _ _ r h => by simp [spec_l6Tidy.f] at h, fun _ _ _ _ _ r h => by simp [spec_l6Tidy.l0] at h⟩
 | k + 1 => by
  obtain ⟨ih1, ih2⟩ := spec_l6Tidy.mono_l k
  constructor
  ·intro y0 y1 y2 y3
   rw [spec_l6Tidy.f, spec_l6Tidy.f]
   exact LeO.ite (LeO.ite (LeO.ite (LeO.ite (ih2 _ _ _ _ _) (LeO.refl _)) (LeO.refl _)) (LeO.refl _)) (LeO.refl _)
  ·intro y0 y1 y2 y3 y4
   rw [spec_l6Tidy.l0, spec_l6Tidy.l0]
   exact LeO.ite (LeO.ite (LeO.ite (LeO.ite (LeO.ite (LeO.bind (ih1 _ _ _ _) (fun _ => ih2 _ _ _ _ _)) (LeO.refl _)) (LeO.refl _)) (LeO.refl _)) (LeO.refl _)) (LeO.refl _)
theorem spec_l6Tidy.mono : ∀ a0 a1 a2 a3 k, LeO (spec_l6Tidy.f k a0 a1 a2 a3) (spec_l6Tidy.f (k + 1) a0 a1 a2 a3) := fun a0 a1 a2 a3 k => (spec_l6Tidy.mono_l k).1 a0 a1 a2 a3
theorem BoxW.far {w W : World} {gt m c : Nat} {A : Option Addr} (h : BoxW w W gt A m c) {gb : Nat} (hb : w.heap.size ≤ gb) (hne : gb ≠ gt) (j : Nat) (u : Value) : BoxW w (W.setCell ⟨gb, j, none⟩ u) gt A m c :=
 ⟨blk_far (p := ⟨gb, j, none⟩) h.blk (Ne.symm hne) _, below_set h.low hb, h.ge⟩
structure TidW (w0 w W : World) (P_ : Nat → Prop) (gt : Nat) (A : Option Addr) (m c : Nat) (vo : Value) (outs : List S45) : Prop where
 blk : W.heap[gt]? = some (.cells #[.slice A m c] 29 (0, 0))
 row : Kd.S k45 45 W w0.heap.size (fun k => (P_ k ∨ w.heap.size ≤ k) ∧ k ≠ gt) vo outs
 low : Below w0.heap.size w0 W
 kept : Kept w W P_
 ge : w.heap.size ≤ gt
section
variable {w0 w W W2 : World} {P_ : Nat → Prop} {gt m c : Nat} {A : Option Addr} {vo v1 : Value} {outs ys : List S45}
theorem TidW.pre (h : Kd.S k45 45 w w0.heap.size P_ vo outs) (hb : Below w.heap.size w W) (hge : w.heap.size ≤ gt) {n1 n2 : Nat} (h1 : w.heap.size ≤ n1) : Kd.S k45 45 W w0.heap.size (fun k => ((P_ k ∨ w.heap.size ≤ k) ∧ k ≠ gt) ∧ ¬ (n1 ≤ k ∧ k < n2)) vo outs :=
 Kd.S_below (Kd.S_mono (Kd.S_bound h) (fun k hk => ⟨⟨.inl hk.1, by have := hk.2.2.1; omega⟩, by have := hk.2.2.1; omega⟩)) hb
theorem TidW.start (hX : BoxW w W gt A m c) (ho : Kd.S k45 45 w w0.heap.size P_ vo outs) (hS : Kd.S k45 45 W2 w0.heap.size (fun k => (P_ k ∨ w.heap.size ≤ k) ∧ k ≠ gt) v1 ys) (hl : Below w0.heap.size w0 W2) (hg : W.grownBy W2 vo.ownBlock) : TidW w0 w W2 P_ gt A m c v1 ys :=
 ⟨blk_grown hX.blk hg (fun e => by have := Kd.S_lt ho gt e.symm; have := hX.ge; omega), hS, hl, Kept.of_grown hg (Kept.of_below hX.low _) (fun k e => .inl ((Kd.S_R ho).1 k e)), hX.ge⟩
theorem TidW.cell (h : TidW w0 w W P_ gt A m c vo outs) : W.cell? ⟨gt, 0, none⟩ = some (.slice A m c) := (blk_cell h.blk 0).trans rfl
theorem TidW.drew (h : TidW w0 w W P_ gt A m c vo outs) : TidW w0 w W.drew P_ gt A m c vo outs := ⟨h.blk, Kd.S_drewN h.row 1, pw_below_drewN h.low 1, h.kept, h.ge⟩
theorem TidW.call (h : TidW w0 w W P_ gt A m c vo outs) (hS : Kd.S k45 45 W2 w0.heap.size (fun k => ((P_ k ∨ w.heap.size ≤ k) ∧ k ≠ gt) ∨ W.heap.size ≤ k) v1 ys) (hl : Below w0.heap.size w0 W2) (hk : Kept W W2 (fun k => (P_ k ∨ w.heap.size ≤ k) ∧ k ≠ gt)) : TidW w0 w W2 P_ gt A m c v1 ys :=
 ⟨blk_kept h.blk hk (fun h_ => h_.2 rfl), Kd.S_mono hS (fun k hk_ => hk_.elim id (fun h_ => ⟨.inr (Nat.le_trans h.kept.1 h_), by have := blk_lt h.blk; omega⟩)), hl, h.kept.then_ hk (fun _ h_ => h_.1), h.ge⟩
theorem ElemW.kept {W W2 : World} {base g n cap : Nat} {ok oki : Nat → Prop} {xs : List S45} {i : Int} {x : S45} {v2 v5 : Value} (h : ElemW W base ok g n cap xs i oki x v2 v5) (hg : W.grownBy W2 v5.ownBlock) (j : Nat) : W2.frozen? ⟨g, j, none⟩ = false :=
 H_freeN (Kd.H_step h.hole (fun k _ hn hlt => hg.block k hlt (fun e => hn (h.r5.1 k e.symm)))) h.h0 h.h1 j
theorem ElemW.keptc {W W2 : World} {base g n cap : Nat} {ok oki : Nat → Prop} {xs : List S45} {i : Int} {x : S45} {v2 v5 : Value} (h : ElemW W base ok g n cap xs i oki x v2 v5) (hg : W.grownBy W2 v5.ownBlock) (j : Nat) (u : Value) (hu : ([.int .i64 x.f0, .string x.f1, v2, .string x.f3, .int .i64 x.f4, v5] : List Value)[j]? = some u) : W2.cell? ⟨g, i.toNat * 6 + j, none⟩ = some u :=
 H_cellN (Kd.H_step h.hole (fun k _ hn hlt => hg.block k hlt (fun e => hn (h.r5.1 k e.symm)))) h.h0 h.h1 j u hu
theorem TidW.kid {g n cap : Nat} {i : Int} {oki : Nat → Prop} {x : S45} {v2 v5 v5n : Value} {ks : List Int} (h : TidW w0 w W P_ gt A m c (.slice (some ⟨g, 0, none⟩) n cap) outs) (E : ElemW W w0.heap.size (fun k => (P_ k ∨ w.heap.size ≤ k) ∧ k ≠ gt) g n cap outs i oki x v2 v5) (r5 : Kd.R (Kd.int .i64) 3 W2 w0.heap.size oki v5n ks) (hl : Below w0.heap.size w0 W2) (hg : W.grownBy W2 v5.ownBlock) : TidW w0 w (W2.setCell ⟨g, i.toNat * 6 + 5, none⟩ v5n) P_ gt A m c (.slice (some ⟨g, 0, none⟩) n cap) (outs.set i.toNat ⟨x.f0, x.f1, x.f2, x.f3, x.f4, ks⟩) :=
 have hgt : (P_ g ∨ w.heap.size ≤ g) ∧ g ≠ gt := (Kd.S_R h.row).1 g rfl
 ⟨blk_far (p := ⟨g, i.toNat * 6 + 5, none⟩) (blk_grown h.blk hg (Kd.R_ne E.r5 h.blk (by decide))) (Ne.symm hgt.2) _, E.kids r5 ⟨hg.size, fun i hi hn => hg.block i hi hn⟩, below_set hl (Kd.S_base h.row g rfl), (Kept.of_grown hg h.kept (fun k e => (E.sub k (E.r5.1 k e)).1)).setCell hgt.1 _, h.ge⟩
end
theorem spec_l6Tidy.calls : ∀ (k : Nat) (P_ : Nat → Prop) (A : Option Addr) (c : Nat) (xs : List S45) (a1 a2 : Int) (u : Value) (outs : List S45) (r : List S45) (w0 w : World) (hB : Below w0.heap.size w0 w) (hC : Kd.C k45 w0 A xs.length xs) (ho : Kd.S k45 45 w w0.heap.size P_ u outs) (h : spec_l6Tidy.f k xs a1 a2 outs = some r),
 Calls Try.prog 88 #[.agg #[.slice A xs.length c], .int .i64 a1, .int .i64 a2, u] w fun e w' => ∃ v, e = .returned v ∧ Kd.S k45 45 w' w0.heap.size (fun k_ => P_ k_ ∨ w.heap.size ≤ k_) v r ∧ Below w0.heap.size w0 w' ∧ Kept w w' P_ := by
 intro k
 induction k using Nat.strongRecOn with
 | ind k IH =>
 intro P_ A c xs a1 a2 u outs r w0 w hB hC ho h
 cases k with
 | zero => simp [spec_l6Tidy.f] at h
 | succ k =>
  simp only [spec_l6Tidy.f] at h
  by_cases c1 : 0 ≤ a1
  ·rw [if_pos c1] at h
   by_cases c2 : a1 < (xs.length : Int)
   ·rw [if_pos c2] at h
    by_cases c3 : outs.length < 1000000
    ·rw [if_pos c3] at h
     by_cases c4 : (rd_T45 xs a1).f2.length ≤ 1048576
     ·rw [if_pos c4] at h
      obtain ⟨ad, A_2, c_2, A_5, c_5, e1, hx0, hx1, hx2, hx3, hx4, hx5, hl2, hi2, hl5, hi5⟩ := at_T45 hC a1 c1 c2
      subst e1
      obtain ⟨Ao, co, eo⟩ := Kd.S_slice ho
      subst eo
      have HC := Ak hC
      have HB := Ak hB
      have HX0 := Ak hx0
      have HX1 := Ak hx1
      have HX2 := Ak hx2
      have HX3 := Ak hx3
      have HX4 := Ak hx4
      have HX5 := Ak hx5
      have HI2 := Ak hi2
      have HI5 := Ak hi5
      have HA2 := Ak c4
      have HA3 := Ak c3
      have HO := Ak ho
      have HA := Ak h
      have HIH := Ak IH
      clear hC hB hx0 hx1 hx2 hx3 hx4 hx5 hl2 hi2 hl5 hi5 c4 c3 ho h IH
      have C1 := Ak c1
      have C2 := Ak c2
      replace c1 := eq_true c1
      replace c2 := eq_true c2
      go_enter Try.func88, Try.ntmps88
      go_upto_region 1 with (first | ((with_reducible refine gate_dst (N := 4) rfl ?_); refine box_event ?hg (N := 4) ?hd (cs := #[.slice (some ad) xs.length c]) (t := 29) ?hr ?_; (case hd => rfl); (case hg => rfl); (case hr => first | (go_simp; done) | (go_simp; rfl)); intro gt hg w1 hbox hb; have HX := Ak (show BoxW w w1 gt (some ad) xs.length c from ⟨hbox, hb, by rw [hg]; exact Nat.le_refl _⟩); have HTL := Ak (blk_lt hbox); have HGT := Ak hg; have hcb := HX.out.cell; have hx0 := pw_cell_below (below_step HB.out HX.out.low) HX0.out; have hx1 := pw_cell_below (below_step HB.out HX.out.low) HX1.out; have hx2 := pw_cell_below (below_step HB.out HX.out.low) HX2.out; have hx3 := pw_cell_below (below_step HB.out HX.out.low) HX3.out; have hx4 := pw_cell_below (below_step HB.out HX.out.low) HX4.out; have hx5 := pw_cell_below (below_step HB.out HX.out.low) HX5.out; clear hbox hb hg))
      go_upto_region 2 with (first | ((with_reducible refine gate_dst (N := 9) rfl ?_); refine box_event ?hg (N := 9) ?hd (cs := #[.int .i64 0, .string (⟨#[]⟩ : ByteArray), .slice none 0 0, .string (⟨#[]⟩ : ByteArray), .int .i64 0, .slice none 0 0]) (t := 45) ?hr ?_; (case hd => rfl); (case hg => rfl); (case hr => first | (go_simp; done) | (go_simp; rfl)); intro gb hg w2 hbox hb; have HGB := Ak hg; have HB2 := Ak hb; have HBX := Ak hbox; have hz0 := blk_cell hbox 0; have hz1 := blk_cell hbox 1; have hz2 := blk_cell hbox 2; have hz3 := blk_cell hbox 3; have hz4 := blk_cell hbox 4; have hz5 := blk_cell hbox 5; have hf := blk_frozen hbox; clear hbox hb hg))
      show Code.wp _ _ _ _ (fillN w2 gb (rd_T45 xs a1) (.slice A_2 (rd_T45 xs a1).f2.length c_2) (.slice A_5 (rd_T45 xs a1).f5.length c_5))
      have HW1 := Ak HX.out.low
      have HNE := Ak (show gb ≠ gt by have := blk_lt HX.out.blk; have := HGB.out; omega)
      have HBN := Ak (fillN_blk (rd_T45 xs a1) (.slice A_2 (rd_T45 xs a1).f2.length c_2) (.slice A_5 (rd_T45 xs a1).f5.length c_5) HBX.out)
      have HL := Ak (fillN_below (w := w1) (gb := gb) (rd_T45 xs a1) (.slice A_2 (rd_T45 xs a1).f2.length c_2) (.slice A_5 (rd_T45 xs a1).f5.length c_5) HB2.out (Nat.le_of_eq HGB.out.symm))
      have HX := Ak (BoxW.fill (HX.out.below HB2.out) (by have := HGB.out; have := HW1.out.size; omega) HNE.out (rd_T45 xs a1) (.slice A_2 (rd_T45 xs a1).f2.length c_2) (.slice A_5 (rd_T45 xs a1).f5.length c_5))
      generalize fillN w2 gb (rd_T45 xs a1) (.slice A_2 (rd_T45 xs a1).f2.length c_2) (.slice A_5 (rd_T45 xs a1).f5.length c_5) = w3 at HBN HL HX ⊢
      clear hz0 hz1 hz2 hz3 hz4 hz5 hf HBX HB2 hx0 hx1 hx2 hx3 hx4 hx5 hcb
      have hz5 := blk_cell HBN.out 5
      go_upto_region 4 with (fail)
      clear hz5
      have hf4 := blk_frozen HBN.out
      have hz4 := blk_cell HBN.out 4
      go_upto_region 5 with (fail)
      have HGE1 := Ak (show w1.heap.size ≤ gb by rw [HGB.out]; exact Nat.le_refl _)
      have HGE := Ak (show w.heap.size ≤ gb by have := HW1.out.size; have := HGE1.out; omega)
      have HBN := Ak (blk_set HBN.out 4 (.int .i64 a2))
      have HL := Ak (below_set (j := 4) (v := .int .i64 a2) HL.out HGE1.out)
      have HX := Ak (HX.out.far HGE.out HNE.out 4 (.int .i64 a2))
      clear hf4 hz4
      generalize w3.setCell ⟨gb, 4, none⟩ (.int .i64 a2) = w4 at HBN HL HX ⊢
      go_upto_region 6 with (first | ((with_reducible refine gate_dst (N := 24) rfl ?_); refine Kd.R_lit (w0 := w1) (Kd.int .i64) w1.heap.size 3 ?hg (N := 24) ?hd (xs := ([] : List Int)) (inner := []) (ok := fun k_ => k_ ≠ gb) (okp := fun _ => False) ?hr ?hp (fun _ hk => hk.elim) (by have := HNE.out; have := blk_lt HBN.out; omega) HL.out HL.out.size (by simp) ?_; (case hd => rfl); (case hg => rfl); (case hr => first | (go_simp; done) | (go_simp; rfl)); (case hp => exact (Reps.none _ _)); intro v5n w5 ho5 hb5 hg5 hnew_; obtain ⟨B5, d5, rfl⟩ := Kd.R_slice ho5; have HR5 := Ak ho5; have HL5 := Ak hb5; have HBN5 := Ak (blk_grown HBN.out hg5 (by simp)); have HX5 := Ak (show BoxW w w5 gt (some ad) xs.length c from ⟨blk_grown HX.out.blk hg5 (by simp), below_step HW1.out HL5.out, HX.out.ge⟩); have hf5 := blk_frozen HBN5.out; have hy5 := blk_cell HBN5.out 5; clear ho5 hb5 hg5 hnew_))
      have HBN := Ak (blk_set HBN5.out 5 (.slice B5 ([] : List Int).length d5))
      have HL := Ak (below_set (j := 5) (v := .slice B5 ([] : List Int).length d5) HL5.out HGE1.out)
      have HX := Ak (HX5.out.far HGE.out HNE.out 5 (.slice B5 ([] : List Int).length d5))
      have HR5 := Ak (Kd.R_far (p := ⟨gb, 5, none⟩) HR5.out (fun _ hk => hk) (.slice B5 ([] : List Int).length d5))
      clear hf5 hy5 HBN5 HX5 HL5
      generalize w5.setCell ⟨gb, 5, none⟩ (.slice B5 ([] : List Int).length d5) = w6 at HBN HL HX HR5 ⊢
      go_upto_region 7 with (first | ((with_reducible refine gate_dst (N := 26) rfl ?_); refine Kd.R_lit (w0 := w1) k98 w1.heap.size 98 ?hg (N := 26) ?hd (xs := ([] : List S98)) (inner := []) (ok := fun k_ => k_ ≠ gb) (okp := fun _ => False) ?hr ?hp (fun _ hk => hk.elim) (by have := blk_lt HBN.out; omega) HL.out HL.out.size (by simp) ?_; (case hd => rfl); (case hg => rfl); (case hr => first | (go_simp; done) | (go_simp; rfl)); (case hp => exact (Reps.none _ _)); intro v2l w7 ho7 hb7 hg7 hnew_; have HR2 := Ak ho7; have HL7 := Ak hb7; have HBN7 := Ak (blk_grown HBN.out hg7 (by simp)); have HX7 := Ak (show BoxW w w7 gt (some ad) xs.length c from ⟨blk_grown HX.out.blk hg7 (by simp), below_step HW1.out HL7.out, HX.out.ge⟩); have HR57 := Ak (Kd.R_grown HR5.out hg7 (fun _ _ => by simp)); have hy2 := blk_cell HBN7.out 2; clear ho7 hb7 hg7 hnew_) | ((with_reducible refine gate_builtin (b := .append) (xs := #[.tmp 26, .tmp 28]) rfl ?_); at_builtin; refine Kd.R_append_rows k98 (w0 := w1) w1.heap.size rfl (.tmp 26) (.tmp 28) 43 98 (.agg #[(.string ⟨#[]⟩), (.string ⟨#[]⟩)]) 32 rfl Try.underlying43 info98 rfl (by decide) (by omega) v2l [] (rd_T45 xs a1).f2 _ _ _ (fun k_ => k_ ≠ gb) (fun _ => False) rfl rfl HR2.out (Kd.C_below HI2.out (below_step (below_step HB.out HW1.out) HL7.out)) (fun _ _ h => h) (fun _ h => h.elim) (fun k_ hk => by have := blk_lt HBN7.out; omega) HL7.out HL7.out.size (by have := HA2.out; simp only [List.length_nil]; omega) ?_; intro v2n w8 ho8 hb8 hg8 hat; rw [List.nil_append] at ho8; obtain ⟨B2, d2, rfl⟩ := Kd.R_slice ho8; have HNB := Ak (show some gb ≠ v2l.ownBlock from fun e_ => HR2.out.1 gb e_.symm rfl); have HNT := Ak (Kd.R_ne HR2.out HX7.out.blk (by decide)); have HR28 := Ak ho8; have HL8 := Ak hb8; have HBN8 := Ak (blk_grown HBN7.out hg8 HNB.out); have HX8 := Ak (show BoxW w w8 gt (some ad) xs.length c from ⟨blk_grown HX7.out.blk hg8 HNT.out, below_step HW1.out HL8.out, HX.out.ge⟩); have HR58 := Ak (Kd.R_over' HR57.out (Kd.R_typed HR2.out) (by decide) hg8); have hf8 := blk_frozen HBN8.out; have hy2b := blk_cell HBN8.out 2; clear ho8 hb8 hg8 hat))
      have HN := Ak (show NodW w1 (w8.setCell ⟨gb, 2, none⟩ (.slice B2 (rd_T45 xs a1).f2.length d2)) gb ⟨(rd_T45 xs a1).f0, (rd_T45 xs a1).f1, (rd_T45 xs a1).f2, (rd_T45 xs a1).f3, a2, []⟩ (.slice B2 (rd_T45 xs a1).f2.length d2) (.slice B5 ([] : List Int).length d5) from ⟨blk_set HBN8.out 2 _, Kd.R_far (p := ⟨gb, 2, none⟩) HR28.out (fun _ hk => hk) _, Kd.R_far (p := ⟨gb, 2, none⟩) HR58.out (fun _ hk => hk) _, below_set HL8.out HGE1.out, HGE1.out⟩)
      have HX := Ak (HX8.out.far HGE.out HNE.out 2 (.slice B2 (rd_T45 xs a1).f2.length d2))
      clear hf8 hy2b hy2 HBN8 HBN7 HX8 HX7 HL8 HL7 HR28 HR58 HR57 HR2 HR5 HBN HL HNB HNT
      generalize w8.setCell ⟨gb, 2, none⟩ (.slice B2 (rd_T45 xs a1).f2.length d2) = w9 at HN HX ⊢
      obtain ⟨hq0, hq1, hq2, hq3, hq4, hq5⟩ := HN.out.cells
      go_upto_region 8 with (first | ((with_reducible refine gate_builtin (b := .append) (xs := #[.tmp 31, .tmp 33]) rfl ?_); at_builtin; refine Kd.S_append (w0 := w0) k45 w0.heap.size rfl (.tmp 31) (.tmp 33) 27 45 (.agg #[(.int .i64 0), (.string ⟨#[]⟩), (.slice none 0 0), (.string ⟨#[]⟩), (.int .i64 0), (.slice none 0 0)]) 96 rfl Try.underlying27 info45 rfl (by decide) (by omega) (.slice Ao outs.length co) outs _ _ (fun k_ => (P_ k_ ∨ w.heap.size ≤ k_) ∧ k_ ≠ gt) (fun k_ => w1.heap.size ≤ k_ ∧ k_ < w9.heap.size) rfl rfl (NodW.elem HN.out (below_step HB.out HW1.out)) (fun k_ hk => ⟨⟨.inr (Nat.le_trans HW1.out.size hk.1), by have := HTL.out; omega⟩, fun e_ => by have := Kd.S_lt HO.out k_ e_.symm; have := HW1.out.size; omega⟩) (fun k_ hk => ⟨.inr (Nat.le_trans HX.out.low.size hk), by have := blk_lt HX.out.blk; omega⟩) (TidW.pre HO.out HX.out.low HX.out.ge HW1.out.size) (below_step HB.out HX.out.low) (below_step HB.out HX.out.low).size (by have := HA3.out; omega) ?_; intro v1 wA hS hlow hgw hat; obtain ⟨A1, c1', ev1⟩ := Kd.S_slice hS; rw [List.length_append, List.length_singleton] at ev1; subst ev1; have HT := Ak (TidW.start HX.out HO.out hS hlow hgw); clear hS hlow hgw hat))
      clear hq0 hq1 hq2 hq3 hq4 hq5 HN HX HTL HGT HGB HNE HGE HGE1 HW1 HO HX0 HX1 HX2 HX3 HX4 HX5 HI2 HA2 HA3
      generalize (outs.length : Int) = me at HA ⊢
      go_wp2
      go_loopg [3, 12] k (fun kq v3 v12 w' => ∃ (i : Int) (ots : List S45) (vo : Value), v3 = vo ∧ v12 = .int .i64 i ∧ Aside0 (spec_l6Tidy.l0 kq xs (rd_T45 xs a1).f5 i me ots = some r) ∧ Aside0 (kq ≤ k) ∧ Aside0 (TidW w0 w w' P_ gt (some ad) xs.length c vo ots))
      case atStart => exact ⟨0, _, _, rfl, rfl, HA, ⟨Nat.le_refl _⟩, HT⟩
      case round =>
       clear HA HT
       obtain ⟨i, ots, vo, rfl, rfl, HA, HK, HT⟩ := hrel
       cases gk with
       | zero => exact absurd HA.out (by simp [spec_l6Tidy.l0])
       | succ k1 =>
        have H := HA.out
        clear HA
        simp only [spec_l6Tidy.l0] at H
        by_cases c1 : i < ((rd_T45 xs a1).f5.length : Int)
        ·rw [if_pos c1] at H
         by_cases c2 : 0 ≤ i
         ·rw [if_pos c2] at H
          by_cases c3 : 0 ≤ me
          ·rw [if_pos c3] at H
           by_cases c4 : me < (ots.length : Int)
           ·rw [if_pos c4] at H
            by_cases c5 : (rd_T45 ots me).f5.length < 1000000
            ·rw [if_pos c5] at H
             obtain ⟨o2, e1, H2⟩ := Ob H
             clear H
             have HA := Ak e1
             have HA2 := Ak H2
             have HA4 := Ak c5
             clear e1 H2 c5
             obtain ⟨gr, cr, ev, _, _, _⟩ := Kd.S_form HT.out.row (by omega)
             subst ev
             obtain ⟨oki, v2, v5, he⟩ := ElemW.of HT.out.row me c3 c4
             have HE := Ak he
             clear he
             have hy5 := HE.out.cell 5 _ rfl
             have c1b : decide (i < ((rd_T45 xs a1).f5.length : Int)) = true := decide_eq_true c1
             obtain ⟨ak, e2, hy0⟩ := Kd.at_int HI5.out i c2 c1
             subst e2
             have HY := Ak hy0
             clear hy0
             replace c1 := eq_true c1
             replace c2 := eq_true c2
             replace c3 := eq_true c3
             replace c4 := eq_true c4
             go_upto_region 12 with (first | ((with_reducible refine gate_builtin (b := .append) (xs := #[.tmp 47, .tmp 50]) rfl ?_); at_builtin; refine Kd.R_append (w0 := w0) (Kd.int .i64) w0.heap.size rfl (.tmp 47) (.tmp 50) 37 3 (.int .i64 0) 8 rfl Try.underlying37 info3 rfl (by decide) (by omega) v5 (rd_T45 ots me).f5 (ots.length : Int) [.int .i64 (ots.length : Int)] oki (fun _ => False) rfl rfl rfl (fun _ hk => hk.elim) (fun k_ hk => HE.out.new k_ ⟨.inr (Nat.le_trans HT.out.kept.1 hk), by have := blk_lt HT.out.blk; omega⟩ hk) HE.out.r5 HT.out.low HT.out.low.size (by have := HA4.out; omega) ?_; intro v5n wB ho5 hlow hgw hat; obtain ⟨B51, d51, ev5⟩ := Kd.R_slice ho5; rw [List.length_append, List.length_singleton] at ev5; subst ev5; have HT2 := Ak (HT.out.kid HE.out ho5 hlow hgw); have hfk := HE.out.kept hgw; have hck := HE.out.keptc hgw 5 _ rfl; clear ho5 hlow hgw hat))
             clear hfk hck hy5 HE HT
             generalize wB.setCell ⟨gr, me.toNat * 6 + 5, none⟩ _ = wC at HT2 ⊢
             generalize ots.set me.toNat _ = ots2 at HT2 HA
             have hcg := HT2.out.cell
             have hy0 := pw_cell_below HT2.out.low HY.out
             go_still_tail 7, (by kernel_rfl)
             change wpList _ _ _ _ _ wC.drew
             have HT3 := Ak HT2.out.drew
             generalize wC.drew = wD at HT3 ⊢
             clear hcg hy0 HT2
             go_wp2_with (first | (go_at_call 88; (with_reducible refine (HIH.out k1 (by have := HK.out; omega) (fun k_ => (P_ k_ ∨ w.heap.size ≤ k_) ∧ k_ ≠ gt) (some ad) c xs (rd (rd_T45 xs a1).f5 i) me _ ots2 o2 w0 _ HT3.out.low HC.out HT3.out.row HA.out).mono ?_); rintro e w4' ⟨v4, rfl, hS, hl, hk⟩; have HT4 := Ak (HT3.out.call hS hl hk); clear hS hl hk))
             go_roundg k1
             case measure => have := HK.out; omega
             case rel => exact ⟨_, _, _, rfl, rfl, HA2, ⟨by have := HK.out; omega⟩, HT4⟩
            ·rw [if_neg c5] at H; cases H
           ·rw [if_neg c4] at H; cases H
          ·rw [if_neg c3] at H; cases H
         ·rw [if_neg c2] at H; cases H
        ·rw [if_neg c1] at H
         obtain rfl := Oi H
         clear H
         have c1b : decide (i < ((rd_T45 xs a1).f5.length : Int)) = false := decide_eq_false c1
         clear c1
         go_wp2
         go_ret
         exact ⟨_, rfl, Kd.S_mono HT.out.row (fun _ hk => hk.1), HT.out.low, HT.out.kept⟩
     ·rw [if_neg c4] at h; cases h
    ·rw [if_neg c3] at h; cases h
   ·rw [if_neg c2] at h; cases h
  ·rw [if_neg c1] at h; cases h
def spec_l6TidyOf.f (k : Nat) (l0_0 : List S45) : Option (List S45) := spec_l6Tidy.f k l0_0 0 (-1) []
theorem spec_l6TidyOf.mono : ∀ a0_0 k, LeO (spec_l6TidyOf.f k a0_0) (spec_l6TidyOf.f (k + 1) a0_0) := fun a0_0 k => spec_l6Tidy.mono _ _ _ _ k
theorem spec_l6TidyOf.calls (k : Nat) (A0_0 : Option Addr) (c0_0 : Nat) (l0_0 : List S45) (r : List S45) (w : World) (hr0_0 : Kd.C k45 w A0_0 l0_0.length l0_0) (hc0_0 : l0_0.length ≤ c0_0) (h : spec_l6TidyOf.f k l0_0 = some r) :
 Calls Try.prog 45 #[.agg #[.slice A0_0 l0_0.length c0_0]] w fun e w' => ∃ v0_ : Value, e = .returned (.agg #[v0_]) ∧ Kd.S k45 45 w' w.heap.size (fun _ => True) v0_ r ∧ Below w.heap.size w w' := by
 unfold spec_l6TidyOf.f at h
 have HA := Ak h
 have HC := Ak hr0_0
 clear h hr0_0 hc0_0
 go_enter Try.func45, Try.ntmps45
 go_upto_region 1 with (first
  | ((with_reducible refine gate_dst (N := 1) rfl ?_); refine box_event ?hg (N := 1) ?hd (cs := #[.slice A0_0 l0_0.length c0_0]) (t := 29) ?hr ?_; (case hd => rfl); (case hg => rfl); (case hr => first | (go_simp; done) | (go_simp; rfl)); intro gt hg w1 hbox hb; have HX := Ak (show BoxW w w1 gt A0_0 l0_0.length c0_0 from ⟨hbox, hb, by rw [hg]; exact Nat.le_refl _⟩); clear hbox hb hg)
  | ((with_reducible refine gate_dst (N := 2) rfl ?_); refine box_event ?hg (N := 2) ?hd (cs := #[.slice none 0 0]) (t := 29) ?hr ?_; (case hd => rfl); (case hg => rfl); (case hr => first | (go_simp; done) | (go_simp; rfl)); intro gr hg w2 hbox hb; have HR := Ak hbox; have HX2 := Ak (HX.out.below hb); have HLR := Ak (blk_lt hbox); have HGR := Ak (show w.heap.size ≤ gr by rw [hg]; exact HX.out.low.size); clear hbox hb hg))
 have hcg := HX2.out.cell
 go_wp2_with (first
  | ((with_reducible refine gate_dst (N := 4) rfl ?_); refine Kd.S_lit (w0 := w) k45 w.heap.size 45 ?hg (N := 4) ?hd (xs := ([] : List S45)) (inner := []) (ok := fun k_ => w2.heap.size ≤ k_) (okp := fun _ => False) ?hr ?hp (fun _ hk => hk.elim) (Nat.le_refl _) HX2.out.low HX2.out.low.size (by simp) ?_; (case hd => rfl); (case hg => rfl); (case hr => first | (go_simp; done) | (go_simp; rfl)); (case hp => exact (Reps.none _ _)); intro u w3 ho hb hg hnew_; have HO := Ak ho; have HB3 := Ak hb; have HR3 := Ak (blk_grown HR.out hg (by simp)); clear ho hb hg hnew_)
  | (go_at_call 88; (with_reducible refine (spec_l6Tidy.calls k (fun k_ => w2.heap.size ≤ k_) A0_0 c0_0 l0_0 0 (-1) u [] r w w3 HB3.out HC.out HO.out HA.out).mono ?_); rintro e w4 ⟨v, rfl, hS, hl, hk⟩; obtain ⟨Aq, cq, rfl⟩ := Kd.S_slice hS; have HS := Ak hS; have HL := Ak hl; have HBB := Ak (blk_kept HR3.out hk (by have := HLR.out; omega)); have hc2 := blk_cell HBB.out 0; have hf2 := blk_frozen HBB.out; clear hS hl hk))
 refine bodyPost_ret (results_cell_row rfl _ _ gr 29 #[.slice Aq r.length cq] (0, 0) _ rfl (blk_put (cs := #[.slice none 0 0]) HBB.out 0 _ rfl) Try.underlying29 rfl (by kernel_rfl)) rfl ?_
 refine ⟨_, rfl, ?_, below_set HL.out HGR.out⟩
 exact Kd.S_mono (Kd.S_far (p := ⟨gr, 0, none⟩) (Kd.S_mono HS.out (ok' := fun k_ => k_ ≠ gr) (fun k_ hk => by have := HLR.out; have h3 := blk_lt HR3.out; rcases hk with hk | hk <;> omega)) (fun _ hk => hk) _) (fun _ _ => trivial)
def spec_l7Find.l0 : Nat → List ByteArray → ByteArray → Int → Option (Int)
 | 0, _, _, _ => none
 | k + 1, x0, x1, x5 => if x5 < (x0.length : Int) then (if 0 ≤ x5 then (if (rdOf ByteArray.empty x0 x5).toList = x1.toList then (some x5) else (spec_l7Find.l0 k x0 x1 (wrap64 (x5 + 1)))) else (none)) else (some (-1))
def spec_l7Find.f (k : Nat) (l0 : List ByteArray) (a1 : ByteArray) : Option (Int) := spec_l7Find.l0 k l0 a1 0
theorem spec_l7Find.mono_l : ∀ k, (∀ y0 y1 y2, LeO (spec_l7Find.l0 k y0 y1 y2) (spec_l7Find.l0 (k + 1) y0 y1 y2))
 | 0 => fun _ _ _ r h => by simp [spec_l7Find.l0] at h
 | k + 1 => by
  have ih0 := spec_l7Find.mono_l k
  ·intro y0 y1 y2
   unfold spec_l7Find.l0
   repeat' (with_reducible first | exact ih0 _ _ _ | exact LeO.refl _ | exact LeO.none _ | refine LeO.ite ?_ ?_ | refine LeO.bind ?_ (fun _ => ?_))
theorem spec_l7Find.mono : ∀ a0 a1 k, LeO (spec_l7Find.f k a0 a1) (spec_l7Find.f (k + 1) a0 a1) := by
 intro a0 a1 k
 have ih0 := spec_l7Find.mono_l k
 unfold spec_l7Find.f
 repeat' (with_reducible first | exact ih0 _ _ _ | exact LeO.refl _ | exact LeO.none _ | refine LeO.ite ?_ ?_ | refine LeO.bind ?_ (fun _ => ?_))
theorem spec_l7Find.calls (k : Nat) (A0 : Option Addr) (c0 : Nat) (l0 : List ByteArray) (a1 : ByteArray) (r : Int) (w : World) (hr0 : Kd.C Kd.string w A0 l0.length l0) (hc0 : l0.length ≤ c0) (h : spec_l7Find.f k l0 a1 = some r) :
 Calls Try.prog 74 #[.slice A0 l0.length c0, .string a1] w fun e w' => e = .returned (.int .i64 r) ∧ Drawn0 w w' := by
 have HR0 := Ak hr0
 have HC0 := Ak hc0
 clear hr0 hc0
 have H : (spec_l7Find.l0 k l0 a1 0) = some r := h
 clear h
 have H' := Ak H
 clear H
 go_enter Try.func74, Try.ntmps74
 go_wp2
 go_loopg [5] k (fun kq v5 w' => ∃ (x5_1 : Int), v5 = .int .i64 x5_1 ∧ Aside0 (spec_l7Find.l0 kq l0 a1 x5_1 = some r) ∧ Aside0 (kq ≤ k) ∧ Drawn0 w w')
 case atStart => exact ⟨(0), rfl, H', ⟨Nat.le_refl _⟩, by repeat (first | exact Drawn0.refl _ | apply Drawn0.step)⟩
 case round =>
  clear H'
  try clear p2
  obtain ⟨x5_1, rfl, HA, HK1, ⟨m1, rfl⟩⟩ := hrel
  cases gk with
  | zero => exact absurd HA.out (by simp [spec_l7Find.l0])
  | succ k1 =>
   have H := HA.out
   clear HA
   simp only [spec_l7Find.l0] at H
   by_cases c3 : x5_1 < (l0.length : Int)
   ·rw [if_pos c3] at H
    have c3b0 := decide_eq_true c3
    clear c3
    by_cases c4 : 0 ≤ x5_1
    ·rw [if_pos c4] at H
     have c4b0 := decide_eq_true c4
     clear c4
     by_cases c5 : (rdOf ByteArray.empty l0 x5_1).toList = a1.toList
     ·rw [if_pos c5] at H
      have c5b0 := beq_iff_eq.mpr c5
      have c5b1 := bne_eq_false_iff_eq.mpr c5
      clear c5
      obtain rfl := Oi H
      have p101 : 0 ≤ (x5_1 : Int) := of_decide_eq_true (by assumption)
      have q101 : x5_1 < (l0.length : Int) := of_decide_eq_true (by assumption)
      obtain ⟨ad101, e101, hx101_0⟩ := Kd.at_string HR0.out x5_1 p101 q101
      cases e101
      replace p101 := eq_true p101
      replace q101 := eq_true q101
      go_wp2
      go_ret
      exact ⟨rfl, by repeat (first | exact Drawn0.refl _ | apply Drawn0.step)⟩
     ·rw [if_neg c5] at H
      have c5b0 := beq_eq_false_iff_ne.mpr c5
      have c5b1 := bne_iff_ne.mpr c5
      have H' := Ak H
      clear H
      have p101 : 0 ≤ (x5_1 : Int) := of_decide_eq_true (by assumption)
      have q101 : x5_1 < (l0.length : Int) := of_decide_eq_true (by assumption)
      obtain ⟨ad101, e101, hx101_0⟩ := Kd.at_string HR0.out x5_1 p101 q101
      cases e101
      replace p101 := eq_true p101
      replace q101 := eq_true q101
      go_wp2
      go_roundg k1
      case measure => have := HK1.out; omega
      case rel => exact ⟨(wrap64 (x5_1 + 1)), rfl, H', ⟨by have := HK1.out; omega⟩, by repeat (first | exact Drawn0.refl _ | apply Drawn0.step)⟩
    ·rw [if_neg c4] at H
     exact absurd H (by simp)
   ·rw [if_neg c3] at H
    have c3b0 := decide_eq_false c3
    clear c3
    obtain rfl := Oi H
    go_wp2
    go_ret
    exact ⟨rfl, by repeat (first | exact Drawn0.refl _ | apply Drawn0.step)⟩
def spec_l7Put.f (k : Nat) (l0 : List ByteArray) (a1 : ByteArray) : Option (List ByteArray) := (spec_l7Find.f k l0 a1).bind fun t101 => (if t101 ≥ 0 then (some l0) else (if l0.length < 8796093022208 then (some (l0 ++ [a1])) else (none)))
theorem spec_l7Put.mono : ∀ a0 a1 k, LeO (spec_l7Put.f k a0 a1) (spec_l7Put.f (k + 1) a0 a1) := by
 intro a0 a1 k
 unfold spec_l7Put.f
 repeat' (with_reducible first | exact spec_l7Find.mono _ _ _ | exact LeO.refl _ | exact LeO.none _ | refine LeO.ite ?_ ?_ | refine LeO.bind ?_ (fun _ => ?_))
theorem spec_l7Put.calls (k : Nat) (P0_ : Nat → Prop) (u9000_ : Value) (l0 : List ByteArray) (a1 : ByteArray) (r : List ByteArray) (w0 w : World) (hB : Below w0.heap.size w0 w) (ho0 : Kd.R Kd.string 9 w w0.heap.size P0_ u9000_ l0) (h : spec_l7Put.f k l0 a1 = some r) :
 Calls Try.prog 102 #[u9000_, .string a1] w fun e w' => ∃ v0_ : Value, e = .returned (v0_) ∧ Kd.R Kd.string 9 w' w0.heap.size (fun k_ => (P0_ k_ ∨ w.heap.size ≤ k_)) v0_ r ∧ Below w0.heap.size w0 w' ∧ Kept w w' (fun k_ => P0_ k_) := by
 have HO0 := Ak (show Kd.R Kd.string 9 w w0.heap.size (fun k_ => (P0_ k_ ∨ w.heap.size ≤ k_)) u9000_ l0 from Kd.R_mono ho0 (fun k_ hk => (.inl hk)))
 have HK := Ak (Kept.refl w (fun k_ => P0_ k_))
 have HW0 := Ak hB.size
 have HB := Ak hB
 clear hB
 have H : ((spec_l7Find.f k l0 a1).bind fun t101 => (if t101 ≥ 0 then (some l0) else (if l0.length < 8796093022208 then (some (l0 ++ [a1])) else (none)))) = some r := h
 clear h
 replace H := Ob H
 obtain ⟨t101, A30, H⟩ := H
 replace H : (if t101 ≥ 0 then (some l0) else (if l0.length < 8796093022208 then (some (l0 ++ [a1])) else (none))) = some r := H
 have A3 := Ak A30
 clear A30
 by_cases c4 : t101 ≥ 0
 ·rw [if_pos c4] at H
  have c4b0 : decide (0 ≤ t101) = true := decide_eq_true c4
  clear c4
  obtain rfl := Oi H
  obtain ⟨Ao5, co5, eo5⟩ := Kd.R_slice HO0.out
  subst eo5
  go_enter Try.func102, Try.ntmps102
  go_wp2_with (first | (go_at_call 74; (with_reducible refine (spec_l7Find.calls k _ _ l0 a1 t101 _ ?side1 ?side2 A3.out).mono ?_); (case side1 => repeat (first | exact (Kd.R_reads' HO0.out).2.2 | (with_reducible refine Kd.C_alloc ?_ _) | (with_reducible refine Kd.C_drewN ?_ _) | (with_reducible refine Kd.C_drew ?_))); (case side2 => exact (Kd.R_reads' HO0.out).2.1); rintro e w' ⟨rfl, ⟨nd, rfl⟩⟩))
  go_ret
  exact ⟨_, rfl, by (with_reducible repeat (first | apply Kd.R_alloc | apply Kd.R_drewN | apply Kd.R_drew)); exact HO0.out, by repeat (first | exact HB.out | apply below_alloc | apply pw_below_drewN | apply below_drew1), by repeat (first | exact HK.out | apply Kept.alloc | apply Kept.drewN | apply Kept.drew)⟩
 ·rw [if_neg c4] at H
  have c4b0 : decide (0 ≤ t101) = false := decide_eq_false c4
  clear c4
  by_cases c6 : l0.length < 8796093022208
  ·rw [if_pos c6] at H
   have LMc6 := Ak c6
   clear c6
   obtain ⟨y102, hy102⟩ : ∃ y_ : List ByteArray, y_ = (l0 ++ [a1]) := ⟨_, rfl⟩
   replace H : (some y102) = some r := by rw [hy102]; exact H
   have Ny102 := Ak hy102
   clear hy102
   obtain rfl := Oi H
   obtain ⟨Ao7, co7, eo7⟩ := Kd.R_slice HO0.out
   subst eo7
   go_enter Try.func102, Try.ntmps102
   go_wp2_with (first | (go_at_call 74; (with_reducible refine (spec_l7Find.calls k _ _ l0 a1 t101 _ ?side1 ?side2 A3.out).mono ?_); (case side1 => repeat (first | exact (Kd.R_reads' HO0.out).2.2 | (with_reducible refine Kd.C_alloc ?_ _) | (with_reducible refine Kd.C_drewN ?_ _) | (with_reducible refine Kd.C_drew ?_))); (case side2 => exact (Kd.R_reads' HO0.out).2.1); rintro e w' ⟨rfl, ⟨nd, rfl⟩⟩) | ((with_reducible refine gate_builtin (b := .append) (xs := #[.tmp 10, .tmp 12]) rfl ?_); at_builtin; refine Kd.R_append Kd.string (w0 := w0) w0.heap.size rfl (.tmp 10) (.tmp 12) 92 9 (.string ⟨#[]⟩) 16 rfl Try.underlying92 info9 rfl (by decide) (by omega) (.slice Ao7 l0.length co7) l0 a1 [.string a1] (fun k_ => (P0_ k_ ∨ w.heap.size ≤ k_)) (fun _ => False) rfl rfl ?aP (fun _ hk => hk.elim) ?aF ?aO ?aB ?aS ?aL ?_; (case aP => exact rfl); (case aB => exact (by repeat (first | exact HB.out | apply below_alloc | apply pw_below_drewN | apply below_drew1))); (case aF => exact (fun k_ hk => (.inr (Nat.le_trans (by first | exact HK.out.1 | exact (show Kept w _ (fun k_ => P0_ k_) from by repeat (first | exact HK.out | apply Kept.alloc | apply Kept.drewN | apply Kept.drew)).1) hk)))); (case aO => exact HO0.out); (case aS => exact (below_size (by repeat (first | exact HB.out | apply below_alloc | apply pw_below_drewN | apply below_drew1)))); (case aL => have := LMc6.out; omega); intro v103 w8 ho hb hg hat; rw [← Ny102.out] at ho; replace HK := Ak (Kept.of_grown (S := (fun k_ => P0_ k_)) hg (by repeat (first | exact HK.out | apply Kept.alloc | apply Kept.drewN | apply Kept.drew)) (fun k_ e_ => (HO0.out.1 k_ e_))); replace HO104 := Ak (ho); replace HB := Ak (hb); clear ho hb hg hat))
   go_ret
   exact ⟨_, rfl, by (with_reducible repeat (first | apply Kd.R_alloc | apply Kd.R_drewN | apply Kd.R_drew)); exact HO104.out, by repeat (first | exact HB.out | apply below_alloc | apply pw_below_drewN | apply below_drew1), by repeat (first | exact HK.out | apply Kept.alloc | apply Kept.drewN | apply Kept.drew)⟩
  ·rw [if_neg c6] at H
   exact absurd H (by simp)
def spec_l7Names.l1 : Nat → List ByteArray → List S98 → Int → Option (List ByteArray)
 | 0, _, _, _ => none
 | k + 1, ns, al, j => if j < (al.length : Int) then (if 0 ≤ j then (spec_l7Put.f k ns (rd_T98 al j).f0).bind fun y => spec_l7Names.l1 k y al (wrap64 (j + 1)) else none) else some ns
def spec_l7Names.l0 : Nat → List ByteArray → List S45 → Int → Option (List ByteArray)
 | 0, _, _, _ => none
 | k + 1, ns, xs, i => if i < (xs.length : Int) then (if 0 ≤ i then (if (rd_T45 xs i).f0 = 3 ∨ (rd_T45 xs i).f0 = 2 then spec_l7Put.f k ns (rd_T45 xs i).f1 else some ns).bind fun y => (spec_l7Names.l1 k y (rd_T45 xs i).f2 0).bind fun z => spec_l7Names.l0 k z xs (wrap64 (i + 1)) else none) else some ns
def spec_l7Names.f (k : Nat) (xs : List S45) : Option (List ByteArray) := spec_l7Names.l0 k [] xs 0
theorem spec_l7Names.mono1 : ∀ k a b c, LeO (spec_l7Names.l1 k a b c) (spec_l7Names.l1 (k + 1) a b c)
 | 0 => fun _ _ _ r h => by simp [spec_l7Names.l1] at h
 | k + 1 => fun a b c => by
  rw [spec_l7Names.l1, spec_l7Names.l1]
  exact LeO.ite (LeO.ite (LeO.bind (spec_l7Put.mono _ _ k) (fun _ => spec_l7Names.mono1 k _ _ _)) (LeO.refl _)) (LeO.refl _)
theorem spec_l7Names.mono0 : ∀ k a b c, LeO (spec_l7Names.l0 k a b c) (spec_l7Names.l0 (k + 1) a b c)
 | 0 => fun _ _ _ r h => by simp [spec_l7Names.l0] at h
 | k + 1 => fun a b c => by
  rw [spec_l7Names.l0, spec_l7Names.l0]
  exact LeO.ite (LeO.ite (LeO.bind (LeO.ite (spec_l7Put.mono _ _ k) (LeO.refl _)) (fun _ => LeO.bind (spec_l7Names.mono1 k _ _ _) (fun _ => spec_l7Names.mono0 k _ _ _))) (LeO.refl _)) (LeO.refl _)
theorem spec_l7Names.mono : ∀ a0 k, LeO (spec_l7Names.f k a0) (spec_l7Names.f (k + 1) a0) := fun _ k => spec_l7Names.mono0 k _ _ _
structure LnW (w W : World) (gt : Nat) (A0 : Option Addr) (n0 c0 : Nat) (v : Value) (ns : List ByteArray) : Prop where
 bt : W.heap[gt]? = some (.cells #[.slice A0 n0 c0] 29 (0, 0))
 row : Kd.R Kd.string 9 W w.heap.size (fun _ => True) v ns
 low : Below w.heap.size w W
structure LnN (w W : World) (gt : Nat) (A0 : Option Addr) (n0 c0 : Nat) (v : Value) (ns : List ByteArray) (gn : Nat) (x : S45) (A2 A5 : Option Addr) (c2 c5 : Nat) : Prop where
 t : LnW w W gt A0 n0 c0 v ns
 bn : W.heap[gn]? = some (.cells #[.int .i64 x.f0, .string x.f1, .slice A2 x.f2.length c2, .string x.f3, .int .i64 x.f4, .slice A5 x.f5.length c5] 45 (0, 0))
section
variable {w W W2 : World} {gt n0 c0 gn c2 c5 : Nat} {A0 A2 A5 : Option Addr} {v v2 : Value} {ns ns2 : List ByteArray} {x : S45}
theorem LnW.below (h : LnW w W gt A0 n0 c0 v ns) (hb : Below W.heap.size W W2) : LnW w W2 gt A0 n0 c0 v ns := ⟨blk_below h.bt hb, Kd.R_below h.row hb, below_step h.low hb⟩
theorem LnN.low (h : LnN w W gt A0 n0 c0 v ns gn x A2 A5 c2 c5) : Below w.heap.size w W := h.t.low
theorem LnN.row (h : LnN w W gt A0 n0 c0 v ns gn x A2 A5 c2 c5) : Kd.R Kd.string 9 W w.heap.size (fun _ => True) v ns := h.t.row
theorem LnN.step (h : LnN w W gt A0 n0 c0 v ns gn x A2 A5 c2 c5) (hr : Kd.R Kd.string 9 W2 w.heap.size (fun k_ => some k_ = v.ownBlock ∨ W.heap.size ≤ k_) v2 ns2) (hb : Below w.heap.size w W2) (hk : Kept W W2 (fun k_ => some k_ = v.ownBlock)) : LnN w W2 gt A0 n0 c0 v2 ns2 gn x A2 A5 c2 c5 :=
 ⟨⟨blk_kept h.t.bt hk (Kd.R_ne h.t.row h.t.bt (by decide)), Kd.R_mono hr (fun _ _ => trivial), hb⟩, blk_kept h.bn hk (Kd.R_ne h.t.row h.bn (by decide))⟩
end
theorem spec_l7Names.calls (k : Nat) (A0 : Option Addr) (c0 : Nat) (xs : List S45) (r : List ByteArray) (w : World) (hr0 : Kd.C k45 w A0 xs.length xs) (hc0 : xs.length ≤ c0) (h : spec_l7Names.f k xs = some r) :
 Calls Try.prog 71 #[.agg #[.slice A0 xs.length c0]] w fun e w' => ∃ v0_ : Value, e = .returned v0_ ∧ Kd.R Kd.string 9 w' w.heap.size (fun _ => True) v0_ r ∧ Below w.heap.size w w' := by
 have HA := Ak (show spec_l7Names.l0 k [] xs 0 = some r from h)
 have HC := Ak hr0
 clear h hr0
 go_enter Try.func71, Try.ntmps71
 go_wp2_with (first | ((with_reducible refine gate_dst (N := 1) rfl ?_); refine box_event ?hg (N := 1) ?hd (cs := #[.slice A0 xs.length c0]) (t := 29) ?hr ?_; (case hd => rfl); (case hg => rfl); (case hr => first | (go_simp; done) | (go_simp; rfl)); intro gt hg w1 hbox hb; have HT := Ak hbox; have HL := Ak hb; clear hbox hb hg) | ((with_reducible refine gate_dst (N := 7) rfl ?_); refine Kd.R_lit Kd.string _ 9 ?hg (N := 7) ?hd (xs := ([] : List ByteArray)) (inner := []) (ok := fun _ => True) (okp := fun _ => True) ?hr ?hp (fun _ hk => hk) trivial (Below.refl _ _) (Nat.le_refl _) (by simp) ?_; (case hd => rfl); (case hg => rfl); (case hr => first | (go_simp; done) | (go_simp; rfl)); (case hp => exact (Reps.none _ _)); intro vz w2 hz hb hg_ hnew_; have HP := Ak (show LnW w w2 gt A0 xs.length c0 vz [] from ⟨blk_below HT.out hb, Kd.R_lower hz HL.out.size, below_step HL.out hb⟩); clear hz hb hg_ hnew_ HT HL))
 go_loopg [3, 4] k (fun kq v3 v4 w' => ∃ (ns : List ByteArray) (i : Int), v4 = .int .i64 i ∧ Aside0 (spec_l7Names.l0 kq ns xs i = some r) ∧ Aside0 (kq ≤ k) ∧ Aside0 (LnW w w' gt A0 xs.length c0 v3 ns))
 case atStart => exact ⟨_, _, rfl, HA, ⟨Nat.le_refl _⟩, HP⟩
 case round =>
  clear HA HP
  obtain ⟨ns, i, rfl, HA, HK, HP⟩ := hrel
  cases gk with
  | zero => exact absurd HA.out (by simp [spec_l7Names.l0])
  | succ k1 =>
   have H := HA.out
   clear HA
   simp only [spec_l7Names.l0] at H
   have hct := blk_cell HP.out.bt 0
   by_cases c1 : i < (xs.length : Int)
   ·rw [if_pos c1] at H
    by_cases c2_ : 0 ≤ i
    ·rw [if_pos c2_] at H
     obtain ⟨y, A1, H⟩ := Ob H
     have HA1 := Ak A1
     have HA := Ak H
     clear A1 H
     have c1b : decide (i < (xs.length : Int)) = true := decide_eq_true c1
     obtain ⟨ad, A2, c2, A5, c5, e1, hx0, hx1, hx2, hx3, hx4, hx5, hl2, hi2, hl5, hi5⟩ := at_T45 HC.out i c2_ c1
     subst e1
     have HI2 := Ak hi2
     clear hl2 hi2 hl5 hi5
     have hx0 := pw_cell_below HP.out.low hx0
     have hx1 := pw_cell_below HP.out.low hx1
     have hx2 := pw_cell_below HP.out.low hx2
     have hx3 := pw_cell_below HP.out.low hx3
     have hx4 := pw_cell_below HP.out.low hx4
     have hx5 := pw_cell_below HP.out.low hx5
     replace c1 := eq_true c1
     replace c2_ := eq_true c2_
     generalize hxx : rd_T45 xs i = x at *
     clear hxx
     go_upto_region 6 with (fail)
     have hX := blk_new wr (.cells #[.int .i64 x.f0, .string x.f1, .slice A2 x.f2.length c2, .string x.f3, .int .i64 x.f4, .slice A5 x.f5.length c5] 45)
     have hl := below_alloc (Below.refl wr.heap.size wr) (.cells #[.int .i64 x.f0, .string x.f1, .slice A2 x.f2.length c2, .string x.f3, .int .i64 x.f4, .slice A5 x.f5.length c5] 45)
     generalize wr.alloc (.cells #[.int .i64 x.f0, .string x.f1, .slice A2 x.f2.length c2, .string x.f3, .int .i64 x.f4, .slice A5 x.f5.length c5] 45) = w3 at hX hl ⊢
     have HX := Ak (show LnN w w3 gt (some ad) xs.length c0 u3 ns wr.heap.size x A2 A5 c2 c5 from ⟨HP.out.below hl, hX⟩)
     clear hl hX hx0 hx1 hx2 hx3 hx4 hx5 hct HP
     generalize wr.heap.size = gn at HX ⊢
     have hn0 := blk_cell HX.out.bn 0
     have hn1 := blk_cell HX.out.bn 1
     go_cut [27] from 20 to 26 (fun v27 wc => v27 = .bool (decide (x.f0 = 3 ∨ x.f0 = 2)) ∧ Aside0 (LnN w wc gt (some ad) xs.length c0 u3 ns gn x A2 A5 c2 c5))
     case first =>
      by_cases e3 : x.f0 = 3
      ·have e3b : (x.f0 == 3) = true := beq_iff_eq.2 e3
       go_wp2
       go_meet
       case rel => exact ⟨by rw [decide_eq_true (.inl e3)], HX⟩
      ·have e3b : (x.f0 == 3) = false := beq_eq_false_iff_ne.2 e3
       go_wp2
       go_meet
       case rel => exact ⟨by by_cases e2 : x.f0 = 2 <;> simp [e3, e2], HX⟩
     case rest =>
      clear HX hn0 hn1
      obtain ⟨rfl, HX⟩ := hcut
      have hn1 := blk_cell HX.out.bn 1
      go_upto_if 27 with (fail)
      go_cut [3] (fun s3 wc => Aside0 (LnN w wc gt (some ad) xs.length c0 s3 y gn x A2 A5 c2 c5))
      case first =>
       have H := HA1.out
       by_cases e3 : x.f0 = 3 ∨ x.f0 = 2
       ·rw [if_pos e3] at H
        have HN := Ak H
        rw [decide_eq_true e3]
        clear e3 H
        go_wp2_with (first | (go_at_call 102; (with_reducible refine (spec_l7Put.calls k1 (fun k_ => some k_ = (u3 : Value).ownBlock) u3 ns x.f1 y w _ HX.out.low (Kd.R_tight rfl HX.out.row) HN.out).mono ?_); rintro e wC ⟨vC, rfl, hr, hb, hk⟩; have HPC := Ak (HX.out.step hr hb hk); clear hr hb hk))
        go_meet
        case rel => exact HPC
       ·rw [if_neg e3] at H
        obtain rfl := Oi H
        rw [decide_eq_false e3]
        clear e3 H
        go_wp2
        go_meet
        case rel => exact HX
      case rest =>
       clear HX hn1 HA1
       have HP := hcut
       clear hcut
       go_wp2
       go_loopg [3, 6] k1 (fun kq v3 v6 w' => ∃ (y : List ByteArray) (j : Int), v6 = .int .i64 j ∧ Aside0 ((spec_l7Names.l1 kq y x.f2 j).bind (fun z => spec_l7Names.l0 k1 z xs (wrap64 (i + 1))) = some r) ∧ Aside0 (kq ≤ k1) ∧ Aside0 (LnN w w' gt (some ad) xs.length c0 v3 y gn x A2 A5 c2 c5))
       case atStart => exact ⟨_, _, rfl, HA, ⟨Nat.le_refl _⟩, HP⟩
       case round =>
        clear HA HP
        obtain ⟨y, j, rfl, HA, HJ, HP⟩ := hrel
        cases gk with
        | zero => exact absurd HA.out (by simp [spec_l7Names.l1])
        | succ k2 =>
         have H := HA.out
         clear HA
         simp only [spec_l7Names.l1] at H
         have hn2 := blk_cell HP.out.bn 2
         by_cases q1 : j < (x.f2.length : Int)
         ·rw [if_pos q1] at H
          by_cases q2 : 0 ≤ j
          ·rw [if_pos q2, Option.bind_assoc] at H
           obtain ⟨z, A1, H⟩ := Ob H
           have HN := Ak A1
           have HA := Ak H
           clear A1 H
           have q1b : decide (j < (x.f2.length : Int)) = true := decide_eq_true q1
           obtain ⟨ad2, e2, hy0, hy1⟩ := at_T98 HI2.out j q2 q1
           subst e2
           have hy0 := pw_cell_below HP.out.low hy0
           replace q1 := eq_true q1
           replace q2 := eq_true q2
           clear hy1
           generalize hzz : rd_T98 x.f2 j = a at *
           clear hzz
           go_wp2_with (first | (go_at_call 102; (with_reducible refine (spec_l7Put.calls k2 (fun k_ => some k_ = (u3 : Value).ownBlock) u3 y a.f0 z w _ HP.out.low (Kd.R_tight rfl HP.out.row) HN.out).mono ?_); rintro e wC ⟨vC, rfl, hr, hb, hk⟩; have HPC := Ak (HP.out.step hr hb hk); clear hr hb hk))
           go_roundg k2
           case measure => have := HJ.out; omega
           case rel => exact ⟨_, _, rfl, HA, ⟨by have := HJ.out; omega⟩, HPC⟩
          ·rw [if_neg q2] at H; cases H
         ·rw [if_neg q1] at H
          have HA := Ak (show spec_l7Names.l0 k1 y xs (wrap64 (i + 1)) = some r from H)
          clear H
          have q1b : decide (j < (x.f2.length : Int)) = false := decide_eq_false q1
          clear q1
          go_wp2
          go_roundg k1
          case measure => have := HK.out; omega
          case rel => exact ⟨_, _, rfl, HA, ⟨by have := HK.out; omega⟩, ⟨HP.out.t⟩⟩
    ·rw [if_neg c2_] at H; cases H
   ·rw [if_neg c1] at H
    obtain rfl := Oi H
    clear H
    have c1b : decide (i < (xs.length : Int)) = false := decide_eq_false c1
    clear c1
    go_wp2
    go_ret
    exact ⟨_, rfl, HP.out.row, HP.out.low⟩
end Go.Proofs.Ytgneacekgbjkkaa.X
