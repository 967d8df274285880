/- What the Go functions that FnExactTreeAdd reaches compute, and that their walks come to just that (written by a program of this project over the kit's print). Conditions: as each states. -/
import Derived.Shelf.Abstract
import Derived.Lib.SliceRun
import Derived.Test.YtgneacekgbjkkaaKFnExactTreeAddx3
namespace Go.Proofs.Ytgneacekgbjkkaa.X
open Go.RowKit Go.Proofs.YtgneacekgbjkkaaW.PrintWords Go.Proofs.YtgneacekgbjkkaaW.PrintLast Go.Proofs.YtgneacekgbjkkaaW.PrintMore
attribute [local go_sem] max2_int min2_int max_two min_two max_three min_three max_four min_four
set_option linter.unusedVariables false
set_option linter.unusedSimpArgs false
mutual
def impl_NameOk.j0 : Nat → ByteArray → Bool → Option (Bool)
 | 0, _, _ => none
 | k + 1, x0, x23 => if x23 = true then (some false) else (if x0.size ≤ 140737488355328 then ((some (bytesOf x0 : List Int)).bind fun y103 => (impl_NameOk.l0 k y103 (y103.length : Int) 0)) else (none))
def impl_NameOk.l0 : Nat → List Int → Int → Int → Option (Bool)
 | 0, _, _, _ => none
 | k + 1, x25, x26, x27 => if x27 < x26 then (if 0 ≤ x27 then (if x27 < (x25.length : Int) then ((impl_isOuter.f (wrap64 (rd x25 x27))).bind fun t107 => (if t107 = true then (some false) else (impl_NameOk.l0 k x25 x26 (wrap64 (x27 + 1))))) else (none)) else (none)) else (some true)
end
def impl_NameOk.f (k : Nat) (a0 : ByteArray) : Option (Bool) := (impl_inRange.f (a0.size : Int) 1 60).bind fun t101 => (if t101 = true then (if 0 < (a0.size : Int) then (if (bt a0 0) < 97 then (impl_NameOk.j0 k a0 true) else (if (bt a0 0) > 122 then (impl_NameOk.j0 k a0 true) else ((impl_textOk.f k a0).bind fun t102 => (impl_NameOk.j0 k a0 (!t102))))) else (none)) else (impl_NameOk.j0 k a0 true))
theorem impl_NameOk.mono_l : ∀ k, (∀ y0 y1, LeO (impl_NameOk.j0 k y0 y1) (impl_NameOk.j0 (k + 1) y0 y1)) ∧ (∀ y0 y1 y2, LeO (impl_NameOk.l0 k y0 y1 y2) (impl_NameOk.l0 (k + 1) y0 y1 y2))
 | 0 => ⟨fun _ _ r h => by simp [impl_NameOk.j0] at h, fun _ _ _ r h => by simp [impl_NameOk.l0] at h⟩
 | k + 1 => by
  obtain ⟨ih0, ih1⟩ := impl_NameOk.mono_l k
  refine ⟨?_, ?_⟩
  · intro y0 y1
    unfold impl_NameOk.j0
    repeat' first
    | (with_reducible exact ih0 _ _)
    | (with_reducible exact ih1 _ _ _)
    | (with_reducible exact impl_textOk.mono _ _)
    | (with_reducible exact LeO.refl _)
    | (with_reducible exact LeO.none _)
    | (with_reducible refine LeO.ite ?_ ?_)
    | (with_reducible refine LeO.bind ?_ (fun _ => ?_))
    | exact ih0 _ _
    | exact ih1 _ _ _
    | exact impl_textOk.mono _ _
    | exact LeO.none _
    | refine LeO.ite ?_ ?_
    | refine LeO.bind ?_ (fun _ => ?_)
  · intro y0 y1 y2
    unfold impl_NameOk.l0
    repeat' first
    | (with_reducible exact ih0 _ _)
    | (with_reducible exact ih1 _ _ _)
    | (with_reducible exact impl_textOk.mono _ _)
    | (with_reducible exact LeO.refl _)
    | (with_reducible exact LeO.none _)
    | (with_reducible refine LeO.ite ?_ ?_)
    | (with_reducible refine LeO.bind ?_ (fun _ => ?_))
    | exact ih0 _ _
    | exact ih1 _ _ _
    | exact impl_textOk.mono _ _
    | exact LeO.none _
    | refine LeO.ite ?_ ?_
    | refine LeO.bind ?_ (fun _ => ?_)
theorem impl_NameOk.mono : ∀ a0 k, LeO (impl_NameOk.f k a0) (impl_NameOk.f (k + 1) a0) := by
 intro a0 k
 obtain ⟨ih0, ih1⟩ := impl_NameOk.mono_l k
 unfold impl_NameOk.f
 repeat' first
  | (with_reducible exact ih0 _ _)
  | (with_reducible exact ih1 _ _ _)
  | (with_reducible exact impl_textOk.mono _ _)
  | (with_reducible exact LeO.refl _)
  | (with_reducible exact LeO.none _)
  | (with_reducible refine LeO.ite ?_ ?_)
  | (with_reducible refine LeO.bind ?_ (fun _ => ?_))
  | exact ih0 _ _
  | exact ih1 _ _ _
  | exact impl_textOk.mono _ _
  | exact LeO.none _
  | refine LeO.ite ?_ ?_
  | refine LeO.bind ?_ (fun _ => ?_)
set_option maxHeartbeats 8000000 in
set_option maxRecDepth 100000 in
theorem impl_NameOk.calls (k : Nat) (a0 : ByteArray) (r : Bool) (w : World) (h : impl_NameOk.f k a0 = some r) :
 Calls Try.prog 84 #[.string a0] w fun e w' => e = .returned (.bool r) ∧ Below w.heap.size w w' := by
 have HB := Aside0.mk (Below.refl w.heap.size w)
 have H : ((impl_inRange.f (a0.size : Int) 1 60).bind fun t101 => (if t101 = true then (if 0 < (a0.size : Int) then (if (bt a0 0) < 97 then (impl_NameOk.j0 k a0 true) else (if (bt a0 0) > 122 then (impl_NameOk.j0 k a0 true) else ((impl_textOk.f k a0).bind fun t102 => (impl_NameOk.j0 k a0 (!t102))))) else (none)) else (impl_NameOk.j0 k a0 true))) = some r := h
 clear h
 have HC2 := Aside0.mk H
 clear H
 go_enter Try.func84, Try.ntmps84
 go_upto_region 1 with (fail)
 go_cut [23] (fun v23 wc => ∃ (kq : Nat) (x23_1 : Bool), v23 = .bool x23_1 ∧ Aside0 (impl_NameOk.j0 kq a0 x23_1 = some r) ∧ Aside0 (kq ≤ k) ∧ Aside0 (Below w.heap.size w wc))
 case first =>
  have H := HC2.out
  clear HC2
  replace H := Option.bind_eq_some_iff.mp H
  obtain ⟨t101, A30, H⟩ := H
  replace H : (if t101 = true then (if 0 < (a0.size : Int) then (if (bt a0 0) < 97 then (impl_NameOk.j0 k a0 true) else (if (bt a0 0) > 122 then (impl_NameOk.j0 k a0 true) else ((impl_textOk.f k a0).bind fun t102 => (impl_NameOk.j0 k a0 (!t102))))) else (none)) else (impl_NameOk.j0 k a0 true)) = some r := H
  have A3 := Aside0.mk A30
  clear A30
  by_cases c4 : t101 = true
  · subst c4
    rw [if_pos rfl] at H
    by_cases c5 : 0 < (a0.size : Int)
    · rw [if_pos c5] at H
      have c5b0 : decide (0 < (a0.size : Int)) = true := decide_eq_true c5
      have c5b1 : decide (0 < a0.size) = true := decide_eq_true (by omega)
      clear c5
      (first | rw [c5b0] | (simp only [i64_w, i32_w]; rw [c5b0]) | skip)
      by_cases c7 : (bt a0 0) < 97
      · rw [if_pos c7] at H
        have c7b0 : decide ((bt a0 0) < 97) = true := decide_eq_true c7
        clear c7
        have H' := Aside0.mk H
        clear H
        go_wp2_with (first | ((with_reducible refine gate_callee (f := 40) rfl ?_); refine goesL_ (some 7) rfl rfl Try.func40 (by kernel_rfl) rfl #[.int .i64 (a0.size : Int), .int .i64 1, .int .i64 60] rfl (by (try simp only [List.map_toArray, List.map_cons, List.map_nil]); first | done | rfl | (simp only [List.length_drop, List.length_take]; rfl)) ?_; (with_reducible refine (impl_inRange.calls (a0.size : Int) 1 60 true _ A3.out).mono ?_); rintro e w' ⟨rfl, ⟨nd, rfl⟩⟩; refine ⟨_, rfl, ?_⟩; have p6 : 0 ≤ (0 : Int) := (by omega); have q6 : 0 < a0.size := (by have : (0 : Int) < (a0.size : Int) := of_decide_eq_true (by assumption); omega); have hx6 : ∀ h : 0 < a0.size, ((a0[0]'h).toNat : Int) = bt a0 0 := bt_at a0 0; clear p6; have qi6 : (0 < (a0.size : Int)) = True := eq_true (of_decide_eq_true (by assumption)); replace q6 := eq_true q6))
        go_meet
        case rel => exact ⟨_, (true), (by first | rfl | (simp; done) | (simp [*]; done)), H', ⟨by first | omega | exact Nat.le_refl _⟩, ⟨by repeat (first | exact HB.out | apply below_alloc | apply pw_below_drewN | apply below_drew1)⟩⟩
      · rw [if_neg c7] at H
        have c7b0 : decide ((bt a0 0) < 97) = false := decide_eq_false c7
        clear c7
        by_cases c9 : (bt a0 0) > 122
        · rw [if_pos c9] at H
          have c9b0 : decide (122 < (bt a0 0)) = true := decide_eq_true c9
          clear c9
          have H' := Aside0.mk H
          clear H
          go_wp2_with (first | ((with_reducible refine gate_callee (f := 40) rfl ?_); refine goesL_ (some 7) rfl rfl Try.func40 (by kernel_rfl) rfl #[.int .i64 (a0.size : Int), .int .i64 1, .int .i64 60] rfl (by (try simp only [List.map_toArray, List.map_cons, List.map_nil]); first | done | rfl | (simp only [List.length_drop, List.length_take]; rfl)) ?_; (with_reducible refine (impl_inRange.calls (a0.size : Int) 1 60 true _ A3.out).mono ?_); rintro e w' ⟨rfl, ⟨nd, rfl⟩⟩; refine ⟨_, rfl, ?_⟩; have p6 : 0 ≤ (0 : Int) := (by omega); have q6 : 0 < a0.size := (by have : (0 : Int) < (a0.size : Int) := of_decide_eq_true (by assumption); omega); have hx6 : ∀ h : 0 < a0.size, ((a0[0]'h).toNat : Int) = bt a0 0 := bt_at a0 0; clear p6; have qi6 : (0 < (a0.size : Int)) = True := eq_true (of_decide_eq_true (by assumption)); replace q6 := eq_true q6; have p8 : 0 ≤ (0 : Int) := (by omega); have q8 : 0 < a0.size := (by have : (0 : Int) < (a0.size : Int) := of_decide_eq_true (by assumption); omega); have hx8 : ∀ h : 0 < a0.size, ((a0[0]'h).toNat : Int) = bt a0 0 := bt_at a0 0; clear p8; have qi8 : (0 < (a0.size : Int)) = True := eq_true (of_decide_eq_true (by assumption)); replace q8 := eq_true q8))
          go_meet
          case rel => exact ⟨_, (true), (by first | rfl | (simp; done) | (simp [*]; done)), H', ⟨by first | omega | exact Nat.le_refl _⟩, ⟨by repeat (first | exact HB.out | apply below_alloc | apply pw_below_drewN | apply below_drew1)⟩⟩
        · rw [if_neg c9] at H
          have c9b0 : decide (122 < (bt a0 0)) = false := decide_eq_false c9
          clear c9
          replace H := Option.bind_eq_some_iff.mp H
          obtain ⟨t102, A100, H⟩ := H
          replace H : (impl_NameOk.j0 k a0 (!t102)) = some r := H
          have A10 := Aside0.mk A100
          clear A100
          have H' := Aside0.mk H
          clear H
          go_wp2_with (first | ((with_reducible refine gate_callee (f := 40) rfl ?_); refine goesL_ (some 7) rfl rfl Try.func40 (by kernel_rfl) rfl #[.int .i64 (a0.size : Int), .int .i64 1, .int .i64 60] rfl (by (try simp only [List.map_toArray, List.map_cons, List.map_nil]); first | done | rfl | (simp only [List.length_drop, List.length_take]; rfl)) ?_; (with_reducible refine (impl_inRange.calls (a0.size : Int) 1 60 true _ A3.out).mono ?_); rintro e w' ⟨rfl, ⟨nd, rfl⟩⟩; refine ⟨_, rfl, ?_⟩; have p6 : 0 ≤ (0 : Int) := (by omega); have q6 : 0 < a0.size := (by have : (0 : Int) < (a0.size : Int) := of_decide_eq_true (by assumption); omega); have hx6 : ∀ h : 0 < a0.size, ((a0[0]'h).toNat : Int) = bt a0 0 := bt_at a0 0; clear p6; have qi6 : (0 < (a0.size : Int)) = True := eq_true (of_decide_eq_true (by assumption)); replace q6 := eq_true q6; have p8 : 0 ≤ (0 : Int) := (by omega); have q8 : 0 < a0.size := (by have : (0 : Int) < (a0.size : Int) := of_decide_eq_true (by assumption); omega); have hx8 : ∀ h : 0 < a0.size, ((a0[0]'h).toNat : Int) = bt a0 0 := bt_at a0 0; clear p8; have qi8 : (0 < (a0.size : Int)) = True := eq_true (of_decide_eq_true (by assumption)); replace q8 := eq_true q8) | (go_at_call 86; (with_reducible refine (impl_textOk.calls k a0 t102 _ A10.out).mono ?_); rintro e w11 ⟨rfl, hb⟩; have n0_ := Aside0.mk (below_step (by repeat (first | exact HB.out | apply below_alloc | apply pw_below_drewN | apply below_drew1)) hb); clear HB; have HB := n0_; clear n0_; (try clear hb); (try clear hb2); (try clear hk); (try clear hi)))
          go_meet
          case rel => exact ⟨_, (!t102), (by first | rfl | (simp; done) | (simp [*]; done)), H', ⟨by first | omega | exact Nat.le_refl _⟩, ⟨by repeat (first | exact HB.out | apply below_alloc | apply pw_below_drewN | apply below_drew1)⟩⟩
    · rw [if_neg c5] at H
      exact absurd H (by simp)
  · replace c4 := Bool.eq_false_iff.mpr c4
    subst c4
    rw [if_neg (show ¬ (false = true) by decide)] at H
    have H' := Aside0.mk H
    clear H
    go_wp2_with (first | ((with_reducible refine gate_callee (f := 40) rfl ?_); refine goesL_ (some 7) rfl rfl Try.func40 (by kernel_rfl) rfl #[.int .i64 (a0.size : Int), .int .i64 1, .int .i64 60] rfl (by (try simp only [List.map_toArray, List.map_cons, List.map_nil]); first | done | rfl | (simp only [List.length_drop, List.length_take]; rfl)) ?_; (with_reducible refine (impl_inRange.calls (a0.size : Int) 1 60 false _ A3.out).mono ?_); rintro e w' ⟨rfl, ⟨nd, rfl⟩⟩; refine ⟨_, rfl, ?_⟩))
    go_meet
    case rel => exact ⟨_, (true), (by first | rfl | (simp; done) | (simp [*]; done)), H', ⟨by first | omega | exact Nat.le_refl _⟩, ⟨by repeat (first | exact HB.out | apply below_alloc | apply pw_below_drewN | apply below_drew1)⟩⟩
 case rest =>
  clear HC2
  try clear p2
  try clear c4
  try clear c5
  try clear c5b0
  try clear c5b1
  try clear p6
  try clear q6
  try clear hx6
  try clear qi6
  try clear c7
  try clear c7b0
  try clear c8
  try clear p8
  try clear q8
  try clear hx8
  try clear qi8
  try clear c9
  try clear c9b0
  try clear p6
  try clear p8
  try clear q6
  try clear q8
  obtain ⟨kq, x23_1, rfl, HA, HJ1, HB⟩ := hcut
  cases kq with
  | zero => exact absurd HA.out (by simp [impl_NameOk.j0])
  | succ kj1 =>
   have H := HA.out
   clear HA
   simp only [impl_NameOk.j0] at H
   by_cases c12 : x23_1 = true
   · subst c12
     rw [if_pos rfl] at H
     obtain rfl := Option.some.inj H
     go_wp2
     go_ret
     exact ⟨by first | rfl | (simp [*] <;> rfl), by repeat (first | exact HB.out | apply below_alloc | apply pw_below_drewN | apply below_drew1)⟩
   · replace c12 := Bool.eq_false_iff.mpr c12
     subst c12
     rw [if_neg (show ¬ (false = true) by decide)] at H
     by_cases c13 : a0.size ≤ 140737488355328
     · rw [if_pos c13] at H
       have c13b0 := eq_true c13
       have c13b1 : decide (a0.size ≤ 140737488355328) = true := decide_eq_true c13
       clear c13
       obtain ⟨y103, hy103⟩ : ∃ y_ : List Int, y_ = (bytesOf a0) := ⟨_, rfl⟩
       replace H : (impl_NameOk.l0 kj1 y103 (y103.length : Int) 0) = some r := by first | (rw [hy103]; with_reducible exact H) | (have H2_ := (Option.bind_some _ _).symm.trans H; rw [hy103]; with_reducible exact H2_) | (have H2_ := (Option.bind_some _ _).symm.trans H; with_reducible exact H2_) | with_reducible exact H | (rw [hy103]; exact H) | exact H
       have Ny103 := Aside0.mk hy103
       clear hy103
       have H' := Aside0.mk H
       clear H
       go_wp2_with (first | ((with_reducible refine gate_dst (N := 25) rfl ?_); refine conv_V _ 5 rfl (N' := 25) rfl 9 52 _ rfl a0 rfl Try.underlying9 Try.underlying52 Try.underlying5 (of_decide_eq_true (by assumption) : a0.size ≤ 140737488355328) (ok := fun k_ => wc.heap.size ≤ k_) (Nat.le_refl _) (Below.refl _ _) (Nat.le_refl _) ?_; intro v104 w14 ho15 hb hg_ hnew_; clear hg_ hnew_; (first | rw [← Ny103.out] at ho15 | (simp only [Int.reduceToNat] at ho15; rw [← Ny103.out] at ho15)); have n0_ := Aside0.mk (Kd.V_lower (Kd.V_mono (ok' := fun k_ => True) ho15 (fun k_ hk_ => trivial)) (below_size (by repeat (first | exact HB.out | apply below_alloc | apply pw_below_drewN | apply below_drew1)))); have n1_ := Aside0.mk (below_step (by repeat (first | exact HB.out | apply below_alloc | apply pw_below_drewN | apply below_drew1)) hb); clear HB; have HO105 := n0_; have HB := n1_; clear n0_ n1_; clear hb ho15; obtain ⟨Ao16, co16, eo16⟩ := Kd.V_slice HO105.out; subst eo16))
       go_loopg [27] kj1 (fun kq v27 w' => ∃ (x27_2 : Int), v27 = .int .i64 x27_2 ∧ Aside0 (impl_NameOk.l0 kq y103 (y103.length : Int) x27_2 = some r) ∧ Aside0 (kq ≤ kj1) ∧ Aside0 (Kd.V (Kd.int .u8) 5 w' w.heap.size (fun _ => True) (.slice Ao16 y103.length co16) y103) ∧ Aside0 (Below w.heap.size w w'))
       case atStart => exact ⟨(0), (by first | rfl | (simp; done) | (simp [*]; done)), H', ⟨Nat.le_refl _⟩, ⟨by (with_reducible repeat (first | apply Kd.V_alloc | apply Kd.V_drewN | apply Kd.V_drew)); exact HO105.out⟩, ⟨by repeat (first | exact HB.out | apply below_alloc | apply pw_below_drewN | apply below_drew1)⟩⟩
       case round =>
        clear H'
        try clear c1
        try clear p2
        try clear c4
        try clear c5
        try clear c5b0
        try clear c5b1
        try clear p6
        try clear q6
        try clear hx6
        try clear qi6
        try clear c7
        try clear c7b0
        try clear c8
        try clear p8
        try clear q8
        try clear hx8
        try clear qi8
        try clear c9
        try clear c9b0
        try clear c12
        try clear c13
        try clear c13b0
        try clear c13b1
        try clear p2
        try clear p6
        try clear p8
        try clear q6
        try clear q8
        obtain ⟨x27_2, rfl, HA, HK2, HO_25, HB⟩ := hrel
        cases gk with
        | zero => exact absurd HA.out (by simp [impl_NameOk.l0])
        | succ k2 =>
         have H := HA.out
         clear HA
         simp only [impl_NameOk.l0] at H
         by_cases c17 : x27_2 < (y103.length : Int)
         · rw [if_pos c17] at H
           have c17b0 : decide (x27_2 < (y103.length : Int)) = true := decide_eq_true c17
           clear c17
           by_cases c18 : 0 ≤ x27_2
           · rw [if_pos c18] at H
             have c18b0 : decide (0 ≤ x27_2) = true := decide_eq_true c18
             clear c18
             by_cases c19 : x27_2 < (y103.length : Int)
             · rw [if_pos c19] at H
               have c19b0 : decide (x27_2 < (y103.length : Int)) = true := decide_eq_true c19
               clear c19
               replace H := Option.bind_eq_some_iff.mp H
               obtain ⟨t107, A200, H⟩ := H
               replace H : (if t107 = true then (some false) else (impl_NameOk.l0 k2 y103 (y103.length : Int) (wrap64 (x27_2 + 1)))) = some r := H
               have A20 := Aside0.mk A200
               clear A200
               by_cases c21 : t107 = true
               · subst c21
                 rw [if_pos rfl] at H
                 obtain rfl := Option.some.inj H
                 have p106 : 0 ≤ (x27_2 : Int) := of_decide_eq_true (by assumption)
                 have q106 : x27_2 < (y103.length : Int) := of_decide_eq_true (by assumption)
                 obtain ⟨ad106, e106, hx106_0⟩ := Kd.at_int (Kd.V_reads' HO_25.out).2.2 x27_2 p106 q106
                 cases e106
                 replace p106 := eq_true p106
                 replace q106 := eq_true q106
                 go_wp2_with (first | ((with_reducible refine gate_callee (f := 110) rfl ?_); refine goesL_ (some 33) rfl rfl Try.func110 (by kernel_rfl) rfl #[.int .i64 (wrap64 (rd y103 x27_2))] rfl (by (try simp only [List.map_toArray, List.map_cons, List.map_nil]); first | done | rfl | (simp only [List.length_drop, List.length_take]; rfl)) ?_; (with_reducible refine (impl_isOuter.calls (wrap64 (rd y103 x27_2)) true _ A20.out).mono ?_); rintro e w' ⟨rfl, ⟨nd, rfl⟩⟩; refine ⟨_, rfl, ?_⟩))
                 go_ret
                 exact ⟨by first | rfl | (simp [*] <;> rfl), by repeat (first | exact HB.out | apply below_alloc | apply pw_below_drewN | apply below_drew1)⟩
               · replace c21 := Bool.eq_false_iff.mpr c21
                 subst c21
                 rw [if_neg (show ¬ (false = true) by decide)] at H
                 have H' := Aside0.mk H
                 clear H
                 have p106 : 0 ≤ (x27_2 : Int) := of_decide_eq_true (by assumption)
                 have q106 : x27_2 < (y103.length : Int) := of_decide_eq_true (by assumption)
                 obtain ⟨ad106, e106, hx106_0⟩ := Kd.at_int (Kd.V_reads' HO_25.out).2.2 x27_2 p106 q106
                 cases e106
                 replace p106 := eq_true p106
                 replace q106 := eq_true q106
                 go_wp2_with (first | ((with_reducible refine gate_callee (f := 110) rfl ?_); refine goesL_ (some 33) rfl rfl Try.func110 (by kernel_rfl) rfl #[.int .i64 (wrap64 (rd y103 x27_2))] rfl (by (try simp only [List.map_toArray, List.map_cons, List.map_nil]); first | done | rfl | (simp only [List.length_drop, List.length_take]; rfl)) ?_; (with_reducible refine (impl_isOuter.calls (wrap64 (rd y103 x27_2)) false _ A20.out).mono ?_); rintro e w' ⟨rfl, ⟨nd, rfl⟩⟩; refine ⟨_, rfl, ?_⟩))
                 go_roundg k2
                 case measure => have := HJ1.out; have := HK2.out; omega
                 case rel => exact ⟨(wrap64 (x27_2 + 1)), (by first | rfl | (simp; done) | (simp [*]; done)), H', ⟨by have := HJ1.out; have := HK2.out; omega⟩, ⟨by (with_reducible repeat (first | apply Kd.V_alloc | apply Kd.V_drewN | apply Kd.V_drew)); exact HO_25.out⟩, ⟨by repeat (first | exact HB.out | apply below_alloc | apply pw_below_drewN | apply below_drew1)⟩⟩
             · rw [if_neg c19] at H
               exact absurd H (by simp)
           · rw [if_neg c18] at H
             exact absurd H (by simp)
         · rw [if_neg c17] at H
           have c17b0 : decide (x27_2 < (y103.length : Int)) = false := decide_eq_false c17
           clear c17
           obtain rfl := Option.some.inj H
           go_wp2
           go_ret
           exact ⟨by first | rfl | (simp [*] <;> rfl), by repeat (first | exact HB.out | apply below_alloc | apply pw_below_drewN | apply below_drew1)⟩
     · rw [if_neg c13] at H
       exact absurd H (by simp)
def impl_attrAt.l0 : Nat → List (S98) → ByteArray → Int → Option (Int)
 | 0, _, _, _ => none
 | k + 1, x0, x1, x6 => if x6 < (x0.length : Int) then (if 0 ≤ x6 then (if ((rd_T98 x0 x6).f0).toList = x1.toList then (some x6) else (impl_attrAt.l0 k x0 x1 (wrap64 (x6 + 1)))) else (none)) else (some (-1))
def impl_attrAt.f (k : Nat) (l0 : List (S98)) (a1 : ByteArray) : Option (Int) := impl_attrAt.l0 k l0 a1 0
theorem impl_attrAt.mono_l : ∀ k, (∀ y0 y1 y2, LeO (impl_attrAt.l0 k y0 y1 y2) (impl_attrAt.l0 (k + 1) y0 y1 y2))
 | 0 => fun _ _ _ r h => by simp [impl_attrAt.l0] at h
 | k + 1 => by
  have ih0 := impl_attrAt.mono_l k
  · intro y0 y1 y2
    unfold impl_attrAt.l0
    repeat' first
    | (with_reducible exact ih0 _ _ _)
    | (with_reducible exact LeO.refl _)
    | (with_reducible exact LeO.none _)
    | (with_reducible refine LeO.ite ?_ ?_)
    | exact ih0 _ _ _
    | exact LeO.none _
    | refine LeO.ite ?_ ?_
theorem impl_attrAt.mono : ∀ a0 a1 k, LeO (impl_attrAt.f k a0 a1) (impl_attrAt.f (k + 1) a0 a1) := fun a0 a1 k => impl_attrAt.mono_l k a0 a1 0
set_option maxHeartbeats 8000000 in
set_option maxRecDepth 100000 in
/-- The function value: is it this name. -/
theorem impl_attrAt.one (x : S98) (s : ByteArray) (B : Nat) (W : World) (hB : B < W.heap.size) (hc : W.cell? ⟨B, 0, none⟩ = some (.string s)) :
 Calls Try.prog 128 #[.agg #[.string x.f0, .string x.f1], .pointer (some ⟨B, 0, none⟩)] W fun e w' => e = .returned (.bool (x.f0.toList == s.toList)) ∧ Below W.heap.size W w' := by
 have hne : B ≠ W.heap.size := by omega
 go_enter Try.func128, Try.ntmps128
 go_wp2
 go_ret
 exact ⟨by first | rfl | (simp; done) | (simp [*]; done), (Below.refl _ _).alloc (Nat.le_refl _) _⟩
set_option maxHeartbeats 8000000 in
set_option maxRecDepth 100000 in
/-- The library's search, with that function value. -/
theorem impl_attrAt.search (k : Nat) (A0 : Option Addr) (c0 : Nat) (l0 : List (S98)) (a1 : ByteArray) (B : Nat) (r : Int) (w : World) (hr0 : Kd.C k98 w A0 l0.length l0) (hc0 : l0.length ≤ c0) (hB : B < w.heap.size) (hc : w.cell? ⟨B, 0, none⟩ = some (.string a1)) (h : impl_attrAt.l0 k l0 a1 0 = some r) :
 Calls Try.prog 127 #[.slice A0 l0.length c0, .func (.func 128) #[] #[.pointer (some ⟨B, 0, none⟩)]] w fun e w' => e = .returned (.int .i64 r) ∧ Below w.heap.size w w' := by
 have HR0 := Aside0.mk hr0
 have HC0 := Aside0.mk hc0
 clear hr0 hc0
 have HBs := Aside0.mk hB
 have HCc := Aside0.mk hc
 clear hB hc
 have HB := Aside0.mk (Below.refl w.heap.size w)
 have H' := Aside0.mk h
 clear h
 have eg : ∀ args w, (callFunc 128 args).run Try.prog w = .ok (.enter 128 args) w := Go.Proofs.enters_of Try.func128 (by kernel_rfl) rfl
 go_enter Try.func127, Try.ntmps127
 go_wp2
 go_loopg [8] k (fun kq v8 w' => ∃ (x8_1 : Int), v8 = .int .i64 x8_1 ∧ Aside0 (impl_attrAt.l0 kq l0 a1 x8_1 = some r) ∧ Aside0 (kq ≤ k) ∧ Aside0 (Below w.heap.size w w'))
 case atStart => exact ⟨(0), (by first | rfl | (simp; done) | (simp [*]; done)), H', ⟨Nat.le_refl _⟩, HB⟩
 case round =>
  clear H'
  obtain ⟨x8_1, rfl, HA, HK1, HB⟩ := hrel
  cases gk with
  | zero => exact absurd HA.out (by simp [impl_attrAt.l0])
  | succ k1 =>
   have H := HA.out
   clear HA
   simp only [impl_attrAt.l0] at H
   by_cases c3 : x8_1 < (l0.length : Int)
   · rw [if_pos c3] at H
     have c3b0 : decide (x8_1 < (l0.length : Int)) = true := decide_eq_true c3
     by_cases c4 : 0 ≤ x8_1
     · rw [if_pos c4] at H
       have c4b0 : decide (0 ≤ x8_1) = true := decide_eq_true c4
       obtain ⟨ad, e_, hx_0, hx_1⟩ := at_T98 (Kd.C_below HR0.out HB.out) x8_1 c4 c3
       cases e_
       have hb8 := Aside0.mk (impl_attrAt.one (rd_T98 l0 x8_1) a1 B wr (Nat.lt_of_lt_of_le HBs.out HB.out.size) ((HB.out.cell (p := ⟨B, 0, none⟩) HBs.out).trans HCc.out))
       have p3 := eq_true c4
       have q3 := eq_true c3
       clear c3 c4
       by_cases c5 : ((rd_T98 l0 x8_1).f0).toList = a1.toList
       · rw [if_pos c5] at H
         have c5b0 : (((rd_T98 l0 x8_1).f0).toList == a1.toList) = true := beq_iff_eq.mpr c5
         clear c5
         obtain rfl := Option.some.inj H
         have hb9 := Aside0.mk (show Calls Try.prog 128 #[.agg #[.string (rd_T98 l0 x8_1).f0, .string (rd_T98 l0 x8_1).f1], .pointer (some ⟨B, 0, none⟩)] wr fun e w' => e = .returned (.bool true) ∧ Below wr.heap.size wr w' from by rw [← c5b0]; exact hb8.out)
         go_wp2_with (go_at_fn 128; refine hb9.out.mono ?_; rintro e w' ⟨rfl, hb'⟩; have n_ := Aside0.mk (below_step HB.out hb'); clear HB hb'; have HB := n_; clear n_)
         go_ret
         exact ⟨by first | rfl | (simp; done) | (simp [*]; done), HB.out⟩
       · rw [if_neg c5] at H
         have c5b0 : (((rd_T98 l0 x8_1).f0).toList == a1.toList) = false := beq_eq_false_iff_ne.mpr c5
         clear c5
         have H' := Aside0.mk H
         clear H
         have hb9 := Aside0.mk (show Calls Try.prog 128 #[.agg #[.string (rd_T98 l0 x8_1).f0, .string (rd_T98 l0 x8_1).f1], .pointer (some ⟨B, 0, none⟩)] wr fun e w' => e = .returned (.bool false) ∧ Below wr.heap.size wr w' from by rw [← c5b0]; exact hb8.out)
         go_wp2_with (go_at_fn 128; refine hb9.out.mono ?_; rintro e w' ⟨rfl, hb'⟩; have n_ := Aside0.mk (below_step HB.out hb'); clear HB hb'; have HB := n_; clear n_)
         go_roundg k1
         case measure => have := HK1.out; omega
         case rel => exact ⟨(wrap64 (x8_1 + 1)), (by first | rfl | (simp; done) | (simp [*]; done)), H', ⟨by have := HK1.out; omega⟩, HB⟩
     · rw [if_neg c4] at H
       exact absurd H (by simp)
   · rw [if_neg c3] at H
     have c3b0 : decide (x8_1 < (l0.length : Int)) = false := decide_eq_false c3
     clear c3
     obtain rfl := Option.some.inj H
     go_wp2
     go_ret
     exact ⟨by first | rfl | (simp; done) | (simp [*]; done), HB.out⟩
set_option maxHeartbeats 8000000 in
set_option maxRecDepth 100000 in
theorem impl_attrAt.calls (k : Nat) (A0 : Option Addr) (c0 : Nat) (l0 : List (S98)) (a1 : ByteArray) (r : Int) (w : World) (hr0 : Kd.C k98 w A0 l0.length l0) (hc0 : l0.length ≤ c0) (h : impl_attrAt.f k l0 a1 = some r) :
 Calls Try.prog 111 #[.slice A0 l0.length c0, .string a1] w fun e w' => e = .returned (.int .i64 r) ∧ Below w.heap.size w w' := by
 have C8 := Aside0.mk (impl_attrAt.search k A0 c0 l0 a1 w.heap.size r (w.alloc (.cells #[.string a1] 9)) (Kd.C_alloc hr0 _) hc0 (by simp) (by simp) h)
 clear hr0 hc0 h
 go_enter Try.func111, Try.ntmps111
 go_wp2_with (go_at_call 127; refine C8.out.mono ?_; rintro e w' ⟨rfl, hb'⟩)
 go_ret
 exact ⟨rfl, below_step ((Below.refl _ w).alloc (Nat.le_refl _) _) hb'⟩
def impl_attrOk.f (k : Nat) (a0_0 : ByteArray) (a0_1 : ByteArray) : Option (Bool) := (impl_inRange.f (a0_0.size : Int) 1 60).bind fun t102 => (if t102 = true then (if (a0_1.size : Int) ≤ 3000 then ((impl_textOk.f k a0_0).bind fun t103 => (if t103 = true then ((impl_textOk.f k a0_1).bind fun t104 => (some t104)) else (some false))) else (some false)) else (some false))
theorem impl_attrOk.mono : ∀ a0 a1 k, LeO (impl_attrOk.f k a0 a1) (impl_attrOk.f (k + 1) a0 a1) := by
 intro a0 a1 k
 unfold impl_attrOk.f
 repeat' first
  | (with_reducible exact impl_textOk.mono _ _)
  | (with_reducible exact LeO.refl _)
  | (with_reducible exact LeO.none _)
  | (with_reducible refine LeO.ite ?_ ?_)
  | (with_reducible refine LeO.bind ?_ (fun _ => ?_))
  | exact impl_textOk.mono _ _
  | exact LeO.none _
  | refine LeO.ite ?_ ?_
  | refine LeO.bind ?_ (fun _ => ?_)
set_option maxHeartbeats 8000000 in
set_option maxRecDepth 100000 in
theorem impl_attrOk.calls (k : Nat) (a0_0 : ByteArray) (a0_1 : ByteArray) (r : Bool) (w : World) (h : impl_attrOk.f k a0_0 a0_1 = some r) :
 Calls Try.prog 112 #[.agg #[.string a0_0, .string a0_1]] w fun e w' => e = .returned (.bool r) ∧ Below w.heap.size w w' := by
 have hu98 := Try.underlying98
 have HB := Aside0.mk (Below.refl w.heap.size w)
 have H : ((impl_inRange.f (a0_0.size : Int) 1 60).bind fun t102 => (if t102 = true then (if (a0_1.size : Int) ≤ 3000 then ((impl_textOk.f k a0_0).bind fun t103 => (if t103 = true then ((impl_textOk.f k a0_1).bind fun t104 => (some t104)) else (some false))) else (some false)) else (some false))) = some r := h
 clear h
 replace H := Option.bind_eq_some_iff.mp H
 obtain ⟨t102, A20, H⟩ := H
 replace H : (if t102 = true then (if (a0_1.size : Int) ≤ 3000 then ((impl_textOk.f k a0_0).bind fun t103 => (if t103 = true then ((impl_textOk.f k a0_1).bind fun t104 => (some t104)) else (some false))) else (some false)) else (some false)) = some r := H
 have A2 := Aside0.mk A20
 clear A20
 by_cases c3 : t102 = true
 · subst c3
   rw [if_pos rfl] at H
   by_cases c4 : (a0_1.size : Int) ≤ 3000
   · rw [if_pos c4] at H
     have c4b0 : decide ((a0_1.size : Int) ≤ 3000) = true := decide_eq_true c4
     have c4b1 : decide (a0_1.size ≤ 3000) = true := decide_eq_true (by omega)
     clear c4
     replace H := Option.bind_eq_some_iff.mp H
     obtain ⟨t103, A50, H⟩ := H
     replace H : (if t103 = true then ((impl_textOk.f k a0_1).bind fun t104 => (some t104)) else (some false)) = some r := H
     have A5 := Aside0.mk A50
     clear A50
     by_cases c6 : t103 = true
     · subst c6
       rw [if_pos rfl] at H
       replace H := Option.bind_eq_some_iff.mp H
       obtain ⟨t104, A70, H⟩ := H
       replace H : (some t104) = some r := H
       have A7 := Aside0.mk A70
       clear A70
       obtain rfl := Option.some.inj H
       go_enter Try.func112, Try.ntmps112
       go_wp2_with (first | ((with_reducible refine gate_dst (N := 1) rfl ?_); (try (refine gate_guard (by rfl) ?_; dsimp only)); refine box_event ?hg (N := 1) ?hd (cs := #[.string a0_0, .string a0_1]) (t := 98) ?hr ?_; (case hd => rfl); (case hg => rfl); (case hr => go_simp); intro gb101 hg w8 hbox hb; have n0_ := Aside0.mk (below_step (HB.out) hb); have n1_ := Aside0.mk (hbox); have n2_ := Aside0.mk ((by rw [hg]; exact (below_size (HB.out)) : w.heap.size ≤ gb101)); have n3_ := n2_; clear HB; have HB := n0_; have BK101 := n1_; have GW101 := n2_; have GE101 := n3_; clear n0_ n1_ n2_ n3_; clear hb hbox hg; have hcz9_0 := blk_cell BK101.out 0; have hcz9_1 := blk_cell BK101.out 1; have hfz9_0 := blk_frozen BK101.out 0; have hfz9_1 := blk_frozen BK101.out 1) | ((with_reducible refine gate_callee (f := 40) rfl ?_); refine goesL_ (some 6) rfl rfl Try.func40 (by kernel_rfl) rfl #[.int .i64 (a0_0.size : Int), .int .i64 1, .int .i64 60] rfl (by (try simp only [List.map_toArray, List.map_cons, List.map_nil]); first | done | rfl | (simp only [List.length_drop, List.length_take]; rfl)) ?_; (with_reducible refine (impl_inRange.calls (a0_0.size : Int) 1 60 true _ A2.out).mono ?_); rintro e w' ⟨rfl, ⟨nd, rfl⟩⟩; refine ⟨_, rfl, ?_⟩) | (go_at_call 86; (with_reducible refine (impl_textOk.calls k a0_0 true _ A5.out).mono ?_); rintro e w10 ⟨rfl, hb⟩; have n0_ := Aside0.mk (blk_below (g := gb101) (o := .cells #[.string a0_0, .string a0_1] 98 (0, 0)) (by (with_reducible repeat (first | refine blk_drewN ?_ _ | refine blk_drew ?_ | refine blk_alloc ?_ _)); exact BK101.out) hb); have n1_ := Aside0.mk (below_step (by repeat (first | exact HB.out | apply below_alloc | apply pw_below_drewN | apply below_drew1 | refine below_set ?_ GE101.out)) hb); clear BK101; clear HB; have BK101 := n0_; have HB := n1_; clear n0_ n1_; (try clear hb); have hcz11_0 := blk_cell BK101.out 0; have hcz11_1 := blk_cell BK101.out 1; have hfz11_0 := blk_frozen BK101.out 0; have hfz11_1 := blk_frozen BK101.out 1) | (go_at_call 86; (with_reducible refine (impl_textOk.calls k a0_1 t104 _ A7.out).mono ?_); rintro e w12 ⟨rfl, hb⟩; have n0_ := Aside0.mk (blk_below (g := gb101) (o := .cells #[.string a0_0, .string a0_1] 98 (0, 0)) (by (with_reducible repeat (first | refine blk_drewN ?_ _ | refine blk_drew ?_ | refine blk_alloc ?_ _)); exact BK101.out) hb); have n1_ := Aside0.mk (below_step (by repeat (first | exact HB.out | apply below_alloc | apply pw_below_drewN | apply below_drew1 | refine below_set ?_ GE101.out)) hb); clear BK101; clear HB; have BK101 := n0_; have HB := n1_; clear n0_ n1_; (try clear hb)))
       go_ret
       exact ⟨by first | rfl | (simp [*] <;> rfl), by repeat (first | exact HB.out | apply below_alloc | apply pw_below_drewN | apply below_drew1 | refine below_set ?_ GE101.out)⟩
     · replace c6 := Bool.eq_false_iff.mpr c6
       subst c6
       rw [if_neg (show ¬ (false = true) by decide)] at H
       obtain rfl := Option.some.inj H
       go_enter Try.func112, Try.ntmps112
       go_wp2_with (first | ((with_reducible refine gate_dst (N := 1) rfl ?_); (try (refine gate_guard (by rfl) ?_; dsimp only)); refine box_event ?hg (N := 1) ?hd (cs := #[.string a0_0, .string a0_1]) (t := 98) ?hr ?_; (case hd => rfl); (case hg => rfl); (case hr => go_simp); intro gb101 hg w13 hbox hb; have n0_ := Aside0.mk (below_step (HB.out) hb); have n1_ := Aside0.mk (hbox); have n2_ := Aside0.mk ((by rw [hg]; exact (below_size (HB.out)) : w.heap.size ≤ gb101)); have n3_ := n2_; clear HB; have HB := n0_; have BK101 := n1_; have GW101 := n2_; have GE101 := n3_; clear n0_ n1_ n2_ n3_; clear hb hbox hg; have hcz14_0 := blk_cell BK101.out 0; have hcz14_1 := blk_cell BK101.out 1; have hfz14_0 := blk_frozen BK101.out 0; have hfz14_1 := blk_frozen BK101.out 1) | ((with_reducible refine gate_callee (f := 40) rfl ?_); refine goesL_ (some 6) rfl rfl Try.func40 (by kernel_rfl) rfl #[.int .i64 (a0_0.size : Int), .int .i64 1, .int .i64 60] rfl (by (try simp only [List.map_toArray, List.map_cons, List.map_nil]); first | done | rfl | (simp only [List.length_drop, List.length_take]; rfl)) ?_; (with_reducible refine (impl_inRange.calls (a0_0.size : Int) 1 60 true _ A2.out).mono ?_); rintro e w' ⟨rfl, ⟨nd, rfl⟩⟩; refine ⟨_, rfl, ?_⟩) | (go_at_call 86; (with_reducible refine (impl_textOk.calls k a0_0 false _ A5.out).mono ?_); rintro e w15 ⟨rfl, hb⟩; have n0_ := Aside0.mk (blk_below (g := gb101) (o := .cells #[.string a0_0, .string a0_1] 98 (0, 0)) (by (with_reducible repeat (first | refine blk_drewN ?_ _ | refine blk_drew ?_ | refine blk_alloc ?_ _)); exact BK101.out) hb); have n1_ := Aside0.mk (below_step (by repeat (first | exact HB.out | apply below_alloc | apply pw_below_drewN | apply below_drew1 | refine below_set ?_ GE101.out)) hb); clear BK101; clear HB; have BK101 := n0_; have HB := n1_; clear n0_ n1_; (try clear hb)))
       go_ret
       exact ⟨by first | rfl | (simp [*] <;> rfl), by repeat (first | exact HB.out | apply below_alloc | apply pw_below_drewN | apply below_drew1 | refine below_set ?_ GE101.out)⟩
   · rw [if_neg c4] at H
     have c4b0 : decide ((a0_1.size : Int) ≤ 3000) = false := decide_eq_false c4
     have c4b1 : decide (a0_1.size ≤ 3000) = false := decide_eq_false (by omega)
     clear c4
     obtain rfl := Option.some.inj H
     go_enter Try.func112, Try.ntmps112
     go_wp2_with (first | ((with_reducible refine gate_dst (N := 1) rfl ?_); (try (refine gate_guard (by rfl) ?_; dsimp only)); refine box_event ?hg (N := 1) ?hd (cs := #[.string a0_0, .string a0_1]) (t := 98) ?hr ?_; (case hd => rfl); (case hg => rfl); (case hr => go_simp); intro gb101 hg w16 hbox hb; have n0_ := Aside0.mk (below_step (HB.out) hb); have n1_ := Aside0.mk (hbox); have n2_ := Aside0.mk ((by rw [hg]; exact (below_size (HB.out)) : w.heap.size ≤ gb101)); have n3_ := n2_; clear HB; have HB := n0_; have BK101 := n1_; have GW101 := n2_; have GE101 := n3_; clear n0_ n1_ n2_ n3_; clear hb hbox hg; have hcz17_0 := blk_cell BK101.out 0; have hcz17_1 := blk_cell BK101.out 1; have hfz17_0 := blk_frozen BK101.out 0; have hfz17_1 := blk_frozen BK101.out 1) | ((with_reducible refine gate_callee (f := 40) rfl ?_); refine goesL_ (some 6) rfl rfl Try.func40 (by kernel_rfl) rfl #[.int .i64 (a0_0.size : Int), .int .i64 1, .int .i64 60] rfl (by (try simp only [List.map_toArray, List.map_cons, List.map_nil]); first | done | rfl | (simp only [List.length_drop, List.length_take]; rfl)) ?_; (with_reducible refine (impl_inRange.calls (a0_0.size : Int) 1 60 true _ A2.out).mono ?_); rintro e w' ⟨rfl, ⟨nd, rfl⟩⟩; refine ⟨_, rfl, ?_⟩))
     go_ret
     exact ⟨by first | rfl | (simp [*] <;> rfl), by repeat (first | exact HB.out | apply below_alloc | apply pw_below_drewN | apply below_drew1 | refine below_set ?_ GE101.out)⟩
 · replace c3 := Bool.eq_false_iff.mpr c3
   subst c3
   rw [if_neg (show ¬ (false = true) by decide)] at H
   obtain rfl := Option.some.inj H
   go_enter Try.func112, Try.ntmps112
   go_wp2_with (first | ((with_reducible refine gate_dst (N := 1) rfl ?_); (try (refine gate_guard (by rfl) ?_; dsimp only)); refine box_event ?hg (N := 1) ?hd (cs := #[.string a0_0, .string a0_1]) (t := 98) ?hr ?_; (case hd => rfl); (case hg => rfl); (case hr => go_simp); intro gb101 hg w18 hbox hb; have n0_ := Aside0.mk (below_step (HB.out) hb); have n1_ := Aside0.mk (hbox); have n2_ := Aside0.mk ((by rw [hg]; exact (below_size (HB.out)) : w.heap.size ≤ gb101)); have n3_ := n2_; clear HB; have HB := n0_; have BK101 := n1_; have GW101 := n2_; have GE101 := n3_; clear n0_ n1_ n2_ n3_; clear hb hbox hg; have hcz19_0 := blk_cell BK101.out 0; have hcz19_1 := blk_cell BK101.out 1; have hfz19_0 := blk_frozen BK101.out 0; have hfz19_1 := blk_frozen BK101.out 1) | ((with_reducible refine gate_callee (f := 40) rfl ?_); refine goesL_ (some 6) rfl rfl Try.func40 (by kernel_rfl) rfl #[.int .i64 (a0_0.size : Int), .int .i64 1, .int .i64 60] rfl (by (try simp only [List.map_toArray, List.map_cons, List.map_nil]); first | done | rfl | (simp only [List.length_drop, List.length_take]; rfl)) ?_; (with_reducible refine (impl_inRange.calls (a0_0.size : Int) 1 60 false _ A2.out).mono ?_); rintro e w' ⟨rfl, ⟨nd, rfl⟩⟩; refine ⟨_, rfl, ?_⟩))
   go_ret
   exact ⟨by first | rfl | (simp [*] <;> rfl), by repeat (first | exact HB.out | apply below_alloc | apply pw_below_drewN | apply below_drew1 | refine below_set ?_ GE101.out)⟩
def impl_AttrsOk.l0 : Nat → List (S98) → List (S98) → Int → Int → Option (Bool)
 | 0, _, _, _, _ => none
 | k + 1, x0, x8, x9, x10 => if x10 < x9 then (if 0 ≤ x10 then (if x10 < (x8.length : Int) then ((impl_attrAt.f k x0 ((rd_T98 x8 x10).f0)).bind fun t103 => (if t103 = x10 then ((impl_attrOk.f k ((rd_T98 x8 x10).f0) ((rd_T98 x8 x10).f1)).bind fun t104 => (if t104 = true then (impl_AttrsOk.l0 k x0 x8 x9 (wrap64 (x10 + 1))) else (some false))) else (some false))) else (none)) else (none)) else (some true)
def impl_AttrsOk.f (k : Nat) (l0 : List (S98)) : Option (Bool) := if (l0.length : Int) > 20 then (some false) else (impl_AttrsOk.l0 k l0 l0 (l0.length : Int) 0)
theorem impl_AttrsOk.mono_l : ∀ k, (∀ y0 y1 y2 y3, LeO (impl_AttrsOk.l0 k y0 y1 y2 y3) (impl_AttrsOk.l0 (k + 1) y0 y1 y2 y3))
 | 0 => fun _ _ _ _ r h => by simp [impl_AttrsOk.l0] at h
 | k + 1 => by
  have ih0 := impl_AttrsOk.mono_l k
  · intro y0 y1 y2 y3
    unfold impl_AttrsOk.l0
    repeat' first
    | (with_reducible exact ih0 _ _ _ _)
    | (with_reducible exact impl_attrAt.mono _ _ _)
    | (with_reducible exact impl_attrOk.mono _ _ _)
    | (with_reducible exact LeO.refl _)
    | (with_reducible exact LeO.none _)
    | (with_reducible refine LeO.ite ?_ ?_)
    | (with_reducible refine LeO.bind ?_ (fun _ => ?_))
    | exact ih0 _ _ _ _
    | exact impl_attrAt.mono _ _ _
    | exact impl_attrOk.mono _ _ _
    | exact LeO.none _
    | refine LeO.ite ?_ ?_
    | refine LeO.bind ?_ (fun _ => ?_)
theorem impl_AttrsOk.mono : ∀ a0 k, LeO (impl_AttrsOk.f k a0) (impl_AttrsOk.f (k + 1) a0) := by
 intro a0 k
 have ih0 := impl_AttrsOk.mono_l k
 unfold impl_AttrsOk.f
 repeat' first
  | (with_reducible exact ih0 _ _ _ _)
  | (with_reducible exact impl_attrAt.mono _ _ _)
  | (with_reducible exact impl_attrOk.mono _ _ _)
  | (with_reducible exact LeO.refl _)
  | (with_reducible exact LeO.none _)
  | (with_reducible refine LeO.ite ?_ ?_)
  | (with_reducible refine LeO.bind ?_ (fun _ => ?_))
  | exact ih0 _ _ _ _
  | exact impl_attrAt.mono _ _ _
  | exact impl_attrOk.mono _ _ _
  | exact LeO.none _
  | refine LeO.ite ?_ ?_
  | refine LeO.bind ?_ (fun _ => ?_)
set_option maxHeartbeats 8000000 in
set_option maxRecDepth 100000 in
theorem impl_AttrsOk.calls (k : Nat) (A0 : Option Addr) (c0 : Nat) (l0 : List (S98)) (r : Bool) (w : World) (hr0 : Kd.C k98 w A0 l0.length l0) (hc0 : l0.length ≤ c0) (h : impl_AttrsOk.f k l0 = some r) :
 Calls Try.prog 85 #[.slice A0 l0.length c0] w fun e w' => e = .returned (.bool r) ∧ Below w.heap.size w w' := by
 have hu98 := Try.underlying98
 have HR0 := Aside0.mk hr0
 have HC0 := Aside0.mk hc0
 clear hr0 hc0
 have HB := Aside0.mk (Below.refl w.heap.size w)
 have H : (if (l0.length : Int) > 20 then (some false) else (impl_AttrsOk.l0 k l0 l0 (l0.length : Int) 0)) = some r := h
 clear h
 by_cases c2 : (l0.length : Int) > 20
 · rw [if_pos c2] at H
   have c2b0 : decide (20 < (l0.length : Int)) = true := decide_eq_true c2
   have c2b1 : decide (20 < l0.length) = true := decide_eq_true (by omega)
   clear c2
   obtain rfl := Option.some.inj H
   go_enter Try.func85, Try.ntmps85
   go_wp2
   go_ret
   exact ⟨by first | rfl | (simp [*] <;> rfl), HB.out⟩
 · rw [if_neg c2] at H
   have c2b0 : decide (20 < (l0.length : Int)) = false := decide_eq_false c2
   have c2b1 : decide (20 < l0.length) = false := decide_eq_false (by omega)
   clear c2
   have H' := Aside0.mk H
   clear H
   go_enter Try.func85, Try.ntmps85
   go_wp2
   go_loopg [10] k (fun kq v10 w' => ∃ (x10_1 : Int), v10 = .int .i64 x10_1 ∧ Aside0 (impl_AttrsOk.l0 kq l0 l0 (l0.length : Int) x10_1 = some r) ∧ Aside0 (kq ≤ k) ∧ Aside0 (Below w.heap.size w w'))
   case atStart => exact ⟨(0), (by first | rfl | (simp; done) | (simp [*]; done)), H', ⟨Nat.le_refl _⟩, ⟨HB.out⟩⟩
   case round =>
    clear H'
    try clear c2
    try clear c2b0
    try clear c2b1
    try clear p2
    obtain ⟨x10_1, rfl, HA, HK1, HB⟩ := hrel
    cases gk with
    | zero => exact absurd HA.out (by simp [impl_AttrsOk.l0])
    | succ k1 =>
     have H := HA.out
     clear HA
     simp only [impl_AttrsOk.l0] at H
     by_cases c3 : x10_1 < (l0.length : Int)
     · rw [if_pos c3] at H
       have c3b0 : decide (x10_1 < (l0.length : Int)) = true := decide_eq_true c3
       clear c3
       by_cases c4 : 0 ≤ x10_1
       · rw [if_pos c4] at H
         have c4b0 : decide (0 ≤ x10_1) = true := decide_eq_true c4
         clear c4
         by_cases c5 : x10_1 < (l0.length : Int)
         · rw [if_pos c5] at H
           have c5b0 : decide (x10_1 < (l0.length : Int)) = true := decide_eq_true c5
           clear c5
           replace H := Option.bind_eq_some_iff.mp H
           obtain ⟨t103, A60, H⟩ := H
           replace H : (if t103 = x10_1 then ((impl_attrOk.f k1 ((rd_T98 l0 x10_1).f0) ((rd_T98 l0 x10_1).f1)).bind fun t104 => (if t104 = true then (impl_AttrsOk.l0 k1 l0 l0 (l0.length : Int) (wrap64 (x10_1 + 1))) else (some false))) else (some false)) = some r := H
           have A6 := Aside0.mk A60
           clear A60
           by_cases c7 : t103 = x10_1
           · rw [if_pos c7] at H
             have c7b0 : (t103 == x10_1) = true := beq_iff_eq.mpr c7
             have c7b1 : (t103 != x10_1) = false := bne_eq_false_iff_eq.mpr c7
             clear c7
             replace H := Option.bind_eq_some_iff.mp H
             obtain ⟨t104, A80, H⟩ := H
             replace H : (if t104 = true then (impl_AttrsOk.l0 k1 l0 l0 (l0.length : Int) (wrap64 (x10_1 + 1))) else (some false)) = some r := H
             have A8 := Aside0.mk A80
             clear A80
             by_cases c9 : t104 = true
             · subst c9
               rw [if_pos rfl] at H
               have H' := Aside0.mk H
               clear H
               have p101 : 0 ≤ (x10_1 : Int) := of_decide_eq_true (by assumption)
               have q101 : x10_1 < (l0.length : Int) := of_decide_eq_true (by assumption)
               obtain ⟨ad101, e101, hx101_0, hx101_1⟩ := at_T98 HR0.out x10_1 p101 q101
               cases e101
               replace hx101_0 := pw_cell_below HB.out hx101_0
               replace hx101_1 := pw_cell_below HB.out hx101_1
               replace p101 := eq_true p101
               replace q101 := eq_true q101
               go_wp2_with (first | ((with_reducible refine gate_dst (N := 4) rfl ?_); refine box_event ?hg (N := 4) ?hd (cs := #[.string (⟨#[]⟩ : ByteArray), .string (⟨#[]⟩ : ByteArray)]) (t := 98) ?hr ?_; (case hd => rfl); (case hg => rfl); (case hr => go_simp); intro gb102 hg w10 hbox hb; have n0_ := Aside0.mk (below_step (HB.out) hb); have n1_ := Aside0.mk (hbox); have n2_ := Aside0.mk ((by rw [hg]; exact (below_size (HB.out)) : w.heap.size ≤ gb102)); have n3_ := n2_; clear HB; have HB := n0_; have BK102 := n1_; have GW102 := n2_; have GE102 := n3_; clear n0_ n1_ n2_ n3_; clear hb hbox hg; have hcz11_0 := blk_cell BK102.out 0; have hcz11_1 := blk_cell BK102.out 1; have hfz11_0 := blk_frozen BK102.out 0; have hfz11_1 := blk_frozen BK102.out 1) | ((with_reducible refine gate_callee (f := 111) rfl ?_); refine goesL_ (some 18) rfl rfl Try.func111 (by kernel_rfl) rfl #[.slice (some ad101) l0.length c0, .string ((rd_T98 l0 x10_1).f0)] rfl (by (try simp only [List.map_toArray, List.map_cons, List.map_nil]); first | done | rfl | (simp only [List.length_drop, List.length_take]; rfl)) ?_; (with_reducible refine (impl_attrAt.calls k1 _ _ l0 ((rd_T98 l0 x10_1).f0) t103 _ ?side1 ?side2 A6.out).mono ?_); (case side1 => exact Kd.C_below HR0.out (by repeat (first | exact HB.out | apply below_alloc | apply pw_below_drewN | apply below_drew1 | refine below_set ?_ GE102.out))); (case side2 => exact HC0.out); rintro e w12 ⟨rfl, hb⟩; refine ⟨_, rfl, ?_⟩; have n0_ := Aside0.mk (blk_below (g := gb102) (o := .cells #[.string ((rd_T98 l0 x10_1).f0), .string ((rd_T98 l0 x10_1).f1)] 98 (0, 0)) (by (with_reducible repeat (first | refine blk_drewN ?_ _ | refine blk_drew ?_ | refine blk_alloc ?_ _)); refine blk_put (cs := #[.string ((rd_T98 l0 x10_1).f0), .string (⟨#[]⟩ : ByteArray)]) ?_ 1 _ rfl; (with_reducible repeat (first | refine blk_drewN ?_ _ | refine blk_drew ?_ | refine blk_alloc ?_ _)); refine blk_put (cs := #[.string (⟨#[]⟩ : ByteArray), .string (⟨#[]⟩ : ByteArray)]) ?_ 0 _ rfl; (with_reducible repeat (first | refine blk_drewN ?_ _ | refine blk_drew ?_ | refine blk_alloc ?_ _)); exact BK102.out) hb); have n1_ := Aside0.mk (below_step (by repeat (first | exact HB.out | apply below_alloc | apply pw_below_drewN | apply below_drew1 | refine below_set ?_ GE102.out)) hb); clear BK102; clear HB; have BK102 := n0_; have HB := n1_; clear n0_ n1_; (try clear hb); have hcz13_0 := blk_cell BK102.out 0; have hcz13_1 := blk_cell BK102.out 1; have hfz13_0 := blk_frozen BK102.out 0; have hfz13_1 := blk_frozen BK102.out 1) | (go_at_call 112; (with_reducible refine (impl_attrOk.calls k1 ((rd_T98 l0 x10_1).f0) ((rd_T98 l0 x10_1).f1) true _ A8.out).mono ?_); rintro e w14 ⟨rfl, hb⟩; have n0_ := Aside0.mk (blk_below BK102.out hb); have n1_ := Aside0.mk (below_step (by repeat (first | exact HB.out | apply below_alloc | apply pw_below_drewN | apply below_drew1 | refine below_set ?_ GE102.out)) hb); clear BK102; clear HB; have BK102 := n0_; have HB := n1_; clear n0_ n1_; (try clear hb)))
               go_roundg k1
               case measure => have := HK1.out; omega
               case rel => exact ⟨(wrap64 (x10_1 + 1)), (by first | rfl | (simp; done) | (simp [*]; done)), H', ⟨by have := HK1.out; omega⟩, ⟨by repeat (first | exact HB.out | apply below_alloc | apply pw_below_drewN | apply below_drew1 | refine below_set ?_ GE102.out)⟩⟩
             · replace c9 := Bool.eq_false_iff.mpr c9
               subst c9
               rw [if_neg (show ¬ (false = true) by decide)] at H
               obtain rfl := Option.some.inj H
               have p101 : 0 ≤ (x10_1 : Int) := of_decide_eq_true (by assumption)
               have q101 : x10_1 < (l0.length : Int) := of_decide_eq_true (by assumption)
               obtain ⟨ad101, e101, hx101_0, hx101_1⟩ := at_T98 HR0.out x10_1 p101 q101
               cases e101
               replace hx101_0 := pw_cell_below HB.out hx101_0
               replace hx101_1 := pw_cell_below HB.out hx101_1
               replace p101 := eq_true p101
               replace q101 := eq_true q101
               go_wp2_with (first | ((with_reducible refine gate_dst (N := 4) rfl ?_); refine box_event ?hg (N := 4) ?hd (cs := #[.string (⟨#[]⟩ : ByteArray), .string (⟨#[]⟩ : ByteArray)]) (t := 98) ?hr ?_; (case hd => rfl); (case hg => rfl); (case hr => go_simp); intro gb102 hg w15 hbox hb; have n0_ := Aside0.mk (below_step (HB.out) hb); have n1_ := Aside0.mk (hbox); have n2_ := Aside0.mk ((by rw [hg]; exact (below_size (HB.out)) : w.heap.size ≤ gb102)); have n3_ := n2_; clear HB; have HB := n0_; have BK102 := n1_; have GW102 := n2_; have GE102 := n3_; clear n0_ n1_ n2_ n3_; clear hb hbox hg; have hcz16_0 := blk_cell BK102.out 0; have hcz16_1 := blk_cell BK102.out 1; have hfz16_0 := blk_frozen BK102.out 0; have hfz16_1 := blk_frozen BK102.out 1) | ((with_reducible refine gate_callee (f := 111) rfl ?_); refine goesL_ (some 18) rfl rfl Try.func111 (by kernel_rfl) rfl #[.slice (some ad101) l0.length c0, .string ((rd_T98 l0 x10_1).f0)] rfl (by (try simp only [List.map_toArray, List.map_cons, List.map_nil]); first | done | rfl | (simp only [List.length_drop, List.length_take]; rfl)) ?_; (with_reducible refine (impl_attrAt.calls k1 _ _ l0 ((rd_T98 l0 x10_1).f0) t103 _ ?side1 ?side2 A6.out).mono ?_); (case side1 => exact Kd.C_below HR0.out (by repeat (first | exact HB.out | apply below_alloc | apply pw_below_drewN | apply below_drew1 | refine below_set ?_ GE102.out))); (case side2 => exact HC0.out); rintro e w17 ⟨rfl, hb⟩; refine ⟨_, rfl, ?_⟩; have n0_ := Aside0.mk (blk_below (g := gb102) (o := .cells #[.string ((rd_T98 l0 x10_1).f0), .string ((rd_T98 l0 x10_1).f1)] 98 (0, 0)) (by (with_reducible repeat (first | refine blk_drewN ?_ _ | refine blk_drew ?_ | refine blk_alloc ?_ _)); refine blk_put (cs := #[.string ((rd_T98 l0 x10_1).f0), .string (⟨#[]⟩ : ByteArray)]) ?_ 1 _ rfl; (with_reducible repeat (first | refine blk_drewN ?_ _ | refine blk_drew ?_ | refine blk_alloc ?_ _)); refine blk_put (cs := #[.string (⟨#[]⟩ : ByteArray), .string (⟨#[]⟩ : ByteArray)]) ?_ 0 _ rfl; (with_reducible repeat (first | refine blk_drewN ?_ _ | refine blk_drew ?_ | refine blk_alloc ?_ _)); exact BK102.out) hb); have n1_ := Aside0.mk (below_step (by repeat (first | exact HB.out | apply below_alloc | apply pw_below_drewN | apply below_drew1 | refine below_set ?_ GE102.out)) hb); clear BK102; clear HB; have BK102 := n0_; have HB := n1_; clear n0_ n1_; (try clear hb); have hcz18_0 := blk_cell BK102.out 0; have hcz18_1 := blk_cell BK102.out 1; have hfz18_0 := blk_frozen BK102.out 0; have hfz18_1 := blk_frozen BK102.out 1) | (go_at_call 112; (with_reducible refine (impl_attrOk.calls k1 ((rd_T98 l0 x10_1).f0) ((rd_T98 l0 x10_1).f1) false _ A8.out).mono ?_); rintro e w19 ⟨rfl, hb⟩; have n0_ := Aside0.mk (blk_below BK102.out hb); have n1_ := Aside0.mk (below_step (by repeat (first | exact HB.out | apply below_alloc | apply pw_below_drewN | apply below_drew1 | refine below_set ?_ GE102.out)) hb); clear BK102; clear HB; have BK102 := n0_; have HB := n1_; clear n0_ n1_; (try clear hb)))
               go_ret
               exact ⟨by first | rfl | (simp [*] <;> rfl), by repeat (first | exact HB.out | apply below_alloc | apply pw_below_drewN | apply below_drew1 | refine below_set ?_ GE102.out)⟩
           · rw [if_neg c7] at H
             have c7b0 : (t103 == x10_1) = false := beq_eq_false_iff_ne.mpr c7
             have c7b1 : (t103 != x10_1) = true := bne_iff_ne.mpr c7
             obtain rfl := Option.some.inj H
             have p101 : 0 ≤ (x10_1 : Int) := of_decide_eq_true (by assumption)
             have q101 : x10_1 < (l0.length : Int) := of_decide_eq_true (by assumption)
             obtain ⟨ad101, e101, hx101_0, hx101_1⟩ := at_T98 HR0.out x10_1 p101 q101
             cases e101
             replace hx101_0 := pw_cell_below HB.out hx101_0
             replace hx101_1 := pw_cell_below HB.out hx101_1
             replace p101 := eq_true p101
             replace q101 := eq_true q101
             go_wp2_with (first | ((with_reducible refine gate_dst (N := 4) rfl ?_); refine box_event ?hg (N := 4) ?hd (cs := #[.string (⟨#[]⟩ : ByteArray), .string (⟨#[]⟩ : ByteArray)]) (t := 98) ?hr ?_; (case hd => rfl); (case hg => rfl); (case hr => go_simp); intro gb102 hg w20 hbox hb; have n0_ := Aside0.mk (below_step (HB.out) hb); have n1_ := Aside0.mk (hbox); have n2_ := Aside0.mk ((by rw [hg]; exact (below_size (HB.out)) : w.heap.size ≤ gb102)); have n3_ := n2_; clear HB; have HB := n0_; have BK102 := n1_; have GW102 := n2_; have GE102 := n3_; clear n0_ n1_ n2_ n3_; clear hb hbox hg; have hcz21_0 := blk_cell BK102.out 0; have hcz21_1 := blk_cell BK102.out 1; have hfz21_0 := blk_frozen BK102.out 0; have hfz21_1 := blk_frozen BK102.out 1) | ((with_reducible refine gate_callee (f := 111) rfl ?_); refine goesL_ (some 18) rfl rfl Try.func111 (by kernel_rfl) rfl #[.slice (some ad101) l0.length c0, .string ((rd_T98 l0 x10_1).f0)] rfl (by (try simp only [List.map_toArray, List.map_cons, List.map_nil]); first | done | rfl | (simp only [List.length_drop, List.length_take]; rfl)) ?_; (with_reducible refine (impl_attrAt.calls k1 _ _ l0 ((rd_T98 l0 x10_1).f0) t103 _ ?side1 ?side2 A6.out).mono ?_); (case side1 => exact Kd.C_below HR0.out (by repeat (first | exact HB.out | apply below_alloc | apply pw_below_drewN | apply below_drew1 | refine below_set ?_ GE102.out))); (case side2 => exact HC0.out); rintro e w22 ⟨rfl, hb⟩; refine ⟨_, rfl, ?_⟩; have n0_ := Aside0.mk (blk_below (g := gb102) (o := .cells #[.string ((rd_T98 l0 x10_1).f0), .string ((rd_T98 l0 x10_1).f1)] 98 (0, 0)) (by (with_reducible repeat (first | refine blk_drewN ?_ _ | refine blk_drew ?_ | refine blk_alloc ?_ _)); refine blk_put (cs := #[.string ((rd_T98 l0 x10_1).f0), .string (⟨#[]⟩ : ByteArray)]) ?_ 1 _ rfl; (with_reducible repeat (first | refine blk_drewN ?_ _ | refine blk_drew ?_ | refine blk_alloc ?_ _)); refine blk_put (cs := #[.string (⟨#[]⟩ : ByteArray), .string (⟨#[]⟩ : ByteArray)]) ?_ 0 _ rfl; (with_reducible repeat (first | refine blk_drewN ?_ _ | refine blk_drew ?_ | refine blk_alloc ?_ _)); exact BK102.out) hb); have n1_ := Aside0.mk (below_step (by repeat (first | exact HB.out | apply below_alloc | apply pw_below_drewN | apply below_drew1 | refine below_set ?_ GE102.out)) hb); clear BK102; clear HB; have BK102 := n0_; have HB := n1_; clear n0_ n1_; (try clear hb)))
             go_ret
             exact ⟨by first | rfl | (simp [*] <;> rfl), by repeat (first | exact HB.out | apply below_alloc | apply pw_below_drewN | apply below_drew1 | refine below_set ?_ GE102.out)⟩
         · rw [if_neg c5] at H
           exact absurd H (by simp)
       · rw [if_neg c4] at H
         exact absurd H (by simp)
     · rw [if_neg c3] at H
       have c3b0 : decide (x10_1 < (l0.length : Int)) = false := decide_eq_false c3
       clear c3
       obtain rfl := Option.some.inj H
       go_wp2
       go_ret
       exact ⟨by first | rfl | (simp [*] <;> rfl), HB.out⟩
def impl_nodeOk.j0 : Nat → Bool → Int → ByteArray → List (S98) → ByteArray → Int → List Int → Option (Bool)
 | 0, _, _, _, _, _, _, _ => none
 | k + 1, x32, x102000, x102001, x102002, x102003, x102004, x102005 => if x32 = true then (some false) else (if x102000 = 1 then (if x102001.toList = ([] : List UInt8) then (if x102003.toList = ([] : List UInt8) then (some (x102004 == (-1))) else (some false)) else (some false)) else (if x102000 = 2 then ((impl_doctypeOk.f k x102001).bind fun t103 => (if t103 = true then (some (x102003.toList == ([] : List UInt8))) else (some false))) else (if x102000 = 3 then ((impl_NameOk.f k x102001).bind fun t104 => (if t104 = true then ((impl_AttrsOk.f k x102002).bind fun t105 => (if t105 = true then (some (x102003.toList == ([] : List UInt8))) else (some false))) else (some false))) else (if x102000 = 4 then (if x102001.toList = ([] : List UInt8) then (if x102003.toList = ([] : List UInt8) then (some false) else ((impl_textOk.f k x102003).bind fun t106 => (some t106))) else (some false)) else (if x102000 = 5 then (if x102001.toList = ([] : List UInt8) then ((impl_textOk.f k x102003).bind fun t107 => (some t107)) else (some false)) else (some false))))))
def impl_nodeOk.f (k : Nat) (a0_0 : Int) (a0_1 : ByteArray) (l0_2 : List (S98)) (a0_3 : ByteArray) (a0_4 : Int) (l0_5 : List Int) (a1 : Int) : Option (Bool) := if ((a0_0 == 1) != (a1 == 0)) = true then (impl_nodeOk.j0 k true a0_0 a0_1 l0_2 a0_3 a0_4 l0_5) else (if (l0_5.length : Int) > 0 then ((impl_Node_mayHold.f a0_0 a0_1 l0_2 a0_3 a0_4 l0_5).bind fun t102 => (if t102 = true then (if a0_0 = 3 then (impl_nodeOk.j0 k false a0_0 a0_1 l0_2 a0_3 a0_4 l0_5) else (impl_nodeOk.j0 k (decide ((l0_2.length : Int) > 0)) a0_0 a0_1 l0_2 a0_3 a0_4 l0_5)) else (impl_nodeOk.j0 k true a0_0 a0_1 l0_2 a0_3 a0_4 l0_5))) else (if a0_0 = 3 then (impl_nodeOk.j0 k false a0_0 a0_1 l0_2 a0_3 a0_4 l0_5) else (impl_nodeOk.j0 k (decide ((l0_2.length : Int) > 0)) a0_0 a0_1 l0_2 a0_3 a0_4 l0_5)))
theorem impl_nodeOk.mono_l : ∀ k, (∀ y0 y1 y2 y3 y4 y5 y6, LeO (impl_nodeOk.j0 k y0 y1 y2 y3 y4 y5 y6) (impl_nodeOk.j0 (k + 1) y0 y1 y2 y3 y4 y5 y6))
 | 0 => fun _ _ _ _ _ _ _ r h => by simp [impl_nodeOk.j0] at h
 | k + 1 => by
  have ih0 := impl_nodeOk.mono_l k
  · intro y0 y1 y2 y3 y4 y5 y6
    unfold impl_nodeOk.j0
    repeat' first
    | (with_reducible exact ih0 _ _ _ _ _ _ _)
    | (with_reducible exact impl_AttrsOk.mono _ _)
    | (with_reducible exact impl_NameOk.mono _ _)
    | (with_reducible exact impl_doctypeOk.mono _ _)
    | (with_reducible exact impl_textOk.mono _ _)
    | (with_reducible exact LeO.refl _)
    | (with_reducible exact LeO.none _)
    | (with_reducible refine LeO.ite ?_ ?_)
    | (with_reducible refine LeO.bind ?_ (fun _ => ?_))
    | exact ih0 _ _ _ _ _ _ _
    | exact impl_AttrsOk.mono _ _
    | exact impl_NameOk.mono _ _
    | exact impl_doctypeOk.mono _ _
    | exact impl_textOk.mono _ _
    | exact LeO.none _
    | refine LeO.ite ?_ ?_
    | refine LeO.bind ?_ (fun _ => ?_)
theorem impl_nodeOk.mono : ∀ a0 a1 a2 a3 a4 a5 a6 k, LeO (impl_nodeOk.f k a0 a1 a2 a3 a4 a5 a6) (impl_nodeOk.f (k + 1) a0 a1 a2 a3 a4 a5 a6) := by
 intro a0 a1 a2 a3 a4 a5 a6 k
 have ih0 := impl_nodeOk.mono_l k
 unfold impl_nodeOk.f
 repeat' first
  | (with_reducible exact ih0 _ _ _ _ _ _ _)
  | (with_reducible exact impl_AttrsOk.mono _ _)
  | (with_reducible exact impl_NameOk.mono _ _)
  | (with_reducible exact impl_doctypeOk.mono _ _)
  | (with_reducible exact impl_textOk.mono _ _)
  | (with_reducible exact LeO.refl _)
  | (with_reducible exact LeO.none _)
  | (with_reducible refine LeO.ite ?_ ?_)
  | (with_reducible refine LeO.bind ?_ (fun _ => ?_))
  | exact ih0 _ _ _ _ _ _ _
  | exact impl_AttrsOk.mono _ _
  | exact impl_NameOk.mono _ _
  | exact impl_doctypeOk.mono _ _
  | exact impl_textOk.mono _ _
  | exact LeO.none _
  | refine LeO.ite ?_ ?_
  | refine LeO.bind ?_ (fun _ => ?_)
set_option maxHeartbeats 8000000 in
set_option maxRecDepth 100000 in
theorem impl_nodeOk.calls (k : Nat) (a0_0 : Int) (a0_1 : ByteArray) (A0_2 : Option Addr) (c0_2 : Nat) (l0_2 : List (S98)) (a0_3 : ByteArray) (a0_4 : Int) (A0_5 : Option Addr) (c0_5 : Nat) (l0_5 : List Int) (a1 : Int) (r : Bool) (w : World) (hr0_2 : Kd.C k98 w A0_2 l0_2.length l0_2) (hc0_2 : l0_2.length ≤ c0_2) (hr0_5 : Kd.C (Kd.int .i64) w A0_5 l0_5.length l0_5) (hc0_5 : l0_5.length ≤ c0_5) (h : impl_nodeOk.f k a0_0 a0_1 l0_2 a0_3 a0_4 l0_5 a1 = some r) :
 Calls Try.prog 41 #[.agg #[.int .i64 a0_0, .string a0_1, .slice A0_2 l0_2.length c0_2, .string a0_3, .int .i64 a0_4, .slice A0_5 l0_5.length c0_5], .int .i64 a1] w fun e w' => e = .returned (.bool r) ∧ Below w.heap.size w w' := by
 have hu45 := Try.underlying45
 have HR0_2 := Aside0.mk hr0_2
 have HC0_2 := Aside0.mk hc0_2
 clear hr0_2 hc0_2
 have HR0_5 := Aside0.mk hr0_5
 have HC0_5 := Aside0.mk hc0_5
 clear hr0_5 hc0_5
 have HB := Aside0.mk (Below.refl w.heap.size w)
 have H : (if ((a0_0 == 1) != (a1 == 0)) = true then (impl_nodeOk.j0 k true a0_0 a0_1 l0_2 a0_3 a0_4 l0_5) else (if (l0_5.length : Int) > 0 then ((impl_Node_mayHold.f a0_0 a0_1 l0_2 a0_3 a0_4 l0_5).bind fun t102 => (if t102 = true then (if a0_0 = 3 then (impl_nodeOk.j0 k false a0_0 a0_1 l0_2 a0_3 a0_4 l0_5) else (impl_nodeOk.j0 k (decide ((l0_2.length : Int) > 0)) a0_0 a0_1 l0_2 a0_3 a0_4 l0_5)) else (impl_nodeOk.j0 k true a0_0 a0_1 l0_2 a0_3 a0_4 l0_5))) else (if a0_0 = 3 then (impl_nodeOk.j0 k false a0_0 a0_1 l0_2 a0_3 a0_4 l0_5) else (impl_nodeOk.j0 k (decide ((l0_2.length : Int) > 0)) a0_0 a0_1 l0_2 a0_3 a0_4 l0_5)))) = some r := h
 clear h
 have HC3 := Aside0.mk H
 clear H
 go_enter Try.func41, Try.ntmps41
 go_upto_region 1 with (first | ((with_reducible refine gate_dst (N := 2) rfl ?_); (try (refine gate_guard (by rfl) ?_; dsimp only)); refine box_event ?hg (N := 2) ?hd (cs := #[.int .i64 a0_0, .string a0_1, .slice A0_2 l0_2.length c0_2, .string a0_3, .int .i64 a0_4, .slice A0_5 l0_5.length c0_5]) (t := 45) ?hr ?_; (case hd => rfl); (case hg => rfl); (case hr => first | (go_simp; done) | (go_simp; rfl)); intro gb101 hg w4 hbox hb; have n0_ := Aside0.mk (below_step (HB.out) hb); have n1_ := Aside0.mk (hbox); have n2_ := Aside0.mk ((by rw [hg]; exact (below_size (HB.out)) : w.heap.size ≤ gb101)); have n3_ := n2_; clear HB; have HB := n0_; have BK101 := n1_; have GW101 := n2_; have GE101 := n3_; clear n0_ n1_ n2_ n3_; clear hb hbox hg))
 (try simp only [Act.put, List.setIfInBounds_toArray, List.set_cons_zero, List.set_cons_succ])
 go_cut [32] (fun v32 wc => ∃ (kq : Nat) (x32_2 : Bool), v32 = .bool x32_2 ∧ Aside0 (impl_nodeOk.j0 kq x32_2 a0_0 a0_1 l0_2 a0_3 a0_4 l0_5 = some r) ∧ Aside0 (kq ≤ k) ∧ Aside0 (wc.heap[gb101]? = some (.cells #[.int .i64 a0_0, .string a0_1, (.slice A0_2 l0_2.length c0_2), .string a0_3, .int .i64 a0_4, (.slice A0_5 l0_5.length c0_5)] 45 (0, 0))) ∧ Aside0 (Below w.heap.size w wc))
 case first =>
  have H := HC3.out
  clear HC3
  by_cases c5 : ((a0_0 == 1) != (a1 == 0)) = true
  · rw [if_pos c5] at H
    have c5b0 : ((a0_0 == 1) != (a1 == 0)) = true := c5
    (try (have c5b1 : decide ((a0_0 == 1) = (a1 == 0)) = false := by simpa using c5))
    (try (have c5b2 : ((a0_0 == 1) == (a1 == 0)) = false := by simpa using c5))
    (try (have c5b3 : ¬ ((a0_0 == 1) = (a1 == 0)) := by simpa using c5))
    clear c5
    (first | rw [c5b0] | (simp only [i64_w, i32_w]; rw [c5b0]) | skip)
    have H' := Aside0.mk H
    clear H
    have hcz6_0 := blk_cell BK101.out 0
    have hcz6_1 := blk_cell BK101.out 1
    have hcz6_2 := blk_cell BK101.out 2
    have hcz6_3 := blk_cell BK101.out 3
    have hcz6_4 := blk_cell BK101.out 4
    have hcz6_5 := blk_cell BK101.out 5
    have hfz6_0 := blk_frozen BK101.out
    go_wp2
    go_meet
    case rel => exact ⟨_, (true), (by first | rfl | (simp; done) | (simp [*]; done)), H', ⟨by first | omega | exact Nat.le_refl _⟩, ⟨by (with_reducible repeat (first | refine blk_drewN ?_ _ | refine blk_drew ?_ | refine blk_alloc ?_ _)); exact BK101.out⟩, ⟨HB.out⟩⟩
  · rw [if_neg c5] at H
    have c5b0 : ((a0_0 == 1) != (a1 == 0)) = false := by simpa using c5
    (try (have c5b1 : decide ((a0_0 == 1) = (a1 == 0)) = true := by simpa using c5))
    (try (have c5b2 : ((a0_0 == 1) == (a1 == 0)) = true := by simpa using c5))
    clear c5
    (first | rw [c5b0] | (simp only [i64_w, i32_w]; rw [c5b0]) | skip)
    by_cases c7 : (l0_5.length : Int) > 0
    · rw [if_pos c7] at H
      have c7b0 : decide (0 < (l0_5.length : Int)) = true := decide_eq_true c7
      have c7b1 : decide (0 < l0_5.length) = true := decide_eq_true (by omega)
      clear c7
      replace H := Option.bind_eq_some_iff.mp H
      obtain ⟨t102, A80, H⟩ := H
      replace H : (if t102 = true then (if a0_0 = 3 then (impl_nodeOk.j0 k false a0_0 a0_1 l0_2 a0_3 a0_4 l0_5) else (impl_nodeOk.j0 k (decide ((l0_2.length : Int) > 0)) a0_0 a0_1 l0_2 a0_3 a0_4 l0_5)) else (impl_nodeOk.j0 k true a0_0 a0_1 l0_2 a0_3 a0_4 l0_5)) = some r := H
      have A8 := Aside0.mk A80
      clear A80
      by_cases c9 : t102 = true
      · subst c9
        rw [if_pos rfl] at H
        by_cases c10 : a0_0 = 3
        · rw [if_pos c10] at H
          have c10b0 : (a0_0 == 3) = true := beq_iff_eq.mpr c10
          have c10b1 : (a0_0 != 3) = false := bne_eq_false_iff_eq.mpr c10
          clear c10
          have H' := Aside0.mk H
          clear H
          have hcz11_0 := blk_cell BK101.out 0
          have hcz11_1 := blk_cell BK101.out 1
          have hcz11_2 := blk_cell BK101.out 2
          have hcz11_3 := blk_cell BK101.out 3
          have hcz11_4 := blk_cell BK101.out 4
          have hcz11_5 := blk_cell BK101.out 5
          have hfz11_0 := blk_frozen BK101.out
          go_wp2_with (first | (go_at_call 82; (with_reducible refine (impl_Node_mayHold.calls a0_0 a0_1 _ _ l0_2 a0_3 a0_4 _ _ l0_5 true _ ?side1 ?side2 ?side3 ?side4 A8.out).mono ?_); (case side1 => exact (Kd.C_below HR0_2.out HB.out)); (case side2 => exact HC0_2.out); (case side3 => exact (Kd.C_below HR0_5.out HB.out)); (case side4 => exact HC0_5.out); rintro e w12 ⟨rfl, hb⟩; have n0_ := Aside0.mk (blk_below BK101.out hb); have n1_ := Aside0.mk (below_step (HB.out) hb); clear BK101; clear HB; have BK101 := n0_; have HB := n1_; clear n0_ n1_; (try clear hb); have hcz13_0 := blk_cell BK101.out 0; have hcz13_1 := blk_cell BK101.out 1; have hcz13_2 := blk_cell BK101.out 2; have hcz13_3 := blk_cell BK101.out 3; have hcz13_4 := blk_cell BK101.out 4; have hcz13_5 := blk_cell BK101.out 5; have hfz13_0 := blk_frozen BK101.out; have hfz13_1 := blk_frozen BK101.out 1; have hfz13_2 := blk_frozen BK101.out 2; have hfz13_3 := blk_frozen BK101.out 3; have hfz13_4 := blk_frozen BK101.out 4; have hfz13_5 := blk_frozen BK101.out 5))
          go_meet
          case rel => exact ⟨_, (false), (by first | rfl | (simp; done) | (simp [*]; done)), H', ⟨by first | omega | exact Nat.le_refl _⟩, ⟨by (with_reducible repeat (first | refine blk_drewN ?_ _ | refine blk_drew ?_ | refine blk_alloc ?_ _)); exact BK101.out⟩, ⟨HB.out⟩⟩
        · rw [if_neg c10] at H
          have c10b0 : (a0_0 == 3) = false := beq_eq_false_iff_ne.mpr c10
          have c10b1 : (a0_0 != 3) = true := bne_iff_ne.mpr c10
          have H' := Aside0.mk H
          clear H
          have hcz14_0 := blk_cell BK101.out 0
          have hcz14_1 := blk_cell BK101.out 1
          have hcz14_2 := blk_cell BK101.out 2
          have hcz14_3 := blk_cell BK101.out 3
          have hcz14_4 := blk_cell BK101.out 4
          have hcz14_5 := blk_cell BK101.out 5
          have hfz14_0 := blk_frozen BK101.out
          go_wp2_with (first | (go_at_call 82; (with_reducible refine (impl_Node_mayHold.calls a0_0 a0_1 _ _ l0_2 a0_3 a0_4 _ _ l0_5 true _ ?side1 ?side2 ?side3 ?side4 A8.out).mono ?_); (case side1 => exact (Kd.C_below HR0_2.out HB.out)); (case side2 => exact HC0_2.out); (case side3 => exact (Kd.C_below HR0_5.out HB.out)); (case side4 => exact HC0_5.out); rintro e w15 ⟨rfl, hb⟩; have n0_ := Aside0.mk (blk_below BK101.out hb); have n1_ := Aside0.mk (below_step (HB.out) hb); clear BK101; clear HB; have BK101 := n0_; have HB := n1_; clear n0_ n1_; (try clear hb); have hcz16_0 := blk_cell BK101.out 0; have hcz16_1 := blk_cell BK101.out 1; have hcz16_2 := blk_cell BK101.out 2; have hcz16_3 := blk_cell BK101.out 3; have hcz16_4 := blk_cell BK101.out 4; have hcz16_5 := blk_cell BK101.out 5; have hfz16_0 := blk_frozen BK101.out; have hfz16_1 := blk_frozen BK101.out 1; have hfz16_2 := blk_frozen BK101.out 2; have hfz16_3 := blk_frozen BK101.out 3; have hfz16_4 := blk_frozen BK101.out 4; have hfz16_5 := blk_frozen BK101.out 5))
          go_meet
          case rel => exact ⟨_, (decide ((l0_2.length : Int) > 0)), (by first | rfl | (simp; done) | (simp [*]; done)), H', ⟨by first | omega | exact Nat.le_refl _⟩, ⟨by (with_reducible repeat (first | refine blk_drewN ?_ _ | refine blk_drew ?_ | refine blk_alloc ?_ _)); exact BK101.out⟩, ⟨HB.out⟩⟩
      · replace c9 := Bool.eq_false_iff.mpr c9
        subst c9
        rw [if_neg (show ¬ (false = true) by decide)] at H
        have H' := Aside0.mk H
        clear H
        have hcz17_0 := blk_cell BK101.out 0
        have hcz17_1 := blk_cell BK101.out 1
        have hcz17_2 := blk_cell BK101.out 2
        have hcz17_3 := blk_cell BK101.out 3
        have hcz17_4 := blk_cell BK101.out 4
        have hcz17_5 := blk_cell BK101.out 5
        have hfz17_0 := blk_frozen BK101.out
        go_wp2_with (first | (go_at_call 82; (with_reducible refine (impl_Node_mayHold.calls a0_0 a0_1 _ _ l0_2 a0_3 a0_4 _ _ l0_5 false _ ?side1 ?side2 ?side3 ?side4 A8.out).mono ?_); (case side1 => exact (Kd.C_below HR0_2.out HB.out)); (case side2 => exact HC0_2.out); (case side3 => exact (Kd.C_below HR0_5.out HB.out)); (case side4 => exact HC0_5.out); rintro e w18 ⟨rfl, hb⟩; have n0_ := Aside0.mk (blk_below BK101.out hb); have n1_ := Aside0.mk (below_step (HB.out) hb); clear BK101; clear HB; have BK101 := n0_; have HB := n1_; clear n0_ n1_; (try clear hb)))
        go_meet
        case rel => exact ⟨_, (true), (by first | rfl | (simp; done) | (simp [*]; done)), H', ⟨by first | omega | exact Nat.le_refl _⟩, ⟨by (with_reducible repeat (first | refine blk_drewN ?_ _ | refine blk_drew ?_ | refine blk_alloc ?_ _)); exact BK101.out⟩, ⟨HB.out⟩⟩
    · rw [if_neg c7] at H
      have c7b0 : decide (0 < (l0_5.length : Int)) = false := decide_eq_false c7
      have c7b1 : decide (0 < l0_5.length) = false := decide_eq_false (by omega)
      clear c7
      by_cases c19 : a0_0 = 3
      · rw [if_pos c19] at H
        have c19b0 : (a0_0 == 3) = true := beq_iff_eq.mpr c19
        have c19b1 : (a0_0 != 3) = false := bne_eq_false_iff_eq.mpr c19
        clear c19
        have H' := Aside0.mk H
        clear H
        have hcz20_0 := blk_cell BK101.out 0
        have hcz20_1 := blk_cell BK101.out 1
        have hcz20_2 := blk_cell BK101.out 2
        have hcz20_3 := blk_cell BK101.out 3
        have hcz20_4 := blk_cell BK101.out 4
        have hcz20_5 := blk_cell BK101.out 5
        have hfz20_0 := blk_frozen BK101.out
        go_wp2
        go_meet
        case rel => exact ⟨_, (false), (by first | rfl | (simp; done) | (simp [*]; done)), H', ⟨by first | omega | exact Nat.le_refl _⟩, ⟨by (with_reducible repeat (first | refine blk_drewN ?_ _ | refine blk_drew ?_ | refine blk_alloc ?_ _)); exact BK101.out⟩, ⟨HB.out⟩⟩
      · rw [if_neg c19] at H
        have c19b0 : (a0_0 == 3) = false := beq_eq_false_iff_ne.mpr c19
        have c19b1 : (a0_0 != 3) = true := bne_iff_ne.mpr c19
        have H' := Aside0.mk H
        clear H
        have hcz21_0 := blk_cell BK101.out 0
        have hcz21_1 := blk_cell BK101.out 1
        have hcz21_2 := blk_cell BK101.out 2
        have hcz21_3 := blk_cell BK101.out 3
        have hcz21_4 := blk_cell BK101.out 4
        have hcz21_5 := blk_cell BK101.out 5
        have hfz21_0 := blk_frozen BK101.out
        go_wp2
        go_meet
        case rel => exact ⟨_, (decide ((l0_2.length : Int) > 0)), (by first | rfl | (simp; done) | (simp [*]; done)), H', ⟨by first | omega | exact Nat.le_refl _⟩, ⟨by (with_reducible repeat (first | refine blk_drewN ?_ _ | refine blk_drew ?_ | refine blk_alloc ?_ _)); exact BK101.out⟩, ⟨HB.out⟩⟩
 case rest =>
  clear HC3
  try clear c1
  try clear p2
  try clear c4
  try clear c5
  try clear c5b0
  try clear c5b1
  try clear c5b2
  try clear c7
  try clear c7b0
  try clear c7b1
  try clear c9
  try clear c10
  try clear c10b0
  try clear c10b1
  try clear c19
  try clear c19b0
  try clear c19b1
  try clear hcz11_0
  try clear hcz11_1
  try clear hcz11_2
  try clear hcz11_3
  try clear hcz11_4
  try clear hcz11_5
  try clear hcz13_0
  try clear hcz13_1
  try clear hcz13_2
  try clear hcz13_3
  try clear hcz13_4
  try clear hcz13_5
  try clear hcz14_0
  try clear hcz14_1
  try clear hcz14_2
  try clear hcz14_3
  try clear hcz14_4
  try clear hcz14_5
  try clear hcz16_0
  try clear hcz16_1
  try clear hcz16_2
  try clear hcz16_3
  try clear hcz16_4
  try clear hcz16_5
  try clear hcz17_0
  try clear hcz17_1
  try clear hcz17_2
  try clear hcz17_3
  try clear hcz17_4
  try clear hcz17_5
  try clear hcz20_0
  try clear hcz20_1
  try clear hcz20_2
  try clear hcz20_3
  try clear hcz20_4
  try clear hcz20_5
  try clear hcz21_0
  try clear hcz21_1
  try clear hcz21_2
  try clear hcz21_3
  try clear hcz21_4
  try clear hcz21_5
  try clear hcz6_0
  try clear hcz6_1
  try clear hcz6_2
  try clear hcz6_3
  try clear hcz6_4
  try clear hcz6_5
  try clear hfz11_0
  try clear hfz11_1
  try clear hfz11_2
  try clear hfz11_3
  try clear hfz11_4
  try clear hfz11_5
  try clear hfz13_0
  try clear hfz13_1
  try clear hfz13_2
  try clear hfz13_3
  try clear hfz13_4
  try clear hfz13_5
  try clear hfz14_0
  try clear hfz14_1
  try clear hfz14_2
  try clear hfz14_3
  try clear hfz14_4
  try clear hfz14_5
  try clear hfz16_0
  try clear hfz16_1
  try clear hfz16_2
  try clear hfz16_3
  try clear hfz16_4
  try clear hfz16_5
  try clear hfz17_0
  try clear hfz17_1
  try clear hfz17_2
  try clear hfz17_3
  try clear hfz17_4
  try clear hfz17_5
  try clear hfz20_0
  try clear hfz20_1
  try clear hfz20_2
  try clear hfz20_3
  try clear hfz20_4
  try clear hfz20_5
  try clear hfz21_0
  try clear hfz21_1
  try clear hfz21_2
  try clear hfz21_3
  try clear hfz21_4
  try clear hfz21_5
  try clear hfz6_0
  try clear hfz6_1
  try clear hfz6_2
  try clear hfz6_3
  try clear hfz6_4
  try clear hfz6_5
  obtain ⟨kq, x32_2, rfl, HA, HJ2, BK101, HB⟩ := hcut
  cases kq with
  | zero => exact absurd HA.out (by simp [impl_nodeOk.j0])
  | succ kj2 =>
   have H := HA.out
   clear HA
   simp only [impl_nodeOk.j0] at H
   by_cases c22 : x32_2 = true
   · subst c22
     rw [if_pos rfl] at H
     obtain rfl := Option.some.inj H
     go_wp2
     go_ret
     exact ⟨by first | rfl | (simp [*] <;> rfl), HB.out⟩
   · replace c22 := Bool.eq_false_iff.mpr c22
     subst c22
     rw [if_neg (show ¬ (false = true) by decide)] at H
     by_cases c23 : a0_0 = 1
     · rw [if_pos c23] at H
       have c23b0 : (a0_0 == 1) = true := beq_iff_eq.mpr c23
       have c23b1 : (a0_0 != 1) = false := bne_eq_false_iff_eq.mpr c23
       clear c23
       by_cases c24 : a0_1.toList = ([] : List UInt8)
       · rw [if_pos c24] at H
         have c24b0 : (a0_1.toList == ([] : List UInt8)) = true := beq_iff_eq.mpr c24
         have c24b1 : (a0_1.toList != ([] : List UInt8)) = false := bne_eq_false_iff_eq.mpr c24
         clear c24
         by_cases c25 : a0_3.toList = ([] : List UInt8)
         · rw [if_pos c25] at H
           have c25b0 : (a0_3.toList == ([] : List UInt8)) = true := beq_iff_eq.mpr c25
           have c25b1 : (a0_3.toList != ([] : List UInt8)) = false := bne_eq_false_iff_eq.mpr c25
           clear c25
           obtain rfl := Option.some.inj H
           have hcz26_0 := blk_cell BK101.out 0
           have hcz26_1 := blk_cell BK101.out 1
           have hcz26_2 := blk_cell BK101.out 2
           have hcz26_3 := blk_cell BK101.out 3
           have hcz26_4 := blk_cell BK101.out 4
           have hcz26_5 := blk_cell BK101.out 5
           have hfz26_0 := blk_frozen BK101.out
           go_wp2
           go_ret
           exact ⟨by first | rfl | (simp [*] <;> rfl), HB.out⟩
         · rw [if_neg c25] at H
           have c25b0 : (a0_3.toList == ([] : List UInt8)) = false := beq_eq_false_iff_ne.mpr c25
           have c25b1 : (a0_3.toList != ([] : List UInt8)) = true := bne_iff_ne.mpr c25
           obtain rfl := Option.some.inj H
           have hcz27_0 := blk_cell BK101.out 0
           have hcz27_1 := blk_cell BK101.out 1
           have hcz27_2 := blk_cell BK101.out 2
           have hcz27_3 := blk_cell BK101.out 3
           have hcz27_4 := blk_cell BK101.out 4
           have hcz27_5 := blk_cell BK101.out 5
           have hfz27_0 := blk_frozen BK101.out
           go_wp2
           go_ret
           exact ⟨by first | rfl | (simp [*] <;> rfl), HB.out⟩
       · rw [if_neg c24] at H
         have c24b0 : (a0_1.toList == ([] : List UInt8)) = false := beq_eq_false_iff_ne.mpr c24
         have c24b1 : (a0_1.toList != ([] : List UInt8)) = true := bne_iff_ne.mpr c24
         obtain rfl := Option.some.inj H
         have hcz28_0 := blk_cell BK101.out 0
         have hcz28_1 := blk_cell BK101.out 1
         have hcz28_2 := blk_cell BK101.out 2
         have hcz28_3 := blk_cell BK101.out 3
         have hcz28_4 := blk_cell BK101.out 4
         have hcz28_5 := blk_cell BK101.out 5
         have hfz28_0 := blk_frozen BK101.out
         go_wp2
         go_ret
         exact ⟨by first | rfl | (simp [*] <;> rfl), HB.out⟩
     · rw [if_neg c23] at H
       have c23b0 : (a0_0 == 1) = false := beq_eq_false_iff_ne.mpr c23
       have c23b1 : (a0_0 != 1) = true := bne_iff_ne.mpr c23
       by_cases c29 : a0_0 = 2
       · rw [if_pos c29] at H
         have c29b0 : (a0_0 == 2) = true := beq_iff_eq.mpr c29
         have c29b1 : (a0_0 != 2) = false := bne_eq_false_iff_eq.mpr c29
         clear c29
         replace H := Option.bind_eq_some_iff.mp H
         obtain ⟨t103, A300, H⟩ := H
         replace H : (if t103 = true then (some (a0_3.toList == ([] : List UInt8))) else (some false)) = some r := H
         have A30 := Aside0.mk A300
         clear A300
         by_cases c31 : t103 = true
         · subst c31
           rw [if_pos rfl] at H
           obtain rfl := Option.some.inj H
           have hcz32_0 := blk_cell BK101.out 0
           have hcz32_1 := blk_cell BK101.out 1
           have hcz32_2 := blk_cell BK101.out 2
           have hcz32_3 := blk_cell BK101.out 3
           have hcz32_4 := blk_cell BK101.out 4
           have hcz32_5 := blk_cell BK101.out 5
           have hfz32_0 := blk_frozen BK101.out
           go_wp2_with (first | ((with_reducible refine gate_callee (f := 83) rfl ?_); refine goesL_ (some 54) rfl rfl Try.func83 (by kernel_rfl) rfl #[.string a0_1] rfl (by (try simp only [List.map_toArray, List.map_cons, List.map_nil]); first | done | rfl | (simp only [List.length_drop, List.length_take]; rfl)) ?_; (with_reducible refine (impl_doctypeOk.calls kj2 a0_1 true _ A30.out).mono ?_); rintro e w33 ⟨rfl, hb⟩; refine ⟨_, rfl, ?_⟩; have n0_ := Aside0.mk (blk_below BK101.out hb); have n1_ := Aside0.mk (below_step (HB.out) hb); clear BK101; clear HB; have BK101 := n0_; have HB := n1_; clear n0_ n1_; (try clear hb); have hcz34_0 := blk_cell BK101.out 0; have hcz34_1 := blk_cell BK101.out 1; have hcz34_2 := blk_cell BK101.out 2; have hcz34_3 := blk_cell BK101.out 3; have hcz34_4 := blk_cell BK101.out 4; have hcz34_5 := blk_cell BK101.out 5; have hfz34_0 := blk_frozen BK101.out; have hfz34_1 := blk_frozen BK101.out 1; have hfz34_2 := blk_frozen BK101.out 2; have hfz34_3 := blk_frozen BK101.out 3; have hfz34_4 := blk_frozen BK101.out 4; have hfz34_5 := blk_frozen BK101.out 5))
           go_ret
           exact ⟨by first | rfl | (simp [*] <;> rfl), HB.out⟩
         · replace c31 := Bool.eq_false_iff.mpr c31
           subst c31
           rw [if_neg (show ¬ (false = true) by decide)] at H
           obtain rfl := Option.some.inj H
           have hcz35_0 := blk_cell BK101.out 0
           have hcz35_1 := blk_cell BK101.out 1
           have hcz35_2 := blk_cell BK101.out 2
           have hcz35_3 := blk_cell BK101.out 3
           have hcz35_4 := blk_cell BK101.out 4
           have hcz35_5 := blk_cell BK101.out 5
           have hfz35_0 := blk_frozen BK101.out
           go_wp2_with (first | ((with_reducible refine gate_callee (f := 83) rfl ?_); refine goesL_ (some 54) rfl rfl Try.func83 (by kernel_rfl) rfl #[.string a0_1] rfl (by (try simp only [List.map_toArray, List.map_cons, List.map_nil]); first | done | rfl | (simp only [List.length_drop, List.length_take]; rfl)) ?_; (with_reducible refine (impl_doctypeOk.calls kj2 a0_1 false _ A30.out).mono ?_); rintro e w36 ⟨rfl, hb⟩; refine ⟨_, rfl, ?_⟩; have n0_ := Aside0.mk (blk_below BK101.out hb); have n1_ := Aside0.mk (below_step (HB.out) hb); clear BK101; clear HB; have BK101 := n0_; have HB := n1_; clear n0_ n1_; (try clear hb)))
           go_ret
           exact ⟨by first | rfl | (simp [*] <;> rfl), HB.out⟩
       · rw [if_neg c29] at H
         have c29b0 : (a0_0 == 2) = false := beq_eq_false_iff_ne.mpr c29
         have c29b1 : (a0_0 != 2) = true := bne_iff_ne.mpr c29
         by_cases c37 : a0_0 = 3
         · rw [if_pos c37] at H
           have c37b0 : (a0_0 == 3) = true := beq_iff_eq.mpr c37
           have c37b1 : (a0_0 != 3) = false := bne_eq_false_iff_eq.mpr c37
           clear c37
           replace H := Option.bind_eq_some_iff.mp H
           obtain ⟨t104, A380, H⟩ := H
           replace H : (if t104 = true then ((impl_AttrsOk.f kj2 l0_2).bind fun t105 => (if t105 = true then (some (a0_3.toList == ([] : List UInt8))) else (some false))) else (some false)) = some r := H
           have A38 := Aside0.mk A380
           clear A380
           by_cases c39 : t104 = true
           · subst c39
             rw [if_pos rfl] at H
             replace H := Option.bind_eq_some_iff.mp H
             obtain ⟨t105, A400, H⟩ := H
             replace H : (if t105 = true then (some (a0_3.toList == ([] : List UInt8))) else (some false)) = some r := H
             have A40 := Aside0.mk A400
             clear A400
             by_cases c41 : t105 = true
             · subst c41
               rw [if_pos rfl] at H
               obtain rfl := Option.some.inj H
               have hcz42_0 := blk_cell BK101.out 0
               have hcz42_1 := blk_cell BK101.out 1
               have hcz42_2 := blk_cell BK101.out 2
               have hcz42_3 := blk_cell BK101.out 3
               have hcz42_4 := blk_cell BK101.out 4
               have hcz42_5 := blk_cell BK101.out 5
               have hfz42_0 := blk_frozen BK101.out
               go_wp2_with (first | ((with_reducible refine gate_callee (f := 84) rfl ?_); refine goesL_ (some 64) rfl rfl Try.func84 (by kernel_rfl) rfl #[.string a0_1] rfl (by (try simp only [List.map_toArray, List.map_cons, List.map_nil]); first | done | rfl | (simp only [List.length_drop, List.length_take]; rfl)) ?_; (with_reducible refine (impl_NameOk.calls kj2 a0_1 true _ A38.out).mono ?_); rintro e w43 ⟨rfl, hb⟩; refine ⟨_, rfl, ?_⟩; have n0_ := Aside0.mk (blk_below BK101.out hb); have n1_ := Aside0.mk (below_step (HB.out) hb); clear BK101; clear HB; have BK101 := n0_; have HB := n1_; clear n0_ n1_; (try clear hb); have hcz44_0 := blk_cell BK101.out 0; have hcz44_1 := blk_cell BK101.out 1; have hcz44_2 := blk_cell BK101.out 2; have hcz44_3 := blk_cell BK101.out 3; have hcz44_4 := blk_cell BK101.out 4; have hcz44_5 := blk_cell BK101.out 5; have hfz44_0 := blk_frozen BK101.out; have hfz44_1 := blk_frozen BK101.out 1; have hfz44_2 := blk_frozen BK101.out 2; have hfz44_3 := blk_frozen BK101.out 3; have hfz44_4 := blk_frozen BK101.out 4; have hfz44_5 := blk_frozen BK101.out 5) | (go_at_call 85; (with_reducible refine (impl_AttrsOk.calls kj2 _ _ l0_2 true _ ?side1 ?side2 A40.out).mono ?_); (case side1 => exact (Kd.C_below HR0_2.out HB.out)); (case side2 => exact HC0_2.out); rintro e w45 ⟨rfl, hb⟩; have n0_ := Aside0.mk (blk_below BK101.out hb); have n1_ := Aside0.mk (below_step (HB.out) hb); clear BK101; clear HB; have BK101 := n0_; have HB := n1_; clear n0_ n1_; (try clear hb); have hcz46_0 := blk_cell BK101.out 0; have hcz46_1 := blk_cell BK101.out 1; have hcz46_2 := blk_cell BK101.out 2; have hcz46_3 := blk_cell BK101.out 3; have hcz46_4 := blk_cell BK101.out 4; have hcz46_5 := blk_cell BK101.out 5; have hfz46_0 := blk_frozen BK101.out; have hfz46_1 := blk_frozen BK101.out 1; have hfz46_2 := blk_frozen BK101.out 2; have hfz46_3 := blk_frozen BK101.out 3; have hfz46_4 := blk_frozen BK101.out 4; have hfz46_5 := blk_frozen BK101.out 5))
               go_ret
               exact ⟨by first | rfl | (simp [*] <;> rfl), HB.out⟩
             · replace c41 := Bool.eq_false_iff.mpr c41
               subst c41
               rw [if_neg (show ¬ (false = true) by decide)] at H
               obtain rfl := Option.some.inj H
               have hcz47_0 := blk_cell BK101.out 0
               have hcz47_1 := blk_cell BK101.out 1
               have hcz47_2 := blk_cell BK101.out 2
               have hcz47_3 := blk_cell BK101.out 3
               have hcz47_4 := blk_cell BK101.out 4
               have hcz47_5 := blk_cell BK101.out 5
               have hfz47_0 := blk_frozen BK101.out
               go_wp2_with (first | ((with_reducible refine gate_callee (f := 84) rfl ?_); refine goesL_ (some 64) rfl rfl Try.func84 (by kernel_rfl) rfl #[.string a0_1] rfl (by (try simp only [List.map_toArray, List.map_cons, List.map_nil]); first | done | rfl | (simp only [List.length_drop, List.length_take]; rfl)) ?_; (with_reducible refine (impl_NameOk.calls kj2 a0_1 true _ A38.out).mono ?_); rintro e w48 ⟨rfl, hb⟩; refine ⟨_, rfl, ?_⟩; have n0_ := Aside0.mk (blk_below BK101.out hb); have n1_ := Aside0.mk (below_step (HB.out) hb); clear BK101; clear HB; have BK101 := n0_; have HB := n1_; clear n0_ n1_; (try clear hb); have hcz49_0 := blk_cell BK101.out 0; have hcz49_1 := blk_cell BK101.out 1; have hcz49_2 := blk_cell BK101.out 2; have hcz49_3 := blk_cell BK101.out 3; have hcz49_4 := blk_cell BK101.out 4; have hcz49_5 := blk_cell BK101.out 5; have hfz49_0 := blk_frozen BK101.out; have hfz49_1 := blk_frozen BK101.out 1; have hfz49_2 := blk_frozen BK101.out 2; have hfz49_3 := blk_frozen BK101.out 3; have hfz49_4 := blk_frozen BK101.out 4; have hfz49_5 := blk_frozen BK101.out 5) | (go_at_call 85; (with_reducible refine (impl_AttrsOk.calls kj2 _ _ l0_2 false _ ?side1 ?side2 A40.out).mono ?_); (case side1 => exact (Kd.C_below HR0_2.out HB.out)); (case side2 => exact HC0_2.out); rintro e w50 ⟨rfl, hb⟩; have n0_ := Aside0.mk (blk_below BK101.out hb); have n1_ := Aside0.mk (below_step (HB.out) hb); clear BK101; clear HB; have BK101 := n0_; have HB := n1_; clear n0_ n1_; (try clear hb)))
               go_ret
               exact ⟨by first | rfl | (simp [*] <;> rfl), HB.out⟩
           · replace c39 := Bool.eq_false_iff.mpr c39
             subst c39
             rw [if_neg (show ¬ (false = true) by decide)] at H
             obtain rfl := Option.some.inj H
             have hcz51_0 := blk_cell BK101.out 0
             have hcz51_1 := blk_cell BK101.out 1
             have hcz51_2 := blk_cell BK101.out 2
             have hcz51_3 := blk_cell BK101.out 3
             have hcz51_4 := blk_cell BK101.out 4
             have hcz51_5 := blk_cell BK101.out 5
             have hfz51_0 := blk_frozen BK101.out
             go_wp2_with (first | ((with_reducible refine gate_callee (f := 84) rfl ?_); refine goesL_ (some 64) rfl rfl Try.func84 (by kernel_rfl) rfl #[.string a0_1] rfl (by (try simp only [List.map_toArray, List.map_cons, List.map_nil]); first | done | rfl | (simp only [List.length_drop, List.length_take]; rfl)) ?_; (with_reducible refine (impl_NameOk.calls kj2 a0_1 false _ A38.out).mono ?_); rintro e w52 ⟨rfl, hb⟩; refine ⟨_, rfl, ?_⟩; have n0_ := Aside0.mk (blk_below BK101.out hb); have n1_ := Aside0.mk (below_step (HB.out) hb); clear BK101; clear HB; have BK101 := n0_; have HB := n1_; clear n0_ n1_; (try clear hb)))
             go_ret
             exact ⟨by first | rfl | (simp [*] <;> rfl), HB.out⟩
         · rw [if_neg c37] at H
           have c37b0 : (a0_0 == 3) = false := beq_eq_false_iff_ne.mpr c37
           have c37b1 : (a0_0 != 3) = true := bne_iff_ne.mpr c37
           by_cases c53 : a0_0 = 4
           · rw [if_pos c53] at H
             have c53b0 : (a0_0 == 4) = true := beq_iff_eq.mpr c53
             have c53b1 : (a0_0 != 4) = false := bne_eq_false_iff_eq.mpr c53
             clear c53
             by_cases c54 : a0_1.toList = ([] : List UInt8)
             · rw [if_pos c54] at H
               have c54b0 : (a0_1.toList == ([] : List UInt8)) = true := beq_iff_eq.mpr c54
               have c54b1 : (a0_1.toList != ([] : List UInt8)) = false := bne_eq_false_iff_eq.mpr c54
               clear c54
               by_cases c55 : a0_3.toList = ([] : List UInt8)
               · rw [if_pos c55] at H
                 have c55b0 : (a0_3.toList == ([] : List UInt8)) = true := beq_iff_eq.mpr c55
                 have c55b1 : (a0_3.toList != ([] : List UInt8)) = false := bne_eq_false_iff_eq.mpr c55
                 clear c55
                 obtain rfl := Option.some.inj H
                 have hcz56_0 := blk_cell BK101.out 0
                 have hcz56_1 := blk_cell BK101.out 1
                 have hcz56_2 := blk_cell BK101.out 2
                 have hcz56_3 := blk_cell BK101.out 3
                 have hcz56_4 := blk_cell BK101.out 4
                 have hcz56_5 := blk_cell BK101.out 5
                 have hfz56_0 := blk_frozen BK101.out
                 go_wp2
                 go_ret
                 exact ⟨by first | rfl | (simp [*] <;> rfl), HB.out⟩
               · rw [if_neg c55] at H
                 have c55b0 : (a0_3.toList == ([] : List UInt8)) = false := beq_eq_false_iff_ne.mpr c55
                 have c55b1 : (a0_3.toList != ([] : List UInt8)) = true := bne_iff_ne.mpr c55
                 replace H := Option.bind_eq_some_iff.mp H
                 obtain ⟨t106, A570, H⟩ := H
                 replace H : (some t106) = some r := H
                 have A57 := Aside0.mk A570
                 clear A570
                 obtain rfl := Option.some.inj H
                 have hcz58_0 := blk_cell BK101.out 0
                 have hcz58_1 := blk_cell BK101.out 1
                 have hcz58_2 := blk_cell BK101.out 2
                 have hcz58_3 := blk_cell BK101.out 3
                 have hcz58_4 := blk_cell BK101.out 4
                 have hcz58_5 := blk_cell BK101.out 5
                 have hfz58_0 := blk_frozen BK101.out
                 go_wp2_with (first | (go_at_call 86; (with_reducible refine (impl_textOk.calls kj2 a0_3 t106 _ A57.out).mono ?_); rintro e w59 ⟨rfl, hb⟩; have n0_ := Aside0.mk (blk_below BK101.out hb); have n1_ := Aside0.mk (below_step (HB.out) hb); clear BK101; clear HB; have BK101 := n0_; have HB := n1_; clear n0_ n1_; (try clear hb)))
                 go_ret
                 exact ⟨by first | rfl | (simp [*] <;> rfl), HB.out⟩
             · rw [if_neg c54] at H
               have c54b0 : (a0_1.toList == ([] : List UInt8)) = false := beq_eq_false_iff_ne.mpr c54
               have c54b1 : (a0_1.toList != ([] : List UInt8)) = true := bne_iff_ne.mpr c54
               obtain rfl := Option.some.inj H
               have hcz60_0 := blk_cell BK101.out 0
               have hcz60_1 := blk_cell BK101.out 1
               have hcz60_2 := blk_cell BK101.out 2
               have hcz60_3 := blk_cell BK101.out 3
               have hcz60_4 := blk_cell BK101.out 4
               have hcz60_5 := blk_cell BK101.out 5
               have hfz60_0 := blk_frozen BK101.out
               go_wp2
               go_ret
               exact ⟨by first | rfl | (simp [*] <;> rfl), HB.out⟩
           · rw [if_neg c53] at H
             have c53b0 : (a0_0 == 4) = false := beq_eq_false_iff_ne.mpr c53
             have c53b1 : (a0_0 != 4) = true := bne_iff_ne.mpr c53
             by_cases c61 : a0_0 = 5
             · rw [if_pos c61] at H
               have c61b0 : (a0_0 == 5) = true := beq_iff_eq.mpr c61
               have c61b1 : (a0_0 != 5) = false := bne_eq_false_iff_eq.mpr c61
               clear c61
               by_cases c62 : a0_1.toList = ([] : List UInt8)
               · rw [if_pos c62] at H
                 have c62b0 : (a0_1.toList == ([] : List UInt8)) = true := beq_iff_eq.mpr c62
                 have c62b1 : (a0_1.toList != ([] : List UInt8)) = false := bne_eq_false_iff_eq.mpr c62
                 clear c62
                 replace H := Option.bind_eq_some_iff.mp H
                 obtain ⟨t107, A630, H⟩ := H
                 replace H : (some t107) = some r := H
                 have A63 := Aside0.mk A630
                 clear A630
                 obtain rfl := Option.some.inj H
                 have hcz64_0 := blk_cell BK101.out 0
                 have hcz64_1 := blk_cell BK101.out 1
                 have hcz64_2 := blk_cell BK101.out 2
                 have hcz64_3 := blk_cell BK101.out 3
                 have hcz64_4 := blk_cell BK101.out 4
                 have hcz64_5 := blk_cell BK101.out 5
                 have hfz64_0 := blk_frozen BK101.out
                 go_wp2_with (first | (go_at_call 86; (with_reducible refine (impl_textOk.calls kj2 a0_3 t107 _ A63.out).mono ?_); rintro e w65 ⟨rfl, hb⟩; have n0_ := Aside0.mk (blk_below BK101.out hb); have n1_ := Aside0.mk (below_step (HB.out) hb); clear BK101; clear HB; have BK101 := n0_; have HB := n1_; clear n0_ n1_; (try clear hb)))
                 go_ret
                 exact ⟨by first | rfl | (simp [*] <;> rfl), HB.out⟩
               · rw [if_neg c62] at H
                 have c62b0 : (a0_1.toList == ([] : List UInt8)) = false := beq_eq_false_iff_ne.mpr c62
                 have c62b1 : (a0_1.toList != ([] : List UInt8)) = true := bne_iff_ne.mpr c62
                 obtain rfl := Option.some.inj H
                 have hcz66_0 := blk_cell BK101.out 0
                 have hcz66_1 := blk_cell BK101.out 1
                 have hcz66_2 := blk_cell BK101.out 2
                 have hcz66_3 := blk_cell BK101.out 3
                 have hcz66_4 := blk_cell BK101.out 4
                 have hcz66_5 := blk_cell BK101.out 5
                 have hfz66_0 := blk_frozen BK101.out
                 go_wp2
                 go_ret
                 exact ⟨by first | rfl | (simp [*] <;> rfl), HB.out⟩
             · rw [if_neg c61] at H
               have c61b0 : (a0_0 == 5) = false := beq_eq_false_iff_ne.mpr c61
               have c61b1 : (a0_0 != 5) = true := bne_iff_ne.mpr c61
               obtain rfl := Option.some.inj H
               have hcz67_0 := blk_cell BK101.out 0
               have hcz67_1 := blk_cell BK101.out 1
               have hcz67_2 := blk_cell BK101.out 2
               have hcz67_3 := blk_cell BK101.out 3
               have hcz67_4 := blk_cell BK101.out 4
               have hcz67_5 := blk_cell BK101.out 5
               have hfz67_0 := blk_frozen BK101.out
               go_wp2
               go_ret
               exact ⟨by first | rfl | (simp [*] <;> rfl), HB.out⟩
/-- A state of type 29 at block g of W; what its slices lead to came in by w0. -/
def IsS29 (w0 W : World) (g : Nat) (f0 : List (S45)) : Prop := ∃ A0 c0, W.heap[g]? = some (.cells #[.slice A0 f0.length c0] 29 (0, 0)) ∧ w0.heap.size ≤ g ∧ Kd.C k45 w0 A0 f0.length f0
theorem IsS29.grown {w0 W : World} {g : Nat} {f0 : List (S45)} {W1 : World} {row : Option Nat} (h : IsS29 w0 W g f0) (hw : W.grownBy W1 row) (hne : some g ≠ row) : IsS29 w0 W1 g f0 := by
 obtain ⟨A0, c0, hb, hg, hr0⟩ := h
 exact ⟨A0, c0, blk_grown hb hw hne, hg, hr0⟩
theorem IsS29.own_neN {w0 W : World} {g : Nat} {f0 : List (S45)} {α : Type} {d : Kd α} {e : Nat} {base : Nat} {ok : Nat → Prop} {v : Value} {xs : List α} (h : IsS29 w0 W g f0) (ho : Kd.N d e W base ok v xs) (ht : e ≠ 29) : some g ≠ v.ownBlock := by
 obtain ⟨A0, c0, hb, hg, hr0⟩ := h
 exact Kd.N_ne ho hb ht
theorem IsS29.fresh {w0 W : World} {g : Nat} {f0 : List (S45)} (h : IsS29 w0 W g f0) : ∀ k, W.heap.size ≤ k → k ≠ g := by
 obtain ⟨A0, c0, hb, hg, hr0⟩ := h
 exact Kd.freshB hb
theorem IsS29.kept {w0 W : World} {g : Nat} {f0 : List (S45)} {W1 : World} {S : Nat → Prop} (h : IsS29 w0 W g f0) (hk : Kept W W1 S) (hne : ¬ S g) : IsS29 w0 W1 g f0 := by
 obtain ⟨A0, c0, hb, hg, hr0⟩ := h
 exact ⟨A0, c0, blk_kept hb hk hne, hg, hr0⟩
theorem IsS29.below {w0 W : World} {g : Nat} {f0 : List (S45)} {W1 : World} (h : IsS29 w0 W g f0) (hw : Below W.heap.size W W1) : IsS29 w0 W1 g f0 := h.grown (grown_of_below hw none) (by simp)
theorem IsS29.alloc {w0 W : World} {g : Nat} {f0 : List (S45)} (h : IsS29 w0 W g f0) (o : Obj) : IsS29 w0 (W.alloc o) g f0 := h.below (below_alloc (Below.refl _ _) o)
theorem IsS29.drewN {w0 W : World} {g : Nat} {f0 : List (S45)} (h : IsS29 w0 W g f0) (m : Nat) : IsS29 w0 (W.drewN m) g f0 := h
theorem IsS29.drew {w0 W : World} {g : Nat} {f0 : List (S45)} (h : IsS29 w0 W g f0) : IsS29 w0 W.drew g f0 := h
theorem IsS29.at_ {w0 W : World} {g : Nat} {f0 : List (S45)} {w' : World} {m : Nat} (hq : W.drewN m = w') (h : IsS29 w0 W g f0) : IsS29 w0 w' g f0 := by subst hq; exact IsS29.drewN h m
theorem IsS29.apart {w0 W : World} {g : Nat} {f0 : List (S45)} {α : Type} {d : Kd α} {e : Nat} {base : Nat} {ok : Nat → Prop} {v : Value} {xs : List α} (h : IsS29 w0 W g f0) (ho : d.R e W base ok v xs) (ht : ∀ q, q ∈ e :: d.E → q ≠ 29) : d.R e W base (fun k => ok k ∧ k ≠ g) v xs := by
 obtain ⟨A0, c0, hb, hg, hr0⟩ := h
 exact Kd.R_types ho hb ht
theorem IsS29.own_ne {w0 W : World} {g : Nat} {f0 : List (S45)} {α : Type} {d : Kd α} {e : Nat} {base : Nat} {ok : Nat → Prop} {v : Value} {xs : List α} (h : IsS29 w0 W g f0) (ho : d.R e W base ok v xs) (ht : e ≠ 29) : some g ≠ v.ownBlock := by
 obtain ⟨A0, c0, hb, hg, hr0⟩ := h
 exact Kd.R_ne ho hb ht
theorem IsS29.apartQ {w0 W : World} {g : Nat} {f0 : List (S45)} {α : Type} {d : Kd α} {e : Nat} {base : Nat} {ok : Nat → Prop} {v : Value} {xs : List α} (h : IsS29 w0 W g f0) (ho : d.Q e W base ok v xs) (ht : ∀ q, q ∈ e :: d.E → q ≠ 29) : d.Q e W base (fun k => ok k ∧ k ≠ g) v xs := by
 obtain ⟨A0, c0, hb, hg, hr0⟩ := h
 exact Kd.Q_types ho hb ht
theorem IsS29.own_neQ {w0 W : World} {g : Nat} {f0 : List (S45)} {α : Type} {d : Kd α} {e : Nat} {base : Nat} {ok : Nat → Prop} {v : Value} {xs : List α} (h : IsS29 w0 W g f0) (ho : d.Q e W base ok v xs) (ht : e ≠ 29) : some g ≠ v.ownBlock := by
 obtain ⟨A0, c0, hb, hg, hr0⟩ := h
 exact Kd.Q_ne ho hb ht
theorem IsS29.apartS {w0 W : World} {g : Nat} {f0 : List (S45)} {α : Type} {d : Kd α} {e : Nat} {base : Nat} {ok : Nat → Prop} {v : Value} {xs : List α} (h : IsS29 w0 W g f0) (ho : d.S e W base ok v xs) (ht : ∀ q, q ∈ e :: d.E → q ≠ 29) : d.S e W base (fun k => ok k ∧ k ≠ g) v xs := by
 obtain ⟨A0, c0, hb, hg, hr0⟩ := h
 exact Kd.S_types ho hb ht
theorem IsS29.own_neS {w0 W : World} {g : Nat} {f0 : List (S45)} {α : Type} {d : Kd α} {e : Nat} {base : Nat} {ok : Nat → Prop} {v : Value} {xs : List α} (h : IsS29 w0 W g f0) (ho : d.S e W base ok v xs) (ht : e ≠ 29) : some g ≠ v.ownBlock := by
 obtain ⟨A0, c0, hb, hg, hr0⟩ := h
 exact Kd.S_ne ho hb ht
theorem IsS29.lt {w0 W : World} {g : Nat} {f0 : List (S45)} (h : IsS29 w0 W g f0) : g < W.heap.size := by
 obtain ⟨A0, c0, hb, hg, hr0⟩ := h
 exact blk_lt hb
theorem IsS29.ge {w0 W : World} {g : Nat} {f0 : List (S45)} (h : IsS29 w0 W g f0) : w0.heap.size ≤ g := by
 obtain ⟨A0, c0, hb, hg, hr0⟩ := h
 exact hg
theorem IsS29.ne_blk {w0 W : World} {g : Nat} {f0 : List (S45)} {a : Nat} {cs : Array Value} {t : TypeId} {fr : Nat × Nat} (h : IsS29 w0 W g f0) (hb2 : W.heap[a]? = some (.cells cs t fr)) (ht : t ≠ 29) : g ≠ a := by
 obtain ⟨A0, c0, hb, hg, hr0⟩ := h
 rintro rfl
 rw [hb] at hb2
 injection hb2 with hb2
 injection hb2 with _ ht2
 exact ht ht2.symm
theorem IsS29.far {w0 W : World} {g : Nat} {f0 : List (S45)} {p : Addr} (h : IsS29 w0 W g f0) (hne : g ≠ p.block) (u : Value) : IsS29 w0 (W.setCell p u) g f0 := by
 obtain ⟨A0, c0, hb, hg, hr0⟩ := h
 exact ⟨A0, c0, blk_far hb hne u, hg, hr0⟩
theorem cellS29_0 {W : World} {g : Nat} {A0 : Option Addr} {c0 : Nat} {f0 : List (S45)} (h : W.heap[g]? = some (.cells #[.slice A0 f0.length c0] 29 (0, 0))) : W.cell? ⟨g, 0, none⟩ = some (.slice A0 f0.length c0) := (blk_cell h 0).trans rfl
theorem IsS29.new (w0 W : World) (A0 : Option Addr) (c0 : Nat) (f0 : List (S45)) (hB : Below w0.heap.size w0 W) (hr0 : Kd.C k45 w0 A0 f0.length f0) : IsS29 w0 (W.alloc (.cells #[.slice A0 f0.length c0] 29)) W.heap.size f0 := ⟨A0, c0, by simpa using heap_alloc_new W _, hB.size, hr0⟩
def impl_Tree_isNode.f (s0_0 : List (S45)) (a1 : Int) : Option (Bool) := (impl_inRange.f a1 0 (wrap64 ((s0_0.length : Int) - 1))).bind fun t101 => (some t101)
set_option maxHeartbeats 8000000 in
set_option maxRecDepth 100000 in
theorem impl_Tree_isNode.calls (g : Nat) (s0_0 : List (S45)) (a1 : Int) (r : Bool) (w0 w : World) (hI : IsS29 w0 w g s0_0) (hB : Below w0.heap.size w0 w) (h : impl_Tree_isNode.f s0_0 a1 = some r) :
 Calls Try.prog 64 #[.pointer (some ⟨g, 0, none⟩), .int .i64 a1] w fun e w' => e = .returned (.bool r) ∧ IsS29 w0 w' g s0_0 ∧ Below w0.heap.size w0 w' ∧ KeepBut w w' g none := by
 have HI0 := Aside0.mk hI
 have HK := Aside0.mk (KeepBut.refl w g none)
 have HL := Aside0.mk hB.size
 clear hI
 have HW0 := Aside0.mk hB.size
 have HB := Aside0.mk hB
 clear hB
 have H : ((impl_inRange.f a1 0 (wrap64 ((s0_0.length : Int) - 1))).bind fun t101 => (some t101)) = some r := h
 clear h
 replace H := Option.bind_eq_some_iff.mp H
 obtain ⟨t101, A30, H⟩ := H
 replace H : (some t101) = some r := H
 have A3 := Aside0.mk A30
 clear A30
 obtain rfl := Option.some.inj H
 obtain ⟨ASz4_0, cSz4_0, HGz4, hgz4, HSz4_0⟩ := HI0.out
 have hcz4_0 := cellS29_0 HGz4
 clear HGz4 hgz4
 go_enter Try.func64, Try.ntmps64
 go_wp2_with (first | ((with_reducible refine gate_callee (f := 40) rfl ?_); refine goesL_ (some 12) rfl rfl Try.func40 (by kernel_rfl) rfl #[.int .i64 a1, .int .i64 0, .int .i64 (wrap64 ((s0_0.length : Int) - 1))] rfl (by (try simp only [List.map_toArray, List.map_cons, List.map_nil]); first | done | rfl | (simp only [List.length_drop, List.length_take]; rfl)) ?_; (with_reducible refine (impl_inRange.calls a1 0 (wrap64 ((s0_0.length : Int) - 1)) t101 _ A3.out).mono ?_); rintro e w' ⟨rfl, ⟨nd, rfl⟩⟩; refine ⟨_, rfl, ?_⟩))
 go_ret
 exact ⟨by first | rfl | (simp [*] <;> rfl), HI0.out, by repeat (first | exact HB.out | apply below_alloc | apply pw_below_drewN | apply below_drew1 | refine below_set ?_ (IsS29.ge HI0.out)), HK.out⟩
def impl_Tree_isAbove.l0 : Nat → Int → Int → Int → Int → List (S45) → Option (Bool)
 | 0, _, _, _, _, _ => none
 | k + 1, x1, x2, x11, x12, x1000 => if x12 < x11 then (if x2 = x1 then (some true) else ((impl_Tree_isNode.f x1000 x2).bind fun t102 => (if t102 = true then (if 0 ≤ x2 then (if x2 < (x1000.length : Int) then (impl_Tree_isAbove.l0 k x1 ((rd_T45 x1000 x2).f4) x11 (wrap64 (x12 + 1)) x1000) else (none)) else (none)) else (some false)))) else ((impl_Tree_isNode.f x1000 x2).bind fun t101 => (some t101))
def impl_Tree_isAbove.f (k : Nat) (s0_0 : List (S45)) (a1 : Int) (a2 : Int) : Option (Bool) := impl_Tree_isAbove.l0 k a1 a2 (s0_0.length : Int) 0 s0_0
theorem impl_Tree_isAbove.mono_l : ∀ k, (∀ y0 y1 y2 y3 y4, LeO (impl_Tree_isAbove.l0 k y0 y1 y2 y3 y4) (impl_Tree_isAbove.l0 (k + 1) y0 y1 y2 y3 y4))
 | 0 => fun _ _ _ _ _ r h => by simp [impl_Tree_isAbove.l0] at h
 | k + 1 => by
  have ih0 := impl_Tree_isAbove.mono_l k
  · intro y0 y1 y2 y3 y4
    unfold impl_Tree_isAbove.l0
    repeat' first
    | (with_reducible exact ih0 _ _ _ _ _)
    | (with_reducible exact LeO.refl _)
    | (with_reducible exact LeO.none _)
    | (with_reducible refine LeO.ite ?_ ?_)
    | (with_reducible refine LeO.bind ?_ (fun _ => ?_))
    | exact ih0 _ _ _ _ _
    | exact LeO.none _
    | refine LeO.ite ?_ ?_
    | refine LeO.bind ?_ (fun _ => ?_)
theorem impl_Tree_isAbove.mono : ∀ a0 a1 a2 k, LeO (impl_Tree_isAbove.f k a0 a1 a2) (impl_Tree_isAbove.f (k + 1) a0 a1 a2) := by
 intro a0 a1 a2 k
 have ih0 := impl_Tree_isAbove.mono_l k
 unfold impl_Tree_isAbove.f
 repeat' first
  | (with_reducible exact ih0 _ _ _ _ _)
  | (with_reducible exact LeO.refl _)
  | (with_reducible exact LeO.none _)
  | (with_reducible refine LeO.ite ?_ ?_)
  | (with_reducible refine LeO.bind ?_ (fun _ => ?_))
  | exact ih0 _ _ _ _ _
  | exact LeO.none _
  | refine LeO.ite ?_ ?_
  | refine LeO.bind ?_ (fun _ => ?_)
set_option maxHeartbeats 8000000 in
set_option maxRecDepth 100000 in
theorem impl_Tree_isAbove.calls (k : Nat) (g : Nat) (s0_0 : List (S45)) (a1 : Int) (a2 : Int) (r : Bool) (w0 w : World) (hI : IsS29 w0 w g s0_0) (hB : Below w0.heap.size w0 w) (h : impl_Tree_isAbove.f k s0_0 a1 a2 = some r) :
 Calls Try.prog 87 #[.pointer (some ⟨g, 0, none⟩), .int .i64 a1, .int .i64 a2] w fun e w' => e = .returned (.bool r) ∧ IsS29 w0 w' g s0_0 ∧ Below w0.heap.size w0 w' ∧ KeepBut w w' g none := by
 have HI0 := Aside0.mk hI
 have HK := Aside0.mk (KeepBut.refl w g none)
 have HL := Aside0.mk hB.size
 clear hI
 have HW0 := Aside0.mk hB.size
 have HB := Aside0.mk hB
 clear hB
 have H : (impl_Tree_isAbove.l0 k a1 a2 (s0_0.length : Int) 0 s0_0) = some r := h
 clear h
 have H' := Aside0.mk H
 clear H
 obtain ⟨ASz4_0, cSz4_0, HGz4, hgz4, HSz4_0⟩ := HI0.out
 have hcz4_0 := cellS29_0 HGz4
 clear HGz4 hgz4
 go_enter Try.func87, Try.ntmps87
 go_wp2
 go_loopg [2, 12] k (fun kq v2 v12 w' => ∃ (x2_1 : Int) (x12_1 : Int), v2 = .int .i64 x2_1 ∧ v12 = .int .i64 x12_1 ∧ Aside0 (impl_Tree_isAbove.l0 kq a1 x2_1 (s0_0.length : Int) x12_1 s0_0 = some r) ∧ Aside0 (kq ≤ k) ∧ Aside0 (IsS29 w0 w' g s0_0) ∧ Aside0 (KeepBut w w' g none) ∧ Aside0 (Below w0.heap.size w0 w'))
 case atStart => exact ⟨(a2), (0), (by first | rfl | (simp; done) | (simp [*]; done)), (by first | rfl | (simp; done) | (simp [*]; done)), H', ⟨Nat.le_refl _⟩, ⟨HI0.out⟩, ⟨HK.out⟩, ⟨by repeat (first | exact HB.out | apply below_alloc | apply pw_below_drewN | apply below_drew1 | refine below_set ?_ (IsS29.ge HI0.out))⟩⟩
 case round =>
  clear H'
  try clear p2
  try clear hcz4_0
  obtain ⟨x2_1, x12_1, rfl, rfl, HA, HK1, HI0, HK, HB⟩ := hrel
  cases gk with
  | zero => exact absurd HA.out (by simp [impl_Tree_isAbove.l0])
  | succ k1 =>
   have H := HA.out
   clear HA
   simp only [impl_Tree_isAbove.l0] at H
   by_cases c5 : x12_1 < (s0_0.length : Int)
   · rw [if_pos c5] at H
     have c5b0 : decide (x12_1 < (s0_0.length : Int)) = true := decide_eq_true c5
     clear c5
     by_cases c6 : x2_1 = a1
     · rw [if_pos c6] at H
       have c6b0 : (x2_1 == a1) = true := beq_iff_eq.mpr c6
       have c6b1 : (x2_1 != a1) = false := bne_eq_false_iff_eq.mpr c6
       clear c6
       obtain rfl := Option.some.inj H
       go_wp2
       go_ret
       exact ⟨by first | rfl | (simp [*] <;> rfl), HI0.out, by repeat (first | exact HB.out | apply below_alloc | apply pw_below_drewN | apply below_drew1 | refine below_set ?_ (IsS29.ge HI0.out)), HK.out⟩
     · rw [if_neg c6] at H
       have c6b0 : (x2_1 == a1) = false := beq_eq_false_iff_ne.mpr c6
       have c6b1 : (x2_1 != a1) = true := bne_iff_ne.mpr c6
       replace H := Option.bind_eq_some_iff.mp H
       obtain ⟨t102, A70, H⟩ := H
       replace H : (if t102 = true then (if 0 ≤ x2_1 then (if x2_1 < (s0_0.length : Int) then (impl_Tree_isAbove.l0 k1 a1 ((rd_T45 s0_0 x2_1).f4) (s0_0.length : Int) (wrap64 (x12_1 + 1)) s0_0) else (none)) else (none)) else (some false)) = some r := H
       have A7 := Aside0.mk A70
       clear A70
       by_cases c8 : t102 = true
       · subst c8
         rw [if_pos rfl] at H
         by_cases c9 : 0 ≤ x2_1
         · rw [if_pos c9] at H
           have c9b0 : decide (0 ≤ x2_1) = true := decide_eq_true c9
           clear c9
           by_cases c10 : x2_1 < (s0_0.length : Int)
           · rw [if_pos c10] at H
             have c10b0 : decide (x2_1 < (s0_0.length : Int)) = true := decide_eq_true c10
             clear c10
             have H' := Aside0.mk H
             clear H
             go_wp2_with (first | ((with_reducible refine gate_callee (f := 64) rfl ?_); refine goesL_ (some 19) rfl rfl Try.func64 (by kernel_rfl) rfl #[.pointer (some ⟨g, 0, none⟩), .int .i64 x2_1] rfl (by (try simp only [List.map_toArray, List.map_cons, List.map_nil]); first | done | rfl | (simp only [List.length_drop, List.length_take]; rfl)) ?_; (with_reducible refine (impl_Tree_isNode.calls g s0_0 x2_1 true w0 _ ?side1 ?side2 A7.out).mono ?_); (case side1 => repeat (first | (with_reducible first | exact HI0.out | apply IsS29.alloc | apply IsS29.drewN | apply IsS29.drew) | exact HI0.out)); (case side2 => repeat (first | (with_reducible first | exact HB.out | apply below_alloc | apply pw_below_drewN | apply below_drew1 | refine below_set ?_ (IsS29.ge HI0.out)) | exact HB.out)); rintro e w11 ⟨rfl, hi, hb, hk⟩; refine ⟨_, rfl, ?_⟩; have n0_ := Aside0.mk (KeepBut.trans (HK.out) hk (.inl rfl)); have n1_ := Aside0.mk (hb); have n2_ := Aside0.mk (hi); clear HK; clear HB; clear HI0; have HK := n0_; have HB := n1_; have HI0 := n2_; clear n0_ n1_ n2_; (try clear hb); obtain ⟨ASz12_0, cSz12_0, HGz12, hgz12, HSz12_0⟩ := HI0.out; have hcz12_0 := cellS29_0 HGz12; clear HGz12 hgz12; have p103 : 0 ≤ (x2_1 : Int) := of_decide_eq_true (by assumption); have q103 : x2_1 < (s0_0.length : Int) := of_decide_eq_true (by assumption); obtain ⟨ad103, A103_2, c103_2, A103_5, c103_5, e103, hx103_0, hx103_1, hx103_2, hx103_3, hx103_4, hx103_5, hl103_2, hi103_2, hl103_5, hi103_5⟩ := at_T45 HSz12_0 x2_1 p103 q103; cases e103; replace hx103_0 := pw_cell_below HB.out hx103_0; replace hx103_1 := pw_cell_below HB.out hx103_1; replace hx103_2 := pw_cell_below HB.out hx103_2; replace hx103_3 := pw_cell_below HB.out hx103_3; replace hx103_4 := pw_cell_below HB.out hx103_4; replace hx103_5 := pw_cell_below HB.out hx103_5; have HR103_2 := Aside0.mk hi103_2; have HC103_2 := Aside0.mk hl103_2; clear hi103_2 hl103_2; have HR103_5 := Aside0.mk hi103_5; have HC103_5 := Aside0.mk hl103_5; clear hi103_5 hl103_5; replace p103 := eq_true p103; replace q103 := eq_true q103))
             go_roundg k1
             case measure => have := HK1.out; omega
             case rel => exact ⟨((rd_T45 s0_0 x2_1).f4), (wrap64 (x12_1 + 1)), (by first | rfl | (simp; done) | (simp [*]; done)), (by first | rfl | (simp; done) | (simp [*]; done)), H', ⟨by have := HK1.out; omega⟩, ⟨HI0.out⟩, ⟨HK.out⟩, ⟨by repeat (first | exact HB.out | apply below_alloc | apply pw_below_drewN | apply below_drew1 | refine below_set ?_ (IsS29.ge HI0.out))⟩⟩
           · rw [if_neg c10] at H
             exact absurd H (by simp)
         · rw [if_neg c9] at H
           exact absurd H (by simp)
       · replace c8 := Bool.eq_false_iff.mpr c8
         subst c8
         rw [if_neg (show ¬ (false = true) by decide)] at H
         obtain rfl := Option.some.inj H
         go_wp2_with (first | ((with_reducible refine gate_callee (f := 64) rfl ?_); refine goesL_ (some 19) rfl rfl Try.func64 (by kernel_rfl) rfl #[.pointer (some ⟨g, 0, none⟩), .int .i64 x2_1] rfl (by (try simp only [List.map_toArray, List.map_cons, List.map_nil]); first | done | rfl | (simp only [List.length_drop, List.length_take]; rfl)) ?_; (with_reducible refine (impl_Tree_isNode.calls g s0_0 x2_1 false w0 _ ?side1 ?side2 A7.out).mono ?_); (case side1 => repeat (first | (with_reducible first | exact HI0.out | apply IsS29.alloc | apply IsS29.drewN | apply IsS29.drew) | exact HI0.out)); (case side2 => repeat (first | (with_reducible first | exact HB.out | apply below_alloc | apply pw_below_drewN | apply below_drew1 | refine below_set ?_ (IsS29.ge HI0.out)) | exact HB.out)); rintro e w13 ⟨rfl, hi, hb, hk⟩; refine ⟨_, rfl, ?_⟩; have n0_ := Aside0.mk (KeepBut.trans (HK.out) hk (.inl rfl)); have n1_ := Aside0.mk (hb); have n2_ := Aside0.mk (hi); clear HK; clear HB; clear HI0; have HK := n0_; have HB := n1_; have HI0 := n2_; clear n0_ n1_ n2_; (try clear hb)))
         go_ret
         exact ⟨by first | rfl | (simp [*] <;> rfl), HI0.out, by repeat (first | exact HB.out | apply below_alloc | apply pw_below_drewN | apply below_drew1 | refine below_set ?_ (IsS29.ge HI0.out)), HK.out⟩
   · rw [if_neg c5] at H
     have c5b0 : decide (x12_1 < (s0_0.length : Int)) = false := decide_eq_false c5
     clear c5
     replace H := Option.bind_eq_some_iff.mp H
     obtain ⟨t101, A140, H⟩ := H
     replace H : (some t101) = some r := H
     have A14 := Aside0.mk A140
     clear A140
     obtain rfl := Option.some.inj H
     go_wp2_with (first | ((with_reducible refine gate_callee (f := 64) rfl ?_); refine goesL_ (some 32) rfl rfl Try.func64 (by kernel_rfl) rfl #[.pointer (some ⟨g, 0, none⟩), .int .i64 x2_1] rfl (by (try simp only [List.map_toArray, List.map_cons, List.map_nil]); first | done | rfl | (simp only [List.length_drop, List.length_take]; rfl)) ?_; (with_reducible refine (impl_Tree_isNode.calls g s0_0 x2_1 t101 w0 _ ?side1 ?side2 A14.out).mono ?_); (case side1 => repeat (first | (with_reducible first | exact HI0.out | apply IsS29.alloc | apply IsS29.drewN | apply IsS29.drew) | exact HI0.out)); (case side2 => repeat (first | (with_reducible first | exact HB.out | apply below_alloc | apply pw_below_drewN | apply below_drew1 | refine below_set ?_ (IsS29.ge HI0.out)) | exact HB.out)); rintro e w15 ⟨rfl, hi, hb, hk⟩; refine ⟨_, rfl, ?_⟩; have n0_ := Aside0.mk (KeepBut.trans (HK.out) hk (.inl rfl)); have n1_ := Aside0.mk (hb); have n2_ := Aside0.mk (hi); clear HK; clear HB; clear HI0; have HK := n0_; have HB := n1_; have HI0 := n2_; clear n0_ n1_ n2_; (try clear hb)))
     go_ret
     exact ⟨by first | rfl | (simp [*] <;> rfl), HI0.out, by repeat (first | exact HB.out | apply below_alloc | apply pw_below_drewN | apply below_drew1 | refine below_set ?_ (IsS29.ge HI0.out)), HK.out⟩
/-- isNode and isAbove leave the world as it is, but for draws. -/
theorem impl_Tree_isNode.quiet (g : Nat) (A : Option Addr) (c : Nat) (xs : List S45) (a1 : Int) (r : Bool) (w : World) (hb : w.cell? ⟨g, 0, none⟩ = some (.slice A xs.length c)) (h : impl_Tree_isNode.f xs a1 = some r) :
 Calls Try.prog 64 #[.pointer (some ⟨g, 0, none⟩), .int .i64 a1] w fun e w' => e = .returned (.bool r) ∧ Drawn0 w w' := by
 unfold impl_Tree_isNode.f at h
 replace h := Option.bind_eq_some_iff.mp h
 obtain ⟨t, A3, h⟩ := h
 obtain rfl := Option.some.inj h
 clear h
 replace A3 := Aside0.mk A3
 go_enter Try.func64, Try.ntmps64
 go_wp2_with (first | (go_at_call 40; (with_reducible refine (impl_inRange.calls a1 0 (wrap64 ((xs.length : Int) - 1)) t _ A3.out).mono ?_); rintro e w' ⟨rfl, ⟨nd, rfl⟩⟩))
 go_ret
 exact ⟨rfl, by repeat (first | exact Drawn0.refl _ | apply Drawn0.step)⟩
set_option maxHeartbeats 8000000 in
set_option maxRecDepth 100000 in
theorem impl_Tree_isAbove.quiet (k g : Nat) (A : Option Addr) (c : Nat) (xs : List S45) (a1 a2 : Int) (r : Bool) (w : World) (hb : w.cell? ⟨g, 0, none⟩ = some (.slice A xs.length c)) (hC : Kd.C k45 w A xs.length xs) (h : impl_Tree_isAbove.f k xs a1 a2 = some r) :
 Calls Try.prog 87 #[.pointer (some ⟨g, 0, none⟩), .int .i64 a1, .int .i64 a2] w fun e w' => e = .returned (.bool r) ∧ Drawn0 w w' := by
 have HC := Aside0.mk hC
 have HA := Aside0.mk (show impl_Tree_isAbove.l0 k a1 a2 (xs.length : Int) 0 xs = some r from h)
 clear hC h
 go_enter Try.func87, Try.ntmps87
 go_wp2
 go_loopg [2, 12] k (fun kq v2 v12 w' => ∃ (x2 : Int) (x12 : Int), v2 = .int .i64 x2 ∧ v12 = .int .i64 x12 ∧ Aside0 (impl_Tree_isAbove.l0 kq a1 x2 (xs.length : Int) x12 xs = some r) ∧ Aside0 (kq ≤ k) ∧ Drawn0 w w')
 case atStart => exact ⟨a2, 0, rfl, rfl, HA, ⟨Nat.le_refl _⟩, by repeat (first | exact Drawn0.refl _ | apply Drawn0.step)⟩
 case round =>
  clear HA
  obtain ⟨x2, x12, rfl, rfl, HA, HK, ⟨m1, rfl⟩⟩ := hrel
  have hbq := fun n : Nat => (show (w.drewN n).cell? ⟨g, 0, none⟩ = some (.slice A xs.length c) from hb)
  cases gk with
  | zero => exact absurd HA.out (by simp [impl_Tree_isAbove.l0])
  | succ k1 =>
   have H := HA.out
   clear HA
   simp only [impl_Tree_isAbove.l0] at H
   by_cases c5 : x12 < (xs.length : Int)
   · rw [if_pos c5] at H
     have c5b : decide (x12 < (xs.length : Int)) = true := decide_eq_true c5
     clear c5
     by_cases c6 : x2 = a1
     · rw [if_pos c6] at H
       have c6b : (x2 == a1) = true := beq_iff_eq.mpr c6
       clear c6
       obtain rfl := Option.some.inj H
       clear H
       go_wp2
       go_ret
       exact ⟨rfl, by repeat (first | exact Drawn0.refl _ | apply Drawn0.step)⟩
     · rw [if_neg c6] at H
       have c6b : (x2 == a1) = false := beq_eq_false_iff_ne.mpr c6
       clear c6
       replace H := Option.bind_eq_some_iff.mp H
       obtain ⟨t, A7, H⟩ := H
       replace A7 := Aside0.mk A7
       cases t with
       | true =>
        rw [if_pos rfl] at H
        by_cases c9 : 0 ≤ x2
        · rw [if_pos c9] at H
          by_cases c10 : x2 < (xs.length : Int)
          · rw [if_pos c10] at H
            have H' := Aside0.mk H
            clear H
            obtain ⟨ad, A_2, c_2, A_5, c_5, e1, hx0, hx1, hx2, hx3, hx4, hx5, hl2, hi2, hl5, hi5⟩ := at_T45 HC.out x2 c9 c10
            subst e1
            clear hx0 hx1 hx2 hx3 hx5 hl2 hi2 hl5 hi5
            replace c9 := eq_true c9
            replace c10 := eq_true c10
            go_wp2_with (first | (go_at_call 64; (with_reducible refine (impl_Tree_isNode.quiet g _ c xs x2 true _ (hbq _) A7.out).mono ?_); rintro e w' ⟨rfl, ⟨nd, rfl⟩⟩))
            go_roundg k1
            case measure => have := HK.out; omega
            case rel => exact ⟨_, _, rfl, rfl, H', ⟨by have := HK.out; omega⟩, by repeat (first | exact Drawn0.refl _ | apply Drawn0.step)⟩
          · rw [if_neg c10] at H; cases H
        · rw [if_neg c9] at H; cases H
       | false =>
        rw [if_neg (by decide)] at H
        obtain rfl := Option.some.inj H
        clear H
        go_wp2_with (first | (go_at_call 64; (with_reducible refine (impl_Tree_isNode.quiet g _ c xs x2 false _ (hbq _) A7.out).mono ?_); rintro e w' ⟨rfl, ⟨nd, rfl⟩⟩))
        go_ret
        exact ⟨rfl, by repeat (first | exact Drawn0.refl _ | apply Drawn0.step)⟩
   · rw [if_neg c5] at H
     have c5b : decide (x12 < (xs.length : Int)) = false := decide_eq_false c5
     clear c5
     replace H := Option.bind_eq_some_iff.mp H
     obtain ⟨t, A7, H⟩ := H
     obtain rfl := Option.some.inj H
     clear H
     replace A7 := Aside0.mk A7
     go_wp2_with (first | (go_at_call 64; (with_reducible refine (impl_Tree_isNode.quiet g _ c xs x2 t _ (hbq _) A7.out).mono ?_); rintro e w' ⟨rfl, ⟨nd, rfl⟩⟩))
     go_ret
     exact ⟨rfl, by repeat (first | exact Drawn0.refl _ | apply Drawn0.step)⟩
mutual
def impl_Tree_linksOk.l0 : Nat → Int → List Int → List S45 → Option Bool
 | 0, _, _, _ => none
 | k + 1, i, s, xs => if i < (xs.length : Int) then (if 0 ≤ i then impl_Tree_linksOk.l1 k i 0 s xs else none) else impl_Tree_linksOk.l2 k 0 s xs
def impl_Tree_linksOk.l1 : Nat → Int → Int → List Int → List S45 → Option Bool
 | 0, _, _, _, _ => none
 | k + 1, i, j, s, xs => if j < ((rd_T45 xs i).f5.length : Int) then (if 0 ≤ j then ((impl_Tree_isNode.f xs (rd (rd_T45 xs i).f5 j)).bind fun t => if t = true then (if 0 ≤ rd (rd_T45 xs i).f5 j then (if rd (rd_T45 xs i).f5 j < (xs.length : Int) then (if (rd_T45 xs (rd (rd_T45 xs i).f5 j)).f4 = i then (if 0 < rd s (rd (rd_T45 xs i).f5 j) then some false else impl_Tree_linksOk.l1 k i (wrap64 (j + 1)) (s.set (rd (rd_T45 xs i).f5 j).toNat (wrap64 (rd s (rd (rd_T45 xs i).f5 j) + 1))) xs) else some false) else none) else none) else some false) else none) else impl_Tree_linksOk.l0 k (wrap64 (i + 1)) s xs
def impl_Tree_linksOk.l2 : Nat → Int → List Int → List S45 → Option Bool
 | 0, _, _, _ => none
 | k + 1, i, s, xs => if i < (xs.length : Int) then (if 0 ≤ i then (if (((rd_T45 xs i).f4 == -1) == decide (0 < rd s i)) = true then some false else (impl_Tree_isAbove.f k xs i (rd_T45 xs i).f4).bind fun t => if t = true then some false else impl_Tree_linksOk.l2 k (wrap64 (i + 1)) s xs) else none) else some true
end
def impl_Tree_linksOk.f (k : Nat) (xs : List S45) : Option Bool := if 0 < xs.length then (if xs.length ≤ 500 then impl_Tree_linksOk.l0 k 0 (List.replicate xs.length 0) xs else none) else none
theorem impl_Tree_linksOk.mono_l : ∀ k, (∀ y0 y1 y2, LeO (impl_Tree_linksOk.l0 k y0 y1 y2) (impl_Tree_linksOk.l0 (k + 1) y0 y1 y2)) ∧ (∀ y0 y1 y2 y3, LeO (impl_Tree_linksOk.l1 k y0 y1 y2 y3) (impl_Tree_linksOk.l1 (k + 1) y0 y1 y2 y3)) ∧ (∀ y0 y1 y2, LeO (impl_Tree_linksOk.l2 k y0 y1 y2) (impl_Tree_linksOk.l2 (k + 1) y0 y1 y2))
 | 0 => ⟨fun _ _ _ r h => by simp [impl_Tree_linksOk.l0] at h, fun _ _ _ _ r h => by simp [impl_Tree_linksOk.l1] at h, fun _ _ _ r h => by simp [impl_Tree_linksOk.l2] at h⟩
 | k + 1 => by
  obtain ⟨ih0, ih1, ih2⟩ := impl_Tree_linksOk.mono_l k
  refine ⟨?_, ?_, ?_⟩
  · intro y0 y1 y2
    rw [impl_Tree_linksOk.l0, impl_Tree_linksOk.l0]
    exact LeO.ite (LeO.ite (ih1 _ _ _ _) (LeO.refl _)) (ih2 _ _ _)
  · intro y0 y1 y2 y3
    rw [impl_Tree_linksOk.l1, impl_Tree_linksOk.l1]
    exact LeO.ite (LeO.ite (LeO.bind (LeO.refl _) (fun _ => LeO.ite (LeO.ite (LeO.ite (LeO.ite (LeO.ite (LeO.refl _) (ih1 _ _ _ _)) (LeO.refl _)) (LeO.refl _)) (LeO.refl _)) (LeO.refl _))) (LeO.refl _)) (ih0 _ _ _)
  · intro y0 y1 y2
    rw [impl_Tree_linksOk.l2, impl_Tree_linksOk.l2]
    exact LeO.ite (LeO.ite (LeO.ite (LeO.refl _) (LeO.bind (impl_Tree_isAbove.mono _ _ _ _) (fun _ => LeO.ite (LeO.refl _) (ih2 _ _ _)))) (LeO.refl _)) (LeO.refl _)
theorem impl_Tree_linksOk.mono : ∀ a0 k, LeO (impl_Tree_linksOk.f k a0) (impl_Tree_linksOk.f (k + 1) a0) := fun a0 k => LeO.ite (LeO.ite ((impl_Tree_linksOk.mono_l k).1 _ _ _) (LeO.refl _)) (LeO.refl _)
/-- What the walk of linksOk holds: the receiver's cell, the row 'seen', all that was. -/
structure LinksW (w W : World) (g gs n cap : Nat) (A : Option Addr) (c m : Nat) (s : List Int) : Prop where
 cell : W.cell? ⟨g, 0, none⟩ = some (.slice A m c)
 row : Kd.R (Kd.int .i64) 3 W w.heap.size (fun k => k = gs) (.slice (some ⟨gs, 0, none⟩) n cap) s
 low : Below w.heap.size w W
section
variable {w W W2 : World} {g gs n cap : Nat} {A : Option Addr} {c m : Nat} {s : List Int}
theorem LinksW.below (h : LinksW w W g gs n cap A c m s) (hb : Below W.heap.size W W2) : LinksW w W2 g gs n cap A c m s := ⟨pw_cell_below hb h.cell, Kd.R_below h.row hb, below_step h.low hb⟩
theorem LinksW.drewN (h : LinksW w W g gs n cap A c m s) (k : Nat) : LinksW w (W.drewN k) g gs n cap A c m s := ⟨h.cell, Kd.R_drewN h.row k, pw_below_drewN h.low k⟩
theorem LinksW.put (h : LinksW w W g gs n cap A c m s) (hg : g < w.heap.size) (i x : Int) : LinksW w (W.setCell ⟨gs, i.toNat, none⟩ (.int .i64 x)) g gs n cap A c m (s.set i.toNat x) := by
 have hgs : w.heap.size ≤ gs := Kd.R_base h.row gs rfl
 exact ⟨(cell_far (p := ⟨gs, i.toNat, none⟩) (show g ≠ gs by omega) _).trans h.cell, Kd.R_putn h.row i x, below_set h.low hgs⟩
theorem LinksW.far (h : LinksW w W g gs n cap A c m s) (hg : g < w.heap.size) {gb : Nat} (hb : w.heap.size ≤ gb) (hne : gb ≠ gs) (j : Nat) (u : Value) : LinksW w (W.setCell ⟨gb, j, none⟩ u) g gs n cap A c m s :=
 ⟨(cell_far (p := ⟨gb, j, none⟩) (show g ≠ gb by omega) _).trans h.cell, Kd.R_far (p := ⟨gb, j, none⟩) h.row (fun k hk => by show k ≠ gb; omega) u, below_set h.low hb⟩
theorem LinksW.fill (h : LinksW w W g gs n cap A c m s) (hg : g < w.heap.size) {gb : Nat} (hb : w.heap.size ≤ gb) (hne : gb ≠ gs) (x : S45) (v2 v5 : Value) : LinksW w (fillN W gb x v2 v5) g gs n cap A c m s :=
 (((((h.far hg hb hne 0 _).far hg hb hne 1 _).far hg hb hne 2 _).far hg hb hne 3 _).far hg hb hne 4 _).far hg hb hne 5 _
end
set_option maxHeartbeats 8000000 in
set_option maxRecDepth 100000 in
theorem impl_Tree_linksOk.calls (k : Nat) (g : Nat) (xs : List S45) (r : Bool) (w0 w : World) (hI : IsS29 w0 w g xs) (hB : Below w0.heap.size w0 w) (h : impl_Tree_linksOk.f k xs = some r) :
 Calls Try.prog 42 #[.pointer (some ⟨g, 0, none⟩)] w fun e w' => e = .returned (.bool r) ∧ IsS29 w0 w' g xs ∧ Below w0.heap.size w0 w' ∧ KeepBut w w' g none := by
 have HI := Aside0.mk hI
 have HB0 := Aside0.mk hB
 suffices hx : Calls Try.prog 42 #[.pointer (some ⟨g, 0, none⟩)] w fun e w' => e = .returned (.bool r) ∧ Below w.heap.size w w' by
  refine hx.mono ?_
  rintro e w' ⟨rfl, hb⟩
  exact ⟨rfl, IsS29.below hI hb, below_step hB hb, KeepBut.of_below hb g none⟩
 obtain ⟨A, c, hblk, hg, hC0⟩ := hI
 have hc0 := cellS29_0 hblk
 have HC := Aside0.mk (Kd.C_below hC0 hB)
 have HG := Aside0.mk (blk_lt hblk)
 clear hB hblk hg hC0
 unfold impl_Tree_linksOk.f at h
 by_cases hn0 : 0 < xs.length
 · rw [if_pos hn0] at h
   by_cases hn1 : xs.length ≤ 500
   · rw [if_pos hn1] at h
     have HA := Aside0.mk h
     have HN0 := Aside0.mk hn0
     have HN1 := Aside0.mk hn1
     clear h hn0 hn1
     go_enter Try.func42, Try.ntmps42
     go_wp2_with (first | ((with_reducible refine gate_dst (N := 15) rfl ?_); refine Kd.R_make (w0 := w) (Kd.int .i64) w.heap.size 3 rfl (N := 15) rfl 37 _ _ rfl (xs.length : Int) rfl rfl Try.underlying37 (.int .i64 0) 8 info3 rfl (by decide) (by omega) 0 (ok := fun _ => True) (okp := fun _ => True) rfl (fun _ hk => hk) trivial (by omega) (by have := HN1.out; omega) (Below.refl _ _) (Nat.le_refl _) ?_; intro vs w1 ho hb hg_ hnew_; clear hg_ hnew_; rw [Int.toNat_natCast] at ho; obtain ⟨gs, cap, ev, _, _, _⟩ := Kd.R_form ho (by have := HN0.out; rw [List.length_replicate]; exact this); rw [List.length_replicate] at ev; subst ev; have HL := Aside0.mk (show LinksW w w1 g gs xs.length cap A c xs.length (List.replicate xs.length 0) from ⟨pw_cell_below hb hc0, Kd.R_mono (Kd.R_tight rfl ho) (fun k_ hk => by simpa [Value.ownBlock] using hk), hb⟩); have hc1 := HL.out.cell; clear ho hb))
     go_loopg [21] k (fun kq v21 w' => ∃ (i : Int) (s : List Int), v21 = .int .i64 i ∧ Aside0 (impl_Tree_linksOk.l0 kq i s xs = some r) ∧ Aside0 (kq ≤ k) ∧ Aside0 (LinksW w w' g gs xs.length cap A c xs.length s))
     case atStart => exact ⟨0, _, rfl, HA, ⟨Nat.le_refl _⟩, HL⟩
     case round =>
      clear HA HL hc1 hc0
      obtain ⟨i, s, rfl, HA, HK, HL⟩ := hrel
      cases gk with
      | zero => exact absurd HA.out (by simp [impl_Tree_linksOk.l0])
      | succ k1 =>
       have H := HA.out
       clear HA
       simp only [impl_Tree_linksOk.l0] at H
       by_cases c1 : i < (xs.length : Int)
       · rw [if_pos c1] at H
         by_cases c2 : 0 ≤ i
         · rw [if_pos c2] at H
           have HA := Aside0.mk H
           clear H
           have c1b : decide (i < (xs.length : Int)) = true := decide_eq_true c1
           obtain ⟨ad, A_2, c_2, A_5, c_5, e1, hx0, hx1, hx2, hx3, hx4, hx5, hl2, hi2, hl5, hi5⟩ := at_T45 HC.out i c2 c1
           subst e1
           replace hx0 := pw_cell_below HL.out.low hx0
           replace hx1 := pw_cell_below HL.out.low hx1
           replace hx2 := pw_cell_below HL.out.low hx2
           replace hx3 := pw_cell_below HL.out.low hx3
           replace hx4 := pw_cell_below HL.out.low hx4
           replace hx5 := pw_cell_below HL.out.low hx5
           have HI5 := Aside0.mk hi5
           clear hl2 hi2 hl5 hi5
           replace c2 := eq_true c2
           replace c1 := eq_true c1
           go_upto_region 5 with (first | ((with_reducible refine gate_dst (N := 5) rfl ?_); refine box_event ?hg (N := 5) ?hd (cs := #[.int .i64 0, .string (⟨#[]⟩ : ByteArray), .slice none 0 0, .string (⟨#[]⟩ : ByteArray), .int .i64 0, .slice none 0 0]) (t := 45) ?hr ?_; (case hd => rfl); (case hg => rfl); (case hr => first | (go_simp; done) | (go_simp; rfl)); intro gb hg w2 hbox hb; have HNE := Aside0.mk (show gb ≠ gs by have := Kd.R_lt HL.out.row gs rfl; omega); have HL2 := Aside0.mk (HL.out.below hb); have HGB := Aside0.mk (show w.heap.size ≤ gb by rw [hg]; exact below_size HL.out.low); have HBX := Aside0.mk hbox; have hz0 := blk_cell hbox 0; have hz1 := blk_cell hbox 1; have hz2 := blk_cell hbox 2; have hz3 := blk_cell hbox 3; have hz4 := blk_cell hbox 4; have hz5 := blk_cell hbox 5; have hf := blk_frozen hbox; clear hbox hb hg HL))
           have HB6 := Aside0.mk (fillN_blk (rd_T45 xs i) (.slice A_2 (rd_T45 xs i).f2.length c_2) (.slice A_5 (rd_T45 xs i).f5.length c_5) HBX.out)
           have HL := Aside0.mk (HL2.out.fill HG.out HGB.out HNE.out (rd_T45 xs i) (.slice A_2 (rd_T45 xs i).f2.length c_2) (.slice A_5 (rd_T45 xs i).f5.length c_5))
           show Code.wp _ _ _ _ (fillN w2 gb (rd_T45 xs i) (.slice A_2 (rd_T45 xs i).f2.length c_2) (.slice A_5 (rd_T45 xs i).f5.length c_5))
           generalize fillN w2 gb (rd_T45 xs i) (.slice A_2 (rd_T45 xs i).f2.length c_2) (.slice A_5 (rd_T45 xs i).f5.length c_5) = w3 at HB6 HL ⊢
           clear hz0 hz1 hz2 hz3 hz4 hz5 hf HBX HL2 hx0 hx1 hx2 hx3 hx4 hx5 HNE HGB
           have hz5 := blk_cell HB6.out 5
           go_wp2
           go_loopg [29] k1 (fun kq v29 w' => ∃ (j : Int) (s : List Int), v29 = .int .i64 j ∧ Aside0 (impl_Tree_linksOk.l1 kq i j s xs = some r) ∧ Aside0 (kq ≤ k1) ∧ Aside0 (LinksW w w' g gs xs.length cap (some ad) c xs.length s))
           case atStart => exact ⟨0, _, rfl, HA, ⟨Nat.le_refl _⟩, HL⟩
           case round =>
            clear HA HL hz5 HB6
            obtain ⟨j, s, rfl, HA, HK2, HL⟩ := hrel
            cases gk with
            | zero => exact absurd HA.out (by simp [impl_Tree_linksOk.l1])
            | succ k2 =>
             have H := HA.out
             clear HA
             simp only [impl_Tree_linksOk.l1] at H
             by_cases c3 : j < ((rd_T45 xs i).f5.length : Int)
             · rw [if_pos c3] at H
               by_cases c4 : 0 ≤ j
               · rw [if_pos c4] at H
                 obtain ⟨t, A1, H⟩ := Option.bind_eq_some_iff.mp H
                 replace A1 := Aside0.mk A1
                 obtain ⟨ak, e2, hy0⟩ := Kd.at_int HI5.out j c4 c3
                 subst e2
                 replace hy0 := pw_cell_below HL.out.low hy0
                 have hcg := HL.out.cell
                 have c3b : decide (j < ((rd_T45 xs i).f5.length : Int)) = true := decide_eq_true c3
                 replace c3 := eq_true c3
                 replace c4 := eq_true c4
                 obtain ⟨kid, hkid⟩ : ∃ q : Int, q = rd (rd_T45 xs i).f5 j := ⟨_, rfl⟩
                 rw [← hkid] at hy0 H A1
                 clear hkid
                 cases t with
                 | false =>
                  rw [if_neg (by decide)] at H
                  obtain rfl := Option.some.inj H
                  clear H
                  go_wp2_with (first | (go_at_call 64; (with_reducible refine (impl_Tree_isNode.quiet g _ c xs kid false _ hcg A1.out).mono ?_); rintro e w' ⟨rfl, ⟨nd, rfl⟩⟩))
                  go_ret
                  exact ⟨rfl, pw_below_drewN HL.out.low _⟩
                 | true =>
                  rw [if_pos rfl] at H
                  by_cases c5 : 0 ≤ kid
                  · rw [if_pos c5] at H
                    by_cases c6 : kid < (xs.length : Int)
                    · rw [if_pos c6] at H
                      obtain ⟨ad', A_6, c_6, A_7, c_7, e3, hw0, hw1, hw2, hw3, hw4, hw5, hl6, hi6, hl7, hi7⟩ := at_T45 HC.out kid c5 c6
                      injection e3 with e3
                      subst e3
                      replace hw4 := pw_cell_below HL.out.low hw4
                      clear hw0 hw1 hw2 hw3 hw5 hl6 hi6 hl7 hi7
                      have hs : wr.cell? ⟨gs, kid.toNat, none⟩ = some (.int .i64 (rd s kid)) := (Kd.R_celln 0 HL.out.row kid c5 c6).1
                      have hsf : wr.frozen? ⟨gs, kid.toNat, none⟩ = false := (Kd.R_celln 0 HL.out.row kid c5 c6).2
                      replace c5 := eq_true c5
                      replace c6 := eq_true c6
                      by_cases c7 : (rd_T45 xs kid).f4 = i
                      · rw [if_pos c7] at H
                        have c7b : ((rd_T45 xs kid).f4 == i) = true := beq_iff_eq.mpr c7
                        have c7c : ((rd_T45 xs kid).f4 != i) = false := bne_eq_false_iff_eq.mpr c7
                        clear c7
                        by_cases c8 : 0 < rd s kid
                        · rw [if_pos c8] at H
                          obtain rfl := Option.some.inj H
                          clear H
                          have c8b : decide (0 < rd s kid) = true := decide_eq_true c8
                          clear c8
                          go_wp2_with (first | (go_at_call 64; (with_reducible refine (impl_Tree_isNode.quiet g _ c xs kid true _ hcg A1.out).mono ?_); rintro e w' ⟨rfl, ⟨nd, rfl⟩⟩))
                          go_ret
                          exact ⟨rfl, pw_below_drewN HL.out.low _⟩
                        · rw [if_neg c8] at H
                          have HA := Aside0.mk H
                          clear H
                          have c8b : decide (0 < rd s kid) = false := decide_eq_false c8
                          clear c8
                          go_wp2_with (first | (go_at_call 64; (with_reducible refine (impl_Tree_isNode.quiet g _ c xs kid true _ hcg A1.out).mono ?_); rintro e w' ⟨rfl, ⟨nd, rfl⟩⟩))
                          go_roundg k2
                          case measure => have := HK.out; have := HK2.out; omega
                          case rel => exact ⟨_, _, rfl, HA, ⟨by have := HK2.out; omega⟩, ⟨LinksW.put (LinksW.drewN HL.out _) HG.out kid _⟩⟩
                      · rw [if_neg c7] at H
                        obtain rfl := Option.some.inj H
                        clear H
                        have c7b : ((rd_T45 xs kid).f4 == i) = false := beq_eq_false_iff_ne.mpr c7
                        have c7c : ((rd_T45 xs kid).f4 != i) = true := bne_iff_ne.mpr c7
                        clear c7
                        go_wp2_with (first | (go_at_call 64; (with_reducible refine (impl_Tree_isNode.quiet g _ c xs kid true _ hcg A1.out).mono ?_); rintro e w' ⟨rfl, ⟨nd, rfl⟩⟩))
                        go_ret
                        exact ⟨rfl, pw_below_drewN HL.out.low _⟩
                    · rw [if_neg c6] at H; cases H
                  · rw [if_neg c5] at H; cases H
               · rw [if_neg c4] at H; cases H
             · rw [if_neg c3] at H
               have HA := Aside0.mk H
               clear H
               have c3b : decide (j < ((rd_T45 xs i).f5.length : Int)) = false := decide_eq_false c3
               clear c3
               go_wp2
               go_roundg k2
               case measure => have := HK.out; have := HK2.out; omega
               case rel => exact ⟨_, _, rfl, HA, ⟨by have := HK.out; have := HK2.out; omega⟩, HL⟩
         · rw [if_neg c2] at H; cases H
       · rw [if_neg c1] at H
         have HA := Aside0.mk H
         clear H
         have c1b : decide (i < (xs.length : Int)) = false := decide_eq_false c1
         clear c1
         have hcg := HL.out.cell
         go_wp2
         go_loopg [69] k1 (fun kq v69 w' => ∃ (i : Int), v69 = .int .i64 i ∧ Aside0 (impl_Tree_linksOk.l2 kq i s xs = some r) ∧ Aside0 (kq ≤ k1) ∧ Aside0 (LinksW w w' g gs xs.length cap A c xs.length s))
         case atStart => exact ⟨0, rfl, HA, ⟨Nat.le_refl _⟩, HL⟩
         case round =>
          clear HA HL hcg c1b
          obtain ⟨i, rfl, HA, HK2, HL⟩ := hrel
          cases gk with
          | zero => exact absurd HA.out (by simp [impl_Tree_linksOk.l2])
          | succ k2 =>
           have H := HA.out
           clear HA
           simp only [impl_Tree_linksOk.l2] at H
           by_cases c1 : i < (xs.length : Int)
           · rw [if_pos c1] at H
             by_cases c2 : 0 ≤ i
             · rw [if_pos c2] at H
               have c1b : decide (i < (xs.length : Int)) = true := decide_eq_true c1
               obtain ⟨ad, A_2, c_2, A_5, c_5, e1, hx0, hx1, hx2, hx3, hx4, hx5, hl2, hi2, hl5, hi5⟩ := at_T45 HC.out i c2 c1
               subst e1
               replace hx0 := pw_cell_below HL.out.low hx0
               replace hx1 := pw_cell_below HL.out.low hx1
               replace hx2 := pw_cell_below HL.out.low hx2
               replace hx3 := pw_cell_below HL.out.low hx3
               replace hx4 := pw_cell_below HL.out.low hx4
               replace hx5 := pw_cell_below HL.out.low hx5
               clear hl2 hi2 hl5 hi5
               have C1 := Aside0.mk c1
               have C2 := Aside0.mk c2
               replace c2 := eq_true c2
               replace c1 := eq_true c1
               go_upto_region 16 with (first | ((with_reducible refine gate_dst (N := 9) rfl ?_); refine box_event ?hg (N := 9) ?hd (cs := #[.int .i64 0, .string (⟨#[]⟩ : ByteArray), .slice none 0 0, .string (⟨#[]⟩ : ByteArray), .int .i64 0, .slice none 0 0]) (t := 45) ?hr ?_; (case hd => rfl); (case hg => rfl); (case hr => first | (go_simp; done) | (go_simp; rfl)); intro gb hg w2 hbox hb; have HNE := Aside0.mk (show gb ≠ gs by have := Kd.R_lt HL.out.row gs rfl; omega); have HL2 := Aside0.mk (HL.out.below hb); have HGB := Aside0.mk (show w.heap.size ≤ gb by rw [hg]; exact below_size HL.out.low); have HBX := Aside0.mk hbox; have hz0 := blk_cell hbox 0; have hz1 := blk_cell hbox 1; have hz2 := blk_cell hbox 2; have hz3 := blk_cell hbox 3; have hz4 := blk_cell hbox 4; have hz5 := blk_cell hbox 5; have hf := blk_frozen hbox; clear hbox hb hg HL))
               have HB6 := Aside0.mk (fillN_blk (rd_T45 xs i) (.slice A_2 (rd_T45 xs i).f2.length c_2) (.slice A_5 (rd_T45 xs i).f5.length c_5) HBX.out)
               have HL := Aside0.mk (HL2.out.fill HG.out HGB.out HNE.out (rd_T45 xs i) (.slice A_2 (rd_T45 xs i).f2.length c_2) (.slice A_5 (rd_T45 xs i).f5.length c_5))
               show Code.wp _ _ _ _ (fillN w2 gb (rd_T45 xs i) (.slice A_2 (rd_T45 xs i).f2.length c_2) (.slice A_5 (rd_T45 xs i).f5.length c_5))
               generalize fillN w2 gb (rd_T45 xs i) (.slice A_2 (rd_T45 xs i).f2.length c_2) (.slice A_5 (rd_T45 xs i).f5.length c_5) = w3 at HB6 HL ⊢
               clear hz0 hz1 hz2 hz3 hz4 hz5 hf HBX HL2 hx0 hx1 hx2 hx3 hx4 hx5 HNE HGB
               have hz4 := blk_cell HB6.out 4
               have hcg := HL.out.cell
               have hs : w3.cell? ⟨gs, i.toNat, none⟩ = some (.int .i64 (rd s i)) := (Kd.R_celln 0 HL.out.row i C2.out C1.out).1
               have hCn := Kd.C_below HC.out HL.out.low
               cases eP : ((rd_T45 xs i).f4 == -1) == decide (0 < rd s i) with
               | true =>
                rw [if_pos eP] at H
                obtain rfl := Option.some.inj H
                clear H
                have eQ : decide (((rd_T45 xs i).f4 == -1) = decide (0 < rd s i)) = true := by simpa using eP
                go_quiet (fail)
                try go_wp2
                go_ret
                exact ⟨rfl, pw_below_drewN HL.out.low _⟩
               | false =>
                rw [if_neg (by rw [eP]; decide)] at H
                obtain ⟨t, A1, H⟩ := Option.bind_eq_some_iff.mp H
                replace A1 := Aside0.mk A1
                cases t with
                | true =>
                 rw [if_pos rfl] at H
                 obtain rfl := Option.some.inj H
                 clear H
                 have eQ : decide (((rd_T45 xs i).f4 == -1) = decide (0 < rd s i)) = false := by simpa using eP
                 go_quiet ((go_at_call 87; (with_reducible refine (impl_Tree_isAbove.quiet k2 g _ c xs i (rd_T45 xs i).f4 true _ (cell_at rfl hcg) (Kd.C_at rfl hCn) A1.out).mono ?_); rintro e w' ⟨rfl, ⟨nd, rfl⟩⟩; (first | exact ⟨rfl, _, rfl⟩ | exact ⟨rfl, _, World.drewN_drewN _ _ _⟩ | exact ⟨rfl, _, Eq.trans (World.drewN_drewN _ _ _) (congrArg (World.drewN _) (Nat.add_assoc _ _ _))⟩)))
                 try go_wp2
                 go_ret
                 exact ⟨rfl, pw_below_drewN HL.out.low _⟩
                | false =>
                 rw [if_neg (by decide)] at H
                 have HA := Aside0.mk H
                 clear H
                 have eQ : decide (((rd_T45 xs i).f4 == -1) = decide (0 < rd s i)) = false := by simpa using eP
                 go_quiet ((go_at_call 87; (with_reducible refine (impl_Tree_isAbove.quiet k2 g _ c xs i (rd_T45 xs i).f4 false _ (cell_at rfl hcg) (Kd.C_at rfl hCn) A1.out).mono ?_); rintro e w' ⟨rfl, ⟨nd, rfl⟩⟩; (first | exact ⟨rfl, _, rfl⟩ | exact ⟨rfl, _, World.drewN_drewN _ _ _⟩ | exact ⟨rfl, _, Eq.trans (World.drewN_drewN _ _ _) (congrArg (World.drewN _) (Nat.add_assoc _ _ _))⟩)))
                 try go_wp2
                 go_roundg k2
                 case measure => have := HK2.out; omega
                 case rel => exact ⟨_, rfl, HA, ⟨by have := HK2.out; omega⟩, ⟨LinksW.drewN HL.out _⟩⟩
             · rw [if_neg c2] at H; cases H
           · rw [if_neg c1] at H
             obtain rfl := Option.some.inj H
             clear H
             have c1b : decide (i < (xs.length : Int)) = false := decide_eq_false c1
             clear c1
             go_wp2
             go_ret
             exact ⟨rfl, HL.out.low⟩
   · rw [if_neg hn1] at h; cases h
 · rw [if_neg hn0] at h; cases h
def impl_TreeOk.l0 : Nat → Int → List S45 → Option Bool
 | 0, _, _ => none
 | k + 1, i, xs => if i < (xs.length : Int) then (if 0 ≤ i then ((impl_nodeOk.f k ((rd_T45 xs i).f0) ((rd_T45 xs i).f1) ((rd_T45 xs i).f2) ((rd_T45 xs i).f3) ((rd_T45 xs i).f4) ((rd_T45 xs i).f5) i).bind fun t => if t = true then impl_TreeOk.l0 k (wrap64 (i + 1)) xs else some false) else none) else impl_Tree_linksOk.f k xs
def impl_TreeOk.f (k : Nat) (xs : List S45) : Option Bool := (impl_inRange.f (xs.length : Int) 1 500).bind fun t => if t = true then impl_TreeOk.l0 k 0 xs else some false
theorem impl_TreeOk.mono_l : ∀ k, (∀ y0 y1, LeO (impl_TreeOk.l0 k y0 y1) (impl_TreeOk.l0 (k + 1) y0 y1))
 | 0 => fun _ _ r h => by simp [impl_TreeOk.l0] at h
 | k + 1 => by
  have ih := impl_TreeOk.mono_l k
  intro y0 y1
  rw [impl_TreeOk.l0, impl_TreeOk.l0]
  exact LeO.ite (LeO.ite (LeO.bind (impl_nodeOk.mono _ _ _ _ _ _ _ _) (fun _ => LeO.ite (ih _ _) (LeO.refl _))) (LeO.refl _)) (impl_Tree_linksOk.mono _ _)
theorem impl_TreeOk.mono : ∀ a0 k, LeO (impl_TreeOk.f k a0) (impl_TreeOk.f (k + 1) a0) := fun a0 k => LeO.bind (LeO.refl _) (fun _ => LeO.ite (impl_TreeOk.mono_l k _ _) (LeO.refl _))
set_option maxHeartbeats 8000000 in
set_option maxRecDepth 100000 in
theorem impl_TreeOk.calls (k : Nat) (A0_0 : Option Addr) (c0_0 : Nat) (l0_0 : List S45) (r : Bool) (w : World) (hr0_0 : Kd.C k45 w A0_0 l0_0.length l0_0) (hc0_0 : l0_0.length ≤ c0_0) (h : impl_TreeOk.f k l0_0 = some r) :
 Calls Try.prog 13 #[.agg #[.slice A0_0 l0_0.length c0_0]] w fun e w' => e = .returned (.bool r) ∧ Below w.heap.size w w' := by
 have HC := Aside0.mk hr0_0
 clear hr0_0 hc0_0
 unfold impl_TreeOk.f at h
 obtain ⟨t, A1, h⟩ := Option.bind_eq_some_iff.mp h
 replace A1 := Aside0.mk A1
 cases t with
 | false =>
  rw [if_neg (by decide)] at h
  obtain rfl := Option.some.inj h
  clear h
  go_enter Try.func13, Try.ntmps13
  go_wp2_with (first | (go_at_call 40; (with_reducible refine (impl_inRange.calls _ _ _ false _ A1.out).mono ?_); rintro e w' ⟨rfl, ⟨nd, rfl⟩⟩))
  go_ret
  exact ⟨rfl, by repeat (first | exact Below.refl _ _ | apply below_alloc | apply pw_below_drewN)⟩
 | true =>
  rw [if_pos rfl] at h
  have HA := Aside0.mk h
  clear h
  go_enter Try.func13, Try.ntmps13
  go_wp2_with (first
   | ((with_reducible refine gate_dst (N := 1) rfl ?_); refine box_event ?hg (N := 1) ?hd (cs := #[.slice A0_0 l0_0.length c0_0]) (t := 29) ?hr ?_; (case hd => rfl); (case hg => rfl); (case hr => first | (go_simp; done) | (go_simp; rfl)); intro gt hg w1 hbox hb; have HX := Aside0.mk (show BoxW w w1 gt A0_0 l0_0.length c0_0 from ⟨hbox, hb, by rw [hg]; exact Nat.le_refl _⟩); have hcb := HX.out.cell; clear hbox hb hg)
   | (go_at_call 40; (with_reducible refine (impl_inRange.calls _ _ _ true _ A1.out).mono ?_); rintro e w' ⟨rfl, ⟨nd, rfl⟩⟩; have HX2 := Aside0.mk (HX.out.drewN nd); clear HX))
  go_loopg [13] k (fun kq v13 w' => ∃ (i : Int), v13 = .int .i64 i ∧ Aside0 (impl_TreeOk.l0 kq i l0_0 = some r) ∧ Aside0 (kq ≤ k) ∧ Aside0 (BoxW w w' gt A0_0 l0_0.length c0_0))
  case atStart => exact ⟨0, rfl, HA, ⟨Nat.le_refl _⟩, HX2⟩
  case round =>
   clear HA HX2 hcb
   obtain ⟨i, rfl, HA, HK, HX⟩ := hrel
   cases gk with
   | zero => exact absurd HA.out (by simp [impl_TreeOk.l0])
   | succ k1 =>
    have H := HA.out
    clear HA
    simp only [impl_TreeOk.l0] at H
    by_cases c1 : i < (l0_0.length : Int)
    · rw [if_pos c1] at H
      by_cases c2 : 0 ≤ i
      · rw [if_pos c2] at H
        obtain ⟨t, A2, H⟩ := Option.bind_eq_some_iff.mp H
        replace A2 := Aside0.mk A2
        have c1b : decide (i < (l0_0.length : Int)) = true := decide_eq_true c1
        obtain ⟨ad, A_2, c_2, A_5, c_5, e1, hx0, hx1, hx2, hx3, hx4, hx5, hl2, hi2, hl5, hi5⟩ := at_T45 HC.out i c2 c1
        subst e1
        replace hx0 := pw_cell_below HX.out.low hx0
        replace hx1 := pw_cell_below HX.out.low hx1
        replace hx2 := pw_cell_below HX.out.low hx2
        replace hx3 := pw_cell_below HX.out.low hx3
        replace hx4 := pw_cell_below HX.out.low hx4
        replace hx5 := pw_cell_below HX.out.low hx5
        have HI2 := Aside0.mk hi2
        have HI5 := Aside0.mk hi5
        have HL2 := Aside0.mk hl2
        have HL5 := Aside0.mk hl5
        clear hl2 hi2 hl5 hi5
        replace c2 := eq_true c2
        replace c1 := eq_true c1
        go_upto_region 6 with (first | ((with_reducible refine gate_dst (N := 4) rfl ?_); refine box_event ?hg (N := 4) ?hd (cs := #[.int .i64 0, .string (⟨#[]⟩ : ByteArray), .slice none 0 0, .string (⟨#[]⟩ : ByteArray), .int .i64 0, .slice none 0 0]) (t := 45) ?hr ?_; (case hd => rfl); (case hg => rfl); (case hr => first | (go_simp; done) | (go_simp; rfl)); intro gb hg w2 hbox hb; have HNE := Aside0.mk (show gb ≠ gt by have := blk_lt HX.out.blk; omega); have HX2 := Aside0.mk (HX.out.below hb); have HGB := Aside0.mk (show w.heap.size ≤ gb by rw [hg]; exact below_size HX.out.low); have HBX := Aside0.mk hbox; have hz0 := blk_cell hbox 0; have hz1 := blk_cell hbox 1; have hz2 := blk_cell hbox 2; have hz3 := blk_cell hbox 3; have hz4 := blk_cell hbox 4; have hz5 := blk_cell hbox 5; have hf := blk_frozen hbox; clear hbox hb hg HX))
        have HB6 := Aside0.mk (fillN_blk (rd_T45 l0_0 i) (.slice A_2 (rd_T45 l0_0 i).f2.length c_2) (.slice A_5 (rd_T45 l0_0 i).f5.length c_5) HBX.out)
        have HX := Aside0.mk (HX2.out.fill HGB.out HNE.out (rd_T45 l0_0 i) (.slice A_2 (rd_T45 l0_0 i).f2.length c_2) (.slice A_5 (rd_T45 l0_0 i).f5.length c_5))
        show Code.wp _ _ _ _ (fillN w2 gb (rd_T45 l0_0 i) (.slice A_2 (rd_T45 l0_0 i).f2.length c_2) (.slice A_5 (rd_T45 l0_0 i).f5.length c_5))
        generalize fillN w2 gb (rd_T45 l0_0 i) (.slice A_2 (rd_T45 l0_0 i).f2.length c_2) (.slice A_5 (rd_T45 l0_0 i).f5.length c_5) = w3 at HB6 HX ⊢
        clear hz0 hz1 hz2 hz3 hz4 hz5 hf HBX HX2 hx0 hx1 hx2 hx3 hx4 hx5 HNE HGB
        have hz0 := blk_cell HB6.out 0
        have hz1 := blk_cell HB6.out 1
        have hz2 := blk_cell HB6.out 2
        have hz3 := blk_cell HB6.out 3
        have hz4 := blk_cell HB6.out 4
        have hz5 := blk_cell HB6.out 5
        have HJ2 := Aside0.mk (Kd.C_below HI2.out HX.out.low)
        have HJ5 := Aside0.mk (Kd.C_below HI5.out HX.out.low)
        cases t with
        | true =>
         rw [if_pos rfl] at H
         have HA := Aside0.mk H
         clear H
         go_wp2_with (first | (go_at_call 41; (with_reducible refine (impl_nodeOk.calls k1 _ _ _ _ _ _ _ _ _ _ i true _ HJ2.out HL2.out HJ5.out HL5.out A2.out).mono ?_); rintro e w4 ⟨rfl, hb⟩; have HX3 := Aside0.mk (HX.out.below hb); clear hb HX))
         go_roundg k1
         case measure => have := HK.out; omega
         case rel => exact ⟨_, rfl, HA, ⟨by have := HK.out; omega⟩, HX3⟩
        | false =>
         rw [if_neg (by decide)] at H
         obtain rfl := Option.some.inj H
         clear H
         go_wp2_with (first | (go_at_call 41; (with_reducible refine (impl_nodeOk.calls k1 _ _ _ _ _ _ _ _ _ _ i false _ HJ2.out HL2.out HJ5.out HL5.out A2.out).mono ?_); rintro e w4 ⟨rfl, hb⟩; have HX3 := Aside0.mk (HX.out.below hb); clear hb HX))
         go_ret
         exact ⟨rfl, HX3.out.low⟩
      · rw [if_neg c2] at H; cases H
    · rw [if_neg c1] at H
      have HA := Aside0.mk H
      clear H
      have c1b : decide (i < (l0_0.length : Int)) = false := decide_eq_false c1
      clear c1
      have HIS := Aside0.mk (show IsS29 w wr gt l0_0 from ⟨A0_0, c0_0, HX.out.blk, HX.out.ge, HC.out⟩)
      have hcb := HX.out.cell
      have HLO := Aside0.mk HX.out.low
      go_wp2_with (first | (go_at_call 42; (with_reducible refine (impl_Tree_linksOk.calls k1 gt l0_0 r w _ HIS.out HLO.out HA.out).mono ?_); rintro e w4 ⟨rfl, _, hb, _⟩))
      go_ret
      exact ⟨rfl, hb⟩
def impl_Attr_97.f (l0 : List S98) : Option (List S98) := if l0.length < 4398046511104 then some l0 else none
set_option maxHeartbeats 8000000 in
set_option maxRecDepth 100000 in
theorem impl_Attr_97.calls (A0 : Option Addr) (c0 : Nat) (l0 : List S98) (r : List S98) (w : World) (hr0 : Kd.C k98 w A0 l0.length l0) (hc0 : l0.length ≤ c0) (h : impl_Attr_97.f l0 = some r) :
 Calls Try.prog 97 #[.slice A0 l0.length c0] w fun e w' => ∃ v0_ : Value, e = .returned (v0_) ∧ Kd.R k98 98 w' w.heap.size (fun _ => True) v0_ r ∧ Below w.heap.size w w' := by
 have HR0 := Aside0.mk hr0
 have HC0 := Aside0.mk hc0
 clear hr0 hc0
 unfold impl_Attr_97.f at h
 have hl : l0.length < 4398046511104 := by
  by_cases g : l0.length < 4398046511104
  · exact g
  · rw [if_neg g] at h; cases h
 rw [if_pos hl] at h
 have e_ := Option.some.inj h
 clear h
 subst e_
 have LM := Aside0.mk hl
 clear hl
 have HB := Aside0.mk (Below.refl w.heap.size w)
 have q22 : ∀ (W : World) (a : Option Addr) (n c n' c' : Nat), (binOp .eql 43 (.slice a n c) (.slice none n' c')).run Try.prog W = .ok (.bool a.isNone) W := fun W a n c n' c' => Lib.run_eql_slice_nil W _ _ a n c n' c' Try.underlying43
 cases A0 with
 | none =>
  have h0 : l0 = [] := by
   cases l0 with
   | nil => rfl
   | cons x xs =>
    obtain ⟨ad, h1, _⟩ := HR0.out.2.2 (by simp)
    cases h1
  subst h0
  go_enter Try.func97, Try.ntmps97
  go_wp2
  go_ret
  exact ⟨_, rfl, Kd.R_nil _ _ _ _ _, Below.refl _ _⟩
 | some ad =>
  go_enter Try.func97, Try.ntmps97
  go_wp2_with (first | ((with_reducible refine gate_dst (N := 5) rfl ?_); refine Kd.R_lit k98 w.heap.size 98 ?hg (N := 5) ?hd (xs := ([] : List S98)) (inner := []) (ok := fun _ => True) (okp := fun _ => True) ?hr ?hp (fun _ hk => hk) trivial HB.out (Nat.le_refl _) (by simp) ?_; (case hd => rfl); (case hg => rfl); (case hr => first | (go_simp; done) | (go_simp; rfl)); (case hp => exact (Reps.none _ _)); intro v1 w1 ho1 hb1 hg1 hn1; have HO1 := Aside0.mk ho1; have n_ := Aside0.mk hb1; clear HB; have HB := n_; clear n_ ho1 hb1 hg1 hn1) | (at_builtin; refine Kd.R_append_rows k98 (w0 := w) w.heap.size rfl (.tmp 5) (.tmp 6) 43 98 (.agg #[(.string ⟨#[]⟩), (.string ⟨#[]⟩)]) 32 rfl Try.underlying43 info98 rfl (by decide) (by omega) v1 ([] : List S98) l0 _ _ _ (fun _ => True) (fun _ => False) rfl rfl ?aO ?aR (fun _ _ h => h) (fun _ h => h.elim) ?aF ?aB ?aS ?aL ?_; (case aR => repeat (first | exact (Kd.C_below HR0.out HB.out) | (with_reducible refine Kd.C_alloc ?_ _) | (with_reducible refine Kd.C_drewN ?_ _) | (with_reducible refine Kd.C_drew ?_))); (case aB => exact HB.out); (case aF => exact (fun _ _ => trivial)); (case aO => exact HO1.out); (case aS => exact (below_size HB.out)); (case aL => have := LM.out; simp only [List.length_nil]; omega); intro v2 w2 ho2 hb2 hg2 hat2; have HO2 := Aside0.mk ho2; have n_ := Aside0.mk hb2; clear HB; have HB := n_; clear n_ ho2 hb2 hg2 hat2))
  go_ret
  exact ⟨_, rfl, by simpa using HO2.out, HB.out⟩
def slices_Clone_int_int.f (l0 : List Int) : Option (List Int) := if l0.length < 17592186044416 then some l0 else none
set_option maxHeartbeats 8000000 in
set_option maxRecDepth 100000 in
theorem slices_Clone_int_int.calls (A0 : Option Addr) (c0 : Nat) (l0 : List Int) (r : List Int) (w : World) (hr0 : Kd.C (Kd.int .i64) w A0 l0.length l0) (hc0 : l0.length ≤ c0) (h : slices_Clone_int_int.f l0 = some r) :
 Calls Try.prog 116 #[.slice A0 l0.length c0] w fun e w' => ∃ v0_ : Value, e = .returned (v0_) ∧ Kd.R (Kd.int .i64) 3 w' w.heap.size (fun _ => True) v0_ r ∧ Below w.heap.size w w' := by
 have HR0 := Aside0.mk hr0
 have HC0 := Aside0.mk hc0
 clear hr0 hc0
 unfold slices_Clone_int_int.f at h
 have hl : l0.length < 17592186044416 := by
  by_cases g : l0.length < 17592186044416
  · exact g
  · rw [if_neg g] at h; cases h
 rw [if_pos hl] at h
 have e_ := Option.some.inj h
 clear h
 subst e_
 have LM := Aside0.mk hl
 clear hl
 have HB := Aside0.mk (Below.refl w.heap.size w)
 have q22 : ∀ (W : World) (a : Option Addr) (n c n' c' : Nat), (binOp .eql 37 (.slice a n c) (.slice none n' c')).run Try.prog W = .ok (.bool a.isNone) W := fun W a n c n' c' => Lib.run_eql_slice_nil W _ _ a n c n' c' Try.underlying37
 cases A0 with
 | none =>
  have h0 : l0 = [] := by
   cases l0 with
   | nil => rfl
   | cons x xs =>
    obtain ⟨ad, h1, _⟩ := HR0.out.2.2 (by simp)
    cases h1
  subst h0
  go_enter Try.func116, Try.ntmps116
  go_wp2
  go_ret
  exact ⟨_, rfl, Kd.R_nil _ _ _ _ _, Below.refl _ _⟩
 | some ad =>
  go_enter Try.func116, Try.ntmps116
  go_wp2_with (first | ((with_reducible refine gate_dst (N := 5) rfl ?_); refine Kd.R_lit (Kd.int .i64) w.heap.size 3 ?hg (N := 5) ?hd (xs := ([] : List Int)) (inner := []) (ok := fun _ => True) (okp := fun _ => True) ?hr ?hp (fun _ hk => hk) trivial HB.out (Nat.le_refl _) (by simp) ?_; (case hd => rfl); (case hg => rfl); (case hr => first | (go_simp; done) | (go_simp; rfl)); (case hp => exact (Reps.none _ _)); intro v1 w1 ho1 hb1 hg1 hn1; have HO1 := Aside0.mk ho1; have n_ := Aside0.mk hb1; clear HB; have HB := n_; clear n_ ho1 hb1 hg1 hn1) | (at_builtin; refine Kd.R_append_rows (Kd.int .i64) (w0 := w) w.heap.size rfl (.tmp 5) (.tmp 6) 37 3 (.int .i64 0) 8 rfl Try.underlying37 info3 rfl (by decide) (by omega) v1 ([] : List Int) l0 _ _ _ (fun _ => True) (fun _ => False) rfl rfl ?aO ?aR (fun _ _ h => h) (fun _ h => h.elim) ?aF ?aB ?aS ?aL ?_; (case aR => repeat (first | exact (Kd.C_below HR0.out HB.out) | (with_reducible refine Kd.C_alloc ?_ _) | (with_reducible refine Kd.C_drewN ?_ _) | (with_reducible refine Kd.C_drew ?_))); (case aB => exact HB.out); (case aF => exact (fun _ _ => trivial)); (case aO => exact HO1.out); (case aS => exact (below_size HB.out)); (case aL => have := LM.out; simp only [List.length_nil]; omega); intro v2 w2 ho2 hb2 hg2 hat2; have HO2 := Aside0.mk ho2; have n_ := Aside0.mk hb2; clear HB; have HB := n_; clear n_ ho2 hb2 hg2 hat2))
  go_ret
  exact ⟨_, rfl, by simpa using HO2.out, HB.out⟩
def impl_copyNode.f (a0_0 : Int) (a0_1 : ByteArray) (l0_2 : List (S98)) (a0_3 : ByteArray) (a0_4 : Int) (l0_5 : List Int) : Option (Int × ByteArray × (List (S98)) × ByteArray × Int × List Int) := (impl_Attr_97.f l0_2).bind fun t103 => ((slices_Clone_int_int.f l0_5).bind fun t106 => (some (a0_0, a0_1, t103, a0_3, a0_4, t106)))
set_option maxHeartbeats 8000000 in
set_option maxRecDepth 100000 in
theorem impl_copyNode.calls (a0_0 : Int) (a0_1 : ByteArray) (A0_2 : Option Addr) (c0_2 : Nat) (l0_2 : List (S98)) (a0_3 : ByteArray) (a0_4 : Int) (A0_5 : Option Addr) (c0_5 : Nat) (l0_5 : List Int) (r1 : Int) (r2 : ByteArray) (r3 : List (S98)) (r4 : ByteArray) (r5 : Int) (r6 : List Int) (w : World) (hr0_2 : Kd.C k98 w A0_2 l0_2.length l0_2) (hc0_2 : l0_2.length ≤ c0_2) (hr0_5 : Kd.C (Kd.int .i64) w A0_5 l0_5.length l0_5) (hc0_5 : l0_5.length ≤ c0_5) (h : impl_copyNode.f a0_0 a0_1 l0_2 a0_3 a0_4 l0_5 = some (r1, r2, r3, r4, r5, r6)) :
 Calls Try.prog 91 #[.agg #[.int .i64 a0_0, .string a0_1, .slice A0_2 l0_2.length c0_2, .string a0_3, .int .i64 a0_4, .slice A0_5 l0_5.length c0_5]] w fun e w' => ∃ v2_ v5_ : Value, e = .returned (.agg #[.int .i64 r1, .string r2, v2_, .string r4, .int .i64 r5, v5_]) ∧ Kd.R k98 98 w' w.heap.size (fun _ => True) v2_ r3 ∧ Kd.R (Kd.int .i64) 3 w' w.heap.size (fun _ => True) v5_ r6 ∧ Below w.heap.size w w' := by
 have hu45 := Try.underlying45
 have HR0_2 := Aside0.mk hr0_2
 have HC0_2 := Aside0.mk hc0_2
 clear hr0_2 hc0_2
 have HR0_5 := Aside0.mk hr0_5
 have HC0_5 := Aside0.mk hc0_5
 clear hr0_5 hc0_5
 have HB := Aside0.mk (Below.refl w.heap.size w)
 have H : ((impl_Attr_97.f l0_2).bind fun t103 => ((slices_Clone_int_int.f l0_5).bind fun t106 => (some (a0_0, a0_1, t103, a0_3, a0_4, t106)))) = some (r1, r2, r3, r4, r5, r6) := h
 clear h
 replace H := Option.bind_eq_some_iff.mp H
 obtain ⟨t103, A20, H⟩ := H
 replace H : ((slices_Clone_int_int.f l0_5).bind fun t106 => (some (a0_0, a0_1, t103, a0_3, a0_4, t106))) = some (r1, r2, r3, r4, r5, r6) := H
 have A2 := Aside0.mk A20
 clear A20
 replace H := Option.bind_eq_some_iff.mp H
 obtain ⟨t106, A30, H⟩ := H
 replace H : (some (a0_0, a0_1, t103, a0_3, a0_4, t106)) = some (r1, r2, r3, r4, r5, r6) := H
 have A3 := Aside0.mk A30
 clear A30
 simp only [Option.some.injEq, Prod.mk.injEq] at H
 obtain ⟨rfl, rfl, rfl, rfl, rfl, rfl⟩ := H
 go_enter Try.func91, Try.ntmps91
 go_wp2_with (first | ((with_reducible refine gate_dst (N := 1) rfl ?_); refine box_event ?hg (N := 1) ?hd (cs := #[.int .i64 a0_0, .string a0_1, .slice A0_2 l0_2.length c0_2, .string a0_3, .int .i64 a0_4, .slice A0_5 l0_5.length c0_5]) (t := 45) ?hr ?_; (case hd => rfl); (case hg => rfl); (case hr => go_simp); intro gb101 hg w4 hbox hb; have n0_ := Aside0.mk (below_step (by repeat (first | (with_reducible first | exact HB.out | apply below_alloc | apply pw_below_drewN | apply below_drew1) | exact HB.out)) hb); have n1_ := Aside0.mk (hbox); have n2_ := Aside0.mk ((by rw [hg]; exact (below_size (by repeat (first | (with_reducible first | exact HB.out | apply below_alloc | apply pw_below_drewN | apply below_drew1) | exact HB.out))) : w.heap.size ≤ gb101)); have n3_ := n2_; clear HB; have HB := n0_; have BK101 := n1_; have GW101 := n2_; have GE101 := n3_; clear n0_ n1_ n2_ n3_; clear hb hbox hg) | ((with_reducible refine gate_dst (N := 2) rfl ?_); refine box_event ?hg (N := 2) ?hd (cs := #[.int .i64 0, .string (⟨#[]⟩ : ByteArray), .slice none 0 0, .string (⟨#[]⟩ : ByteArray), .int .i64 0, .slice none 0 0]) (t := 45) ?hr ?_; (case hd => rfl); (case hg => rfl); (case hr => go_simp); intro gb102 hg w5 hbox hb; have n0_ := Aside0.mk (blk_below BK101.out hb); have n1_ := Aside0.mk (below_step (by repeat (first | (with_reducible first | exact HB.out | apply below_alloc | apply pw_below_drewN | apply below_drew1 | refine below_set ?_ GE101.out) | exact HB.out)) hb); have n2_ := Aside0.mk (hbox); have n3_ := Aside0.mk ((by rw [hg]; exact (below_size (by repeat (first | (with_reducible first | exact HB.out | apply below_alloc | apply pw_below_drewN | apply below_drew1 | refine below_set ?_ GE101.out) | exact HB.out))) : w.heap.size ≤ gb102)); have n4_ := n3_; have n5_ := Aside0.mk ((by rw [hg]; exact Nat.ne_of_lt (blk_lt BK101.out) : gb101 ≠ gb102)); have n6_ := Aside0.mk (Ne.symm n5_.out); clear BK101; clear HB; have BK101 := n0_; have HB := n1_; have BK102 := n2_; have GW102 := n3_; have GE102 := n4_; have NB101_102 := n5_; have NB102_101 := n6_; clear n0_ n1_ n2_ n3_ n4_ n5_ n6_; clear hb hbox hg; have hnb6 := NB101_102.out; have hnc6 := NB102_101.out; have hcz7_0 := blk_cell BK101.out 0; have hcz7_1 := blk_cell BK101.out 1; have hcz7_2 := blk_cell BK101.out 2; have hcz7_3 := blk_cell BK101.out 3; have hcz7_4 := blk_cell BK101.out 4; have hcz7_5 := blk_cell BK101.out 5; have hfz7_0 := blk_frozen BK101.out 0; have hfz7_1 := blk_frozen BK101.out 1; have hfz7_2 := blk_frozen BK101.out 2; have hfz7_3 := blk_frozen BK101.out 3; have hfz7_4 := blk_frozen BK101.out 4; have hfz7_5 := blk_frozen BK101.out 5) | ((with_reducible refine gate_callee (f := 97) rfl ?_); refine goesL_ (some 5) rfl rfl Try.func97 (by kernel_rfl) rfl #[.slice A0_2 l0_2.length c0_2] rfl (by (try simp only [List.map_toArray, List.map_cons, List.map_nil]); first | done | rfl | (simp only [List.length_drop, List.length_take]; rfl)) ?_; (with_reducible refine (impl_Attr_97.calls _ _ l0_2 t103 _ ?side1 ?side2 A2.out).mono ?_); (case side1 => exact (Kd.C_below HR0_2.out HB.out)); (case side2 => exact HC0_2.out); rintro e w8 ⟨v104, rfl, ho0, hb⟩; refine ⟨_, rfl, ?_⟩; have n0_ := Aside0.mk (Kd.R_lower ho0 (below_size (by repeat (first | (with_reducible first | exact HB.out | apply below_alloc | apply pw_below_drewN | apply below_drew1 | refine below_set ?_ GE101.out | refine below_set ?_ GE102.out) | exact HB.out)))); have n1_ := Aside0.mk (blk_below BK101.out hb); have n2_ := Aside0.mk (blk_below BK102.out hb); have n3_ := Aside0.mk (below_step (by repeat (first | (with_reducible first | exact HB.out | apply below_alloc | apply pw_below_drewN | apply below_drew1 | refine below_set ?_ GE101.out | refine below_set ?_ GE102.out) | exact HB.out)) hb); clear BK101; clear BK102; clear HB; have HO105 := n0_; have BK101 := n1_; have BK102 := n2_; have HB := n3_; clear n0_ n1_ n2_ n3_; (try clear hb); (try clear ho0); obtain ⟨Ao9, co9, eo9⟩ := Kd.R_slice HO105.out; subst eo9; have hcz10_0 := blk_cell BK101.out 0; have hcz10_1 := blk_cell BK101.out 1; have hcz10_2 := blk_cell BK101.out 2; have hcz10_3 := blk_cell BK101.out 3; have hcz10_4 := blk_cell BK101.out 4; have hcz10_5 := blk_cell BK101.out 5; have hfz10_0 := blk_frozen BK101.out 0; have hfz10_1 := blk_frozen BK101.out 1; have hfz10_2 := blk_frozen BK101.out 2; have hfz10_3 := blk_frozen BK101.out 3; have hfz10_4 := blk_frozen BK101.out 4; have hfz10_5 := blk_frozen BK101.out 5) | ((with_reducible refine gate_callee (f := 116) rfl ?_); refine goesL_ (some 9) rfl rfl Try.func116 (by kernel_rfl) rfl #[.slice A0_5 l0_5.length c0_5] rfl (by (try simp only [List.map_toArray, List.map_cons, List.map_nil]); first | done | rfl | (simp only [List.length_drop, List.length_take]; rfl)) ?_; (with_reducible refine (slices_Clone_int_int.calls _ _ l0_5 t106 _ ?side1 ?side2 A3.out).mono ?_); (case side1 => exact Kd.C_below HR0_5.out (by repeat (first | (with_reducible first | exact HB.out | apply below_alloc | apply pw_below_drewN | apply below_drew1 | refine below_set ?_ GE101.out | refine below_set ?_ GE102.out) | exact HB.out))); (case side2 => exact HC0_5.out); rintro e w11 ⟨v107, rfl, ho0, hb⟩; refine ⟨_, rfl, ?_⟩; have n0_ := Aside0.mk (Kd.R_below (by (with_reducible repeat (first | apply Kd.R_alloc | apply Kd.R_drewN | apply Kd.R_drew)); exact (Kd.R_mono (Kd.R_far (p := ⟨gb101, 2, none⟩) (Kd.R_types HO105.out BK101.out (by decide)) (fun _ hk => hk.2) (.slice Ao9 t103.length co9)) (fun _ h_ => h_.1))) hb); have n1_ := Aside0.mk (Kd.R_lower ho0 (below_size (by repeat (first | (with_reducible first | exact HB.out | apply below_alloc | apply pw_below_drewN | apply below_drew1 | refine below_set ?_ GE101.out | refine below_set ?_ GE102.out) | exact HB.out)))); have n2_ := Aside0.mk (blk_below (g := gb101) (o := .cells #[.int .i64 a0_0, .string a0_1, .slice Ao9 t103.length co9, .string a0_3, .int .i64 a0_4, .slice A0_5 l0_5.length c0_5] 45 (0, 0)) (by (with_reducible repeat (first | refine blk_drewN ?_ _ | refine blk_drew ?_ | refine blk_alloc ?_ _)); refine blk_put (cs := #[.int .i64 a0_0, .string a0_1, .slice A0_2 l0_2.length c0_2, .string a0_3, .int .i64 a0_4, .slice A0_5 l0_5.length c0_5]) ?_ 2 _ rfl; (with_reducible repeat (first | refine blk_drewN ?_ _ | refine blk_drew ?_ | refine blk_alloc ?_ _)); exact BK101.out) hb); have n3_ := Aside0.mk (blk_below (g := gb102) (o := .cells #[.int .i64 0, .string (⟨#[]⟩ : ByteArray), .slice none 0 0, .string (⟨#[]⟩ : ByteArray), .int .i64 0, .slice none 0 0] 45 (0, 0)) (by (with_reducible repeat (first | refine blk_drewN ?_ _ | refine blk_drew ?_ | refine blk_alloc ?_ _)); refine blk_far ?_ NB102_101.out _; (with_reducible repeat (first | refine blk_drewN ?_ _ | refine blk_drew ?_ | refine blk_alloc ?_ _)); exact BK102.out) hb); have n4_ := Aside0.mk (below_step (by repeat (first | (with_reducible first | exact HB.out | apply below_alloc | apply pw_below_drewN | apply below_drew1 | refine below_set ?_ GE101.out | refine below_set ?_ GE102.out) | exact HB.out)) hb); clear HO105; clear BK101; clear BK102; clear HB; have HO105 := n0_; have HO108 := n1_; have BK101 := n2_; have BK102 := n3_; have HB := n4_; clear n0_ n1_ n2_ n3_ n4_; (try clear hb); (try clear ho0); obtain ⟨Ao12, co12, eo12⟩ := Kd.R_slice HO108.out; subst eo12; have hcz13_0 := blk_cell BK101.out 0; have hcz13_1 := blk_cell BK101.out 1; have hcz13_2 := blk_cell BK101.out 2; have hcz13_3 := blk_cell BK101.out 3; have hcz13_4 := blk_cell BK101.out 4; have hcz13_5 := blk_cell BK101.out 5; have hfz13_0 := blk_frozen BK101.out 0; have hfz13_1 := blk_frozen BK101.out 1; have hfz13_2 := blk_frozen BK101.out 2; have hfz13_3 := blk_frozen BK101.out 3; have hfz13_4 := blk_frozen BK101.out 4; have hfz13_5 := blk_frozen BK101.out 5; have hcz14_0 := blk_cell BK102.out 0; have hcz14_1 := blk_cell BK102.out 1; have hcz14_2 := blk_cell BK102.out 2; have hcz14_3 := blk_cell BK102.out 3; have hcz14_4 := blk_cell BK102.out 4; have hcz14_5 := blk_cell BK102.out 5; have hfz14_0 := blk_frozen BK102.out 0; have hfz14_1 := blk_frozen BK102.out 1; have hfz14_2 := blk_frozen BK102.out 2; have hfz14_3 := blk_frozen BK102.out 3; have hfz14_4 := blk_frozen BK102.out 4; have hfz14_5 := blk_frozen BK102.out 5))
 refine bodyPost_ret (results_cell_row rfl _ _ gb102 45 #[.int .i64 a0_0, .string a0_1, .slice Ao9 t103.length co9, .string a0_3, .int .i64 a0_4, .slice Ao12 t106.length co12] (0, 0) _ rfl (by (with_reducible repeat (first | refine blk_drewN ?_ _ | refine blk_drew ?_ | refine blk_alloc ?_ _)); refine blk_put (cs := #[.int .i64 a0_0, .string a0_1, .slice Ao9 t103.length co9, .string a0_3, .int .i64 a0_4, .slice none 0 0]) ?_ 5 _ rfl; (with_reducible repeat (first | refine blk_drewN ?_ _ | refine blk_drew ?_ | refine blk_alloc ?_ _)); refine blk_put (cs := #[.int .i64 a0_0, .string a0_1, .slice Ao9 t103.length co9, .string a0_3, .int .i64 0, .slice none 0 0]) ?_ 4 _ rfl; (with_reducible repeat (first | refine blk_drewN ?_ _ | refine blk_drew ?_ | refine blk_alloc ?_ _)); refine blk_put (cs := #[.int .i64 a0_0, .string a0_1, .slice Ao9 t103.length co9, .string (⟨#[]⟩ : ByteArray), .int .i64 0, .slice none 0 0]) ?_ 3 _ rfl; (with_reducible repeat (first | refine blk_drewN ?_ _ | refine blk_drew ?_ | refine blk_alloc ?_ _)); refine blk_put (cs := #[.int .i64 a0_0, .string a0_1, .slice none 0 0, .string (⟨#[]⟩ : ByteArray), .int .i64 0, .slice none 0 0]) ?_ 2 _ rfl; (with_reducible repeat (first | refine blk_drewN ?_ _ | refine blk_drew ?_ | refine blk_alloc ?_ _)); refine blk_put (cs := #[.int .i64 a0_0, .string (⟨#[]⟩ : ByteArray), .slice none 0 0, .string (⟨#[]⟩ : ByteArray), .int .i64 0, .slice none 0 0]) ?_ 1 _ rfl; (with_reducible repeat (first | refine blk_drewN ?_ _ | refine blk_drew ?_ | refine blk_alloc ?_ _)); refine blk_put (cs := #[.int .i64 0, .string (⟨#[]⟩ : ByteArray), .slice none 0 0, .string (⟨#[]⟩ : ByteArray), .int .i64 0, .slice none 0 0]) ?_ 0 _ rfl; (with_reducible repeat (first | refine blk_drewN ?_ _ | refine blk_drew ?_ | refine blk_alloc ?_ _)); refine blk_far ?_ NB102_101.out _; (with_reducible repeat (first | refine blk_drewN ?_ _ | refine blk_drew ?_ | refine blk_alloc ?_ _)); exact BK102.out) Try.underlying45 rfl (by kernel_rfl)) rfl ?_
 exact ⟨_, _, by first | rfl | (simp [*] <;> rfl), by (with_reducible repeat (first | apply Kd.R_alloc | apply Kd.R_drewN | apply Kd.R_drew)); exact Kd.R_mono (Kd.R_far (p := ⟨gb102, 5, none⟩) (Kd.R_far (p := ⟨gb102, 4, none⟩) (Kd.R_far (p := ⟨gb102, 3, none⟩) (Kd.R_far (p := ⟨gb102, 2, none⟩) (Kd.R_far (p := ⟨gb102, 1, none⟩) (Kd.R_far (p := ⟨gb102, 0, none⟩) (Kd.R_far (p := ⟨gb101, 5, none⟩) (Kd.R_types (Kd.R_types HO105.out BK101.out (by decide)) BK102.out (by decide)) (fun _ hk => hk.1.2) (.slice Ao12 t106.length co12)) (fun _ hk => hk.2) (.int .i64 a0_0)) (fun _ hk => hk.2) (.string a0_1)) (fun _ hk => hk.2) (.slice Ao9 t103.length co9)) (fun _ hk => hk.2) (.string a0_3)) (fun _ hk => hk.2) (.int .i64 a0_4)) (fun _ hk => hk.2) (.slice Ao12 t106.length co12)) (fun _ hk => trivial), by (with_reducible repeat (first | apply Kd.R_alloc | apply Kd.R_drewN | apply Kd.R_drew)); exact Kd.R_mono (Kd.R_far (p := ⟨gb102, 5, none⟩) (Kd.R_far (p := ⟨gb102, 4, none⟩) (Kd.R_far (p := ⟨gb102, 3, none⟩) (Kd.R_far (p := ⟨gb102, 2, none⟩) (Kd.R_far (p := ⟨gb102, 1, none⟩) (Kd.R_far (p := ⟨gb102, 0, none⟩) (Kd.R_far (p := ⟨gb101, 5, none⟩) (Kd.R_types (Kd.R_types HO108.out BK101.out (by decide)) BK102.out (by decide)) (fun _ hk => hk.1.2) (.slice Ao12 t106.length co12)) (fun _ hk => hk.2) (.int .i64 a0_0)) (fun _ hk => hk.2) (.string a0_1)) (fun _ hk => hk.2) (.slice Ao9 t103.length co9)) (fun _ hk => hk.2) (.string a0_3)) (fun _ hk => hk.2) (.int .i64 a0_4)) (fun _ hk => hk.2) (.slice Ao12 t106.length co12)) (fun _ hk => trivial), by repeat (first | (with_reducible first | exact HB.out | apply below_alloc | apply pw_below_drewN | apply below_drew1 | refine below_set ?_ GE101.out | refine below_set ?_ GE102.out) | exact HB.out)⟩
def impl_copyTree.l0 : Nat → Int → List S45 → List S45 → Option (List S45)
 | 0, _, _, _ => none
 | k + 1, j, xs, outs => if j < (xs.length : Int) then (if 0 ≤ j then (impl_copyNode.f (rd_T45 xs j).f0 (rd_T45 xs j).f1 (rd_T45 xs j).f2 (rd_T45 xs j).f3 (rd_T45 xs j).f4 (rd_T45 xs j).f5).bind fun b => if outs.length < 1000000 then impl_copyTree.l0 k (wrap64 (j + 1)) xs (outs ++ [⟨b.1, b.2.1, b.2.2.1, b.2.2.2.1, b.2.2.2.2.1, b.2.2.2.2.2⟩]) else none else none) else some outs
def impl_copyTree.f (k : Nat) (l0_0 : List S45) : Option (List S45) := impl_copyTree.l0 k 0 l0_0 []
theorem impl_copyTree.mono_l : ∀ k, (∀ y0 y1 y2, LeO (impl_copyTree.l0 k y0 y1 y2) (impl_copyTree.l0 (k + 1) y0 y1 y2))
 | 0 => fun _ _ _ r h => by simp [impl_copyTree.l0] at h
 | k + 1 => by
  have ih := impl_copyTree.mono_l k
  intro y0 y1 y2
  rw [impl_copyTree.l0, impl_copyTree.l0]
  exact LeO.ite (LeO.ite (LeO.bind (LeO.refl _) (fun _ => LeO.ite (ih _ _ _) (LeO.refl _))) (LeO.refl _)) (LeO.refl _)
theorem impl_copyTree.mono : ∀ a0 k, LeO (impl_copyTree.f k a0) (impl_copyTree.f (k + 1) a0) := fun _ k => impl_copyTree.mono_l k _ _ _
set_option maxHeartbeats 8000000 in
set_option maxRecDepth 100000 in
theorem impl_copyTree.calls (k : Nat) (A0 : Option Addr) (c0 : Nat) (xs : List S45) (r : List S45) (w : World) (hr0_0 : Kd.C k45 w A0 xs.length xs) (hc0_0 : xs.length ≤ c0) (h : impl_copyTree.f k xs = some r) :
 Calls Try.prog 56 #[.agg #[.slice A0 xs.length c0]] w fun e w' => ∃ v0_ : Value, e = .returned (.agg #[v0_]) ∧ Kd.S k45 45 w' w.heap.size (fun _ => True) v0_ r ∧ Below w.heap.size w w' := by
 have HA := Aside0.mk h
 have HC := Aside0.mk hr0_0
 clear h hr0_0 hc0_0
 go_enter Try.func56, Try.ntmps56
 go_wp2_with (first | ((with_reducible refine gate_dst (N := 1) rfl ?_); refine box_event ?hg (N := 1) ?hd (cs := #[.slice A0 xs.length c0]) (t := 29) ?hr ?_; (case hd => rfl); (case hg => rfl); (case hr => first | (go_simp; done) | (go_simp; rfl)); intro gt hg w1 hbox hb; have HT := Aside0.mk hbox; have HL := Aside0.mk hb; clear hbox hb hg) | ((with_reducible refine gate_dst (N := 2) rfl ?_); refine box_event ?hg (N := 2) ?hd (cs := #[.slice none 0 0]) (t := 29) ?hr ?_; (case hd => rfl); (case hg => rfl); (case hr => first | (go_simp; done) | (go_simp; rfl)); intro gr hg w2 hbox hb; have HT2 := Aside0.mk (blk_below HT.out hb); have HR := Aside0.mk hbox; have HL2 := Aside0.mk (below_step HL.out hb); have HGR := Aside0.mk (show w.heap.size ≤ gr by rw [hg]; exact HL.out.size); clear hbox hb hg) | ((with_reducible refine gate_dst (N := 3) rfl ?_); refine box_event ?hg (N := 3) ?hd (cs := #[.slice none 0 0]) (t := 29) ?hr ?_; (case hd => rfl); (case hg => rfl); (case hr => first | (go_simp; done) | (go_simp; rfl)); intro gq hg w3 hbox hb; have HQ0 := Aside0.mk (show OutW w2 w3 gq (.slice none 0 0) [] from ⟨hbox, Kd.S_nil _ _ _ _ _, hb, Nat.le_of_eq hg.symm⟩); have hcg := pw_cell_below hb (blk_cell HT2.out 0); clear hbox hb hg))
 clear hcg
 go_loopg [9] k (fun kq v9 w' => ∃ (j : Int) (outs : List S45) (vo : Value), v9 = .int .i64 j ∧ Aside0 (impl_copyTree.l0 kq j xs outs = some r) ∧ Aside0 (kq ≤ k) ∧ Aside0 (OutW w2 w' gq vo outs))
 case atStart => exact ⟨0, _, _, rfl, HA, ⟨Nat.le_refl _⟩, HQ0⟩
 case round =>
  clear HA HQ0
  obtain ⟨j, outs, vo, rfl, HA, HK, HQ⟩ := hrel
  cases gk with
  | zero => exact absurd HA.out (by simp [impl_copyTree.l0])
  | succ k1 =>
   have H := HA.out
   clear HA
   simp only [impl_copyTree.l0] at H
   by_cases c1 : j < (xs.length : Int)
   · rw [if_pos c1] at H
     by_cases c2 : 0 ≤ j
     · rw [if_pos c2] at H
       obtain ⟨⟨b0, b1, b2, b3, b4, b5⟩, A1, H⟩ := Option.bind_eq_some_iff.1 H
       by_cases c5 : outs.length < 1000000
       · rw [if_pos c5] at H
         have c1b : decide (j < (xs.length : Int)) = true := decide_eq_true c1
         obtain ⟨ad, A_2, c_2, A_5, c_5, e1, hx0, hx1, hx2, hx3, hx4, hx5, hl2, hi2, hl5, hi5⟩ := at_T45 HC.out j c2 c1
         subst e1
         obtain ⟨Ao, co, rfl⟩ := Kd.S_slice HQ.out.row
         replace hx0 := pw_cell_below (below_step HL2.out HQ.out.low) hx0
         replace hx1 := pw_cell_below (below_step HL2.out HQ.out.low) hx1
         replace hx2 := pw_cell_below (below_step HL2.out HQ.out.low) hx2
         replace hx3 := pw_cell_below (below_step HL2.out HQ.out.low) hx3
         replace hx4 := pw_cell_below (below_step HL2.out HQ.out.low) hx4
         replace hx5 := pw_cell_below (below_step HL2.out HQ.out.low) hx5
         have HI2 := Aside0.mk hi2
         have HI5 := Aside0.mk hi5
         have HL2_ := Aside0.mk hl2
         have HL5_ := Aside0.mk hl5
         have HA := Aside0.mk H
         replace A1 := Aside0.mk A1
         have H5 := Aside0.mk c5
         clear hl2 hi2 hl5 hi5 H c5
         replace c1 := eq_true c1
         replace c2 := eq_true c2
         go_upto_region 5 with (fail)
         clear hx0 hx1 hx2 hx3 hx4 hx5
         have hX := blk_new wr (.cells #[.int .i64 (rd_T45 xs j).f0, .string (rd_T45 xs j).f1, .slice A_2 (rd_T45 xs j).f2.length c_2, .string (rd_T45 xs j).f3, .int .i64 (rd_T45 xs j).f4, .slice A_5 (rd_T45 xs j).f5.length c_5] 45)
         have hl := below_alloc (Below.refl wr.heap.size wr) (.cells #[.int .i64 (rd_T45 xs j).f0, .string (rd_T45 xs j).f1, .slice A_2 (rd_T45 xs j).f2.length c_2, .string (rd_T45 xs j).f3, .int .i64 (rd_T45 xs j).f4, .slice A_5 (rd_T45 xs j).f5.length c_5] 45)
         generalize wr.alloc (.cells #[.int .i64 (rd_T45 xs j).f0, .string (rd_T45 xs j).f1, .slice A_2 (rd_T45 xs j).f2.length c_2, .string (rd_T45 xs j).f3, .int .i64 (rd_T45 xs j).f4, .slice A_5 (rd_T45 xs j).f5.length c_5] 45) = w5 at hX hl ⊢
         obtain ⟨gb, hgb⟩ : ∃ g_, g_ = wr.heap.size := ⟨_, rfl⟩
         rw [← hgb] at hX ⊢
         have HGB := Aside0.mk (show wr.heap.size ≤ gb from Nat.le_of_eq hgb.symm)
         have HB := Aside0.mk (show w5.drew.heap[gb]? = some (.cells #[.int .i64 (rd_T45 xs j).f0, .string (rd_T45 xs j).f1, .slice A_2 (rd_T45 xs j).f2.length c_2, .string (rd_T45 xs j).f3, .int .i64 (rd_T45 xs j).f4, .slice A_5 (rd_T45 xs j).f5.length c_5] 45 (0, 0)) from hX)
         have HL := Aside0.mk (show Below wr.heap.size wr w5.drew from pw_below_drewN hl 1)
         clear hX hl hgb
         refine wp_region_N (n := 7) (S := (fun w' => w'.cell? ⟨gq, 0, none⟩ = some (.slice Ao outs.length co) ∧ w'.cell? ⟨gb, 0, none⟩ = some (.int .i64 (rd_T45 xs j).f0) ∧ w'.cell? ⟨gb, 1, none⟩ = some (.string (rd_T45 xs j).f1) ∧ w'.cell? ⟨gb, 2, none⟩ = some (.slice A_2 (rd_T45 xs j).f2.length c_2) ∧ w'.cell? ⟨gb, 3, none⟩ = some (.string (rd_T45 xs j).f3) ∧ w'.cell? ⟨gb, 4, none⟩ = some (.int .i64 (rd_T45 xs j).f4) ∧ w'.cell? ⟨gb, 5, none⟩ = some (.slice A_5 (rd_T45 xs j).f5.length c_5))) (by kernel_rfl) ⟨(blk_cell (blk_below HQ.out.blk HL.out) 0).trans rfl, (blk_cell HB.out 0).trans rfl, (blk_cell HB.out 1).trans rfl, (blk_cell HB.out 2).trans rfl, (blk_cell HB.out 3).trans rfl, (blk_cell HB.out 4).trans rfl, (blk_cell HB.out 5).trans rfl⟩ (fun hHeld => ?_)
         generalize w5.drew = WD at HB HL hHeld ⊢
         refine wpAnyN_take (i := 0) (v := ?v100) rfl (by kernel_rfl) (by kernel_rfl) (by kernel_rfl) (by kernel_rfl) (fun _ _ _ h => h) (Or.inl ⟨by rfl, ?h100⟩) hHeld ?r100
         case h100 => (intro w_ hSw; (try dsimp only at hSw); go_simp; (try with_reducible rfl))
         refine wpAnyN_take (i := 1) (v := ?v201) rfl (by kernel_rfl) (by kernel_rfl) (by kernel_rfl) (by kernel_rfl) (fun _ _ _ h => h) (Or.inl ⟨by rfl, ?h201⟩) hHeld ?r201
         case h201 => (intro w_ hSw; (try dsimp only at hSw); go_simp; (try with_reducible rfl))
         refine wpAnyN_take (i := 2) (v := ?v302) rfl (by kernel_rfl) (by kernel_rfl) (by kernel_rfl) (by kernel_rfl) (fun _ _ _ h => h) (Or.inl ⟨by rfl, ?h302⟩) hHeld ?r302
         case h302 => (intro w_ hSw; (try dsimp only at hSw); go_simp; (try with_reducible rfl))
         refine wpAnyN_one (i := 3) (by kernel_rfl) rfl (fun K hK => ?_)
         go_simp
         go_at_call 91
         with_reducible refine (impl_copyNode.calls _ _ _ _ _ _ _ _ _ _ b0 b1 b2 b3 b4 b5 _ (Kd.C_below HI2.out (below_step (below_step HL2.out HQ.out.low) HL.out)) HL2_.out (Kd.C_below HI5.out (below_step (below_step HL2.out HQ.out.low) HL.out)) HL5_.out A1.out).mono ?_
         rintro e w6 ⟨v2, v5, rfl, h2, h5, hb⟩
         obtain ⟨B2, d2, rfl⟩ := Kd.R_slice h2
         obtain ⟨B5, d5, rfl⟩ := Kd.R_slice h5
         have HB6 := Aside0.mk (blk_below HB.out hb)
         have HL6 := Aside0.mk (below_step HL.out hb)
         have HE := Aside0.mk (k45_mkM w6 w2.heap.size (fun k_ => wr.heap.size ≤ k_ ∧ k_ < w6.heap.size) ⟨b0, b1, b2, b3, b4, b5⟩ (Kd.R_lower (Kd.R_mono (Kd.R_bound h2) (fun k_ hk => ⟨Nat.le_trans HL.out.size hk.2.1, hk.2.2.1⟩)) (Nat.le_trans HQ.out.low.size HL.out.size)) (Kd.R_lower (Kd.R_mono (Kd.R_bound h5) (fun k_ hk => ⟨Nat.le_trans HL.out.size hk.2.1, hk.2.2.1⟩)) (Nat.le_trans HQ.out.low.size HL.out.size)))
         clear h2 h5 hb
         go_wp2_with fail
         refine hK.out _ _ ?_ (fun hH3 => ?_)
         · (try dsimp only); exact ⟨(blk_cell (blk_below HQ.out.blk HL6.out) 0).trans rfl, (blk_cell HB6.out 0).trans rfl, (blk_cell HB6.out 1).trans rfl, (blk_cell HB6.out 2).trans rfl, (blk_cell HB6.out 3).trans rfl, (blk_cell HB6.out 4).trans rfl, (blk_cell HB6.out 5).trans rfl⟩
         clear hK K
         refine wpAnyN_one (i := 4) (by kernel_rfl) rfl (fun K hK => ?_)
         go_simp
         have HAL := Aside0.mk (below_alloc (Below.refl w6.heap.size w6) (.cells #[.int .i64 b0, .string b1, .slice B2 b2.length d2, .string b3, .int .i64 b4, .slice B5 b5.length d5] 45))
         refine hK.out _ _ ?_ (fun hH4 => ?_)
         · (try dsimp only); exact ⟨(blk_cell (blk_below HQ.out.blk (below_step HL6.out HAL.out)) 0).trans rfl, (blk_cell (blk_below HB6.out HAL.out) 0).trans rfl, (blk_cell (blk_below HB6.out HAL.out) 1).trans rfl, (blk_cell (blk_below HB6.out HAL.out) 2).trans rfl, (blk_cell (blk_below HB6.out HAL.out) 3).trans rfl, (blk_cell (blk_below HB6.out HAL.out) 4).trans rfl, (blk_cell (blk_below HB6.out HAL.out) 5).trans rfl⟩
         clear hK K
         refine wpAnyN_one (i := 5) (by kernel_rfl) rfl (fun K hK => ?_)
         refine Kd.S_append_step (w0 := w2) k45 w2.heap.size (by rfl) (.tmp 14) (.tmp 17) 27 45 (.agg #[(.int .i64 0), (.string ⟨#[]⟩), (.slice none 0 0), (.string ⟨#[]⟩), (.int .i64 0), (.slice none 0 0)]) 96 rfl Try.underlying27 info45 rfl (by decide) (by omega) (.slice Ao outs.length co) outs ⟨b0, b1, b2, b3, b4, b5⟩ [.int .i64 b0, .string b1, .slice B2 b2.length d2, .string b3, .int .i64 b4, .slice B5 b5.length d5] (fun k_ => k_ ≠ gq) (fun k_ => wr.heap.size ≤ k_ ∧ k_ < w6.heap.size) rfl rfl HE.out (HQ.out.okp) (fun k_ hk => by have := HQ.out.lt; have := HL6.out.size; omega) (HQ.out.apart HL6.out) (below_step HQ.out.low HL6.out) (below_step HQ.out.low HL6.out).size (by have := H5.out; omega) ?_
         intro v1 w9 hS hlow hgw hat
         obtain ⟨A1_, c1', ev1⟩ := Kd.S_slice hS
         rw [List.length_append, List.length_singleton] at ev1
         subst ev1
         have HQ2 := Aside0.mk (HQ.out.put HL6.out hS hlow hgw)
         have hgk := blk_grown (blk_below HQ.out.blk HL6.out) hgw (fun e_ => (HQ.out.row |> Kd.S_R).1 gq e_.symm rfl)
         have hbk := blk_grown HB6.out hgw (fun e_ => by have := Kd.S_lt HQ.out.row gb e_.symm; have := HGB.out; omega)
         have hfq2 := blk_frozen hgk
         refine hK.out _ _ ?_ (fun hH5 => ?_)
         · (try dsimp only); exact ⟨(blk_cell hgk 0).trans rfl, (blk_cell hbk 0).trans rfl, (blk_cell hbk 1).trans rfl, (blk_cell hbk 2).trans rfl, (blk_cell hbk 3).trans rfl, (blk_cell hbk 4).trans rfl, (blk_cell hbk 5).trans rfl⟩
         clear hK K
         refine wpAnyN_one (i := 6) (by kernel_rfl) rfl (fun K hK => ?_)
         go_simp
         refine hK.out _ _ ?_ (fun hH6 => ?_)
         · (try dsimp only); exact hH5
         clear hK K
         refine wpAnyN_last (by kernel_rfl) (by kernel_rfl) rfl (fun K hK => ?_)
         have hgq0 := hH6.1
         go_simp
         refine hK.out _ _ ?_
         clear hK K
         go_wp2_with fail
         go_roundg k1
         case measure => have := HK.out; omega
         case rel => exact ⟨_, _, _, rfl, HA, ⟨by have := HK.out; omega⟩, HQ2⟩
       · rw [if_neg c5] at H; cases H
     · rw [if_neg c2] at H; cases H
   · rw [if_neg c1] at H
     obtain rfl := Option.some.inj H
     clear H
     have c1b : decide (j < (xs.length : Int)) = false := decide_eq_false c1
     clear c1
     obtain ⟨Ao, co, rfl⟩ := Kd.S_slice HQ.out.row
     have hcq := HQ.out.cell
     have HRR := Aside0.mk (blk_below HR.out HQ.out.low)
     have hcr := blk_cell HRR.out 0
     have hfr := blk_frozen HRR.out
     go_wp2_with fail
     refine bodyPost_ret (results_cell_row rfl _ _ gr 29 #[.slice Ao outs.length co] (0, 0) _ rfl (blk_put (cs := #[.slice none 0 0]) HRR.out 0 _ rfl) Try.underlying29 rfl (by kernel_rfl)) rfl ?_
     exact ⟨_, rfl, Kd.S_mono (Kd.S_lower (Kd.S_far (p := ⟨gr, 0, none⟩) (Kd.S_types HQ.out.row HRR.out (by decide)) (fun _ hk => hk.2) _) HL2.out.size) (fun _ _ => trivial), below_set (below_step HL2.out HQ.out.low) HGR.out⟩
/-- The number of the new node (or -1) and the row; the new node: the row of attributes copied, no parent, no kids. -/
def impl_Tree_add.f (k : Nat) (xs : List S45) (a0 : Int) (a1 : ByteArray) (a2 : List S98) (a3 : ByteArray) : Option (Int × List S45) := (impl_Attr_97.f a2).bind fun b2 => if 500 ≤ (xs.length : Int) then some (-1, xs) else (impl_nodeOk.f k a0 a1 b2 a3 (-1) [] (xs.length : Int)).bind fun ok => if ok = true then some ((xs.length : Int), xs ++ [⟨a0, a1, b2, a3, -1, []⟩]) else some (-1, xs)
theorem impl_Tree_add.mono : ∀ y0 y1 y2 y3 y4 k, LeO (impl_Tree_add.f k y0 y1 y2 y3 y4) (impl_Tree_add.f (k + 1) y0 y1 y2 y3 y4) := fun _ _ _ _ _ k => LeO.bind (LeO.refl _) (fun _ => LeO.ite (LeO.refl _) (LeO.bind (impl_nodeOk.mono _ _ _ _ _ _ _ k) (fun _ => LeO.refl _)))
set_option maxHeartbeats 16000000 in
set_option maxRecDepth 100000 in
theorem impl_Tree_add.calls (k : Nat) (g : Nat) (v : Value) (xs : List S45) (a0 : Int) (a1 : ByteArray) (A2 : Option Addr) (c2 : Nat) (a2 : List S98) (a3 : ByteArray) (a4 : Int) (u5 : Value) (r1 : Int) (r2 : List S45) (w0 w : World) (hO : OutW w0 w g v xs) (h2 : Kd.C k98 w A2 a2.length a2) (hc2 : a2.length ≤ c2) (h : impl_Tree_add.f k xs a0 a1 a2 a3 = some (r1, r2)) :
 Calls Try.prog 57 #[.pointer (some ⟨g, 0, none⟩), .agg #[.int .i64 a0, .string a1, .slice A2 a2.length c2, .string a3, .int .i64 a4, u5]] w fun e w' => e = .returned (.int .i64 r1) ∧ (∃ v', OutW w0 w' g v' r2) ∧ Kept w w' (fun k_ => k_ = g ∨ some k_ = v.ownBlock) := by
 unfold impl_Tree_add.f at h
 obtain ⟨b2, A1, h⟩ := Option.bind_eq_some_iff.1 h
 have HA1 := Aside0.mk A1
 have HA := Aside0.mk h
 obtain ⟨Av, cv, ev⟩ := Kd.S_slice hO.row
 subst ev
 have HO := Aside0.mk hO
 have H2 := Aside0.mk h2
 have HC2 := Aside0.mk hc2
 have HCV := Aside0.mk (Kd.S_reads' hO.row)
 clear h A1 hO h2 hc2
 go_enter Try.func57, Try.ntmps57
 go_upto_region 1 with (first | ((with_reducible refine gate_dst (N := 3) rfl ?_); refine box_event ?hg (N := 3) ?hd (cs := #[.int .i64 a0, .string a1, .slice A2 a2.length c2, .string a3, .int .i64 a4, u5]) (t := 45) ?hr ?_; (case hd => rfl); (case hg => rfl); (case hr => first | (go_simp; done) | (go_simp; rfl)); intro gb hgb w1 hbox hb; have HX := Aside0.mk hbox; have HL := Aside0.mk hb; have HO1 := Aside0.mk (HO.out.below hb); have HGB := Aside0.mk hgb; clear hbox hb hgb))
 have hcg := HO1.out.cell
 go_upto_region 2 with (fail)
 clear hcg
 have hx0 := blk_cell HX.out 0
 have hx1 := blk_cell HX.out 1
 have hx2 := blk_cell HX.out 2
 have hx3 := blk_cell HX.out 3
 have HLD := Aside0.mk (show Below w.heap.size w w1.drew from pw_below_drewN HL.out 1)
 have HXD := Aside0.mk (show w1.drew.heap[gb]? = some (.cells #[.int .i64 a0, .string a1, .slice A2 a2.length c2, .string a3, .int .i64 a4, u5] 45 (0, 0)) from HX.out)
 have HOD := Aside0.mk (show OutW w0 w1.drew g (.slice Av xs.length cv) xs from HO1.out.drewN 1)
 refine wp_region_N (n := 10) (S := (fun w' => w'.cell? ⟨gb, 0, none⟩ = some (.int .i64 a0) ∧ w'.cell? ⟨gb, 1, none⟩ = some (.string a1) ∧ w'.cell? ⟨gb, 2, none⟩ = some (.slice A2 a2.length c2) ∧ w'.cell? ⟨gb, 3, none⟩ = some (.string a3))) (by kernel_rfl) ⟨hx0, hx1, hx2, hx3⟩ (fun hHeld => ?_)
 refine wpAnyN_take (i := 0) (v := ?v100) rfl (by kernel_rfl) (by kernel_rfl) (by kernel_rfl) (by kernel_rfl) (fun _ _ _ h => h) (Or.inl ⟨by rfl, ?h100⟩) hHeld ?r100
 case h100 => (intro w_ hSw; (try dsimp only at hSw); go_simp; (try with_reducible rfl))
 refine wpAnyN_take (i := 1) (v := ?v201) rfl (by kernel_rfl) (by kernel_rfl) (by kernel_rfl) (by kernel_rfl) (fun _ _ _ h => h) (Or.inl ⟨by rfl, ?h201⟩) hHeld ?r201
 case h201 => (intro w_ hSw; (try dsimp only at hSw); go_simp; (try with_reducible rfl))
 refine wpAnyN_take (i := 2) (v := ?v302) rfl (by kernel_rfl) (by kernel_rfl) (by kernel_rfl) (by kernel_rfl) (fun _ _ _ h => h) (Or.inl ⟨by rfl, ?h302⟩) hHeld ?r302
 case h302 => (intro w_ hSw; (try dsimp only at hSw); go_simp; (try with_reducible rfl))
 refine wpAnyN_take (i := 3) (v := ?v403) rfl (by kernel_rfl) (by kernel_rfl) (by kernel_rfl) (by kernel_rfl) (fun _ _ _ h => h) (Or.inl ⟨by rfl, ?h403⟩) hHeld ?r403
 case h403 => (intro w_ hSw; (try dsimp only at hSw); go_simp; (try with_reducible rfl))
 refine wpAnyN_take (i := 4) (v := ?v504) rfl (by kernel_rfl) (by kernel_rfl) (by kernel_rfl) (by kernel_rfl) (fun _ _ _ h => h) (Or.inl ⟨by rfl, ?h504⟩) hHeld ?r504
 case h504 => (intro w_ hSw; (try dsimp only at hSw); go_simp; (try with_reducible rfl))
 refine wpAnyN_take (i := 5) (v := ?v605) rfl (by kernel_rfl) (by kernel_rfl) (by kernel_rfl) (by kernel_rfl) (fun _ _ _ h => h) (Or.inl ⟨by rfl, ?h605⟩) hHeld ?r605
 case h605 => (intro w_ hSw; (try dsimp only at hSw); go_simp; (try with_reducible rfl))
 refine wpAnyN_take (i := 7) (v := ?v707) rfl (by kernel_rfl) (by kernel_rfl) (by kernel_rfl) (by kernel_rfl) (fun _ _ _ h => h) (Or.inl ⟨by rfl, ?h707⟩) hHeld ?r707
 case h707 => (intro w_ hSw; (try dsimp only at hSw); go_simp; (try with_reducible rfl))
 refine wpAnyN_take (i := 8) (v := ?v808) rfl (by kernel_rfl) (by kernel_rfl) (by kernel_rfl) (by kernel_rfl) (fun _ _ _ h => h) (Or.inl ⟨by rfl, ?h808⟩) hHeld ?r808
 case h808 => (intro w_ hSw; (try dsimp only at hSw); go_simp; (try with_reducible rfl))
 refine wpAnyN_one (i := 6) (by kernel_rfl) rfl (fun K hK => ?_)
 go_simp
 go_at_call 97
 with_reducible refine (impl_Attr_97.calls A2 c2 a2 b2 _ (Kd.C_below H2.out HLD.out) HC2.out HA1.out).mono ?_
 rintro e w3 ⟨v2, rfl, hr, hb⟩
 obtain ⟨B2, d2, rfl⟩ := Kd.R_slice hr
 have HR := Aside0.mk hr
 have HL3 := Aside0.mk hb
 have HX3 := Aside0.mk (blk_below HXD.out hb)
 have hy0 := blk_cell HX3.out 0
 have hy1 := blk_cell HX3.out 1
 have hy2 := blk_cell HX3.out 2
 have hy3 := blk_cell HX3.out 3
 have hy4 := blk_cell HX3.out 4
 have hy5 := blk_cell HX3.out 5
 have hyf := blk_frozen HX3.out
 clear hb hr hx0 hx1 hx2 hx3
 go_wp2_with fail
 refine hK.out _ _ ?_ (fun hH6 => ?_)
 · (try dsimp only); exact ⟨hy0, hy1, hy2, hy3⟩
 clear hK K
 refine wpAnyN_one (i := 9) (by kernel_rfl) rfl (fun K hK => ?_)
 go_simp
 refine hK.out _ _ ?_ (fun hH9 => ?_)
 · (try dsimp only); exact hH6
 clear hK K
 refine wpAnyN_last (by kernel_rfl) (by kernel_rfl) rfl (fun K hK => ?_)
 go_simp
 refine hK.out _ _ ?_
 clear hK K
 change Exit.then _ _ _ _ (fillN w3 gb ⟨a0, a1, b2, a3, -1, []⟩ (.slice B2 b2.length d2) (.slice none 0 0))
 have HLW := Aside0.mk (below_step HLD.out HL3.out)
 have HGE := Aside0.mk (show w.heap.size ≤ gb by rw [HGB.out]; exact Nat.le_refl _)
 have HN := Aside0.mk (NodW.over (x := ⟨a0, a1, b2, a3, -1, []⟩) (v2 := .slice B2 b2.length d2) (v5 := .slice none 0 0) HX3.out (Kd.R_lower (Kd.R_mono (Kd.R_bound HR.out) (fun k_ hk => by have := hk.2.1; have := blk_lt HXD.out; omega)) HLD.out.size) (Kd.R_nil _ _ _ _ _) HLW.out HGE.out)
 generalize fillN w3 gb ⟨a0, a1, b2, a3, -1, []⟩ (.slice B2 b2.length d2) (.slice none 0 0) = w4 at HN ⊢
 clear hy0 hy1 hy2 hy3 hy4 hy5 hyf hHeld hH6 hH9 HX3 HX HXD HOD HO1 HL3 HLD HL
 have H := HA.out
 by_cases c1 : 500 ≤ (xs.length : Int)
 · rw [if_pos c1] at H
   injection H with H
   injection H with e1 e2
   subst e1 e2
   have c1b : decide (500 ≤ (xs.length : Int)) = true := decide_eq_true c1
   go_wp2_with fail
   go_ret
   exact ⟨rfl, ⟨_, HO.out.below HN.out.low⟩, Kept.of_below HN.out.low _⟩
 · rw [if_neg c1] at H
   have c1b : decide (500 ≤ (xs.length : Int)) = false := decide_eq_false c1
   have HLN := Aside0.mk c1
   clear c1
   obtain ⟨ok, A2, H⟩ := Option.bind_eq_some_iff.1 H
   have HA2 := Aside0.mk A2
   have HA := Aside0.mk H
   clear H A2
   obtain ⟨hq0, hq1, hq2, hq3, hq4, hq5⟩ := HN.out.cells
   have HCALL := Aside0.mk (show Calls Try.prog 41 #[.agg #[.int .i64 a0, .string a1, .slice B2 b2.length d2, .string a3, .int .i64 (-1), .slice none 0 0], .int .i64 (xs.length : Int)] w4 (fun e w' => e = .returned (.bool ok) ∧ Below w4.heap.size w4 w') from impl_nodeOk.calls k a0 a1 B2 d2 b2 a3 (-1) none 0 [] (xs.length : Int) ok w4 (Kd.R_reads' HN.out.r2).2.2 (Kd.R_reads' HN.out.r2).2.1 (Kd.C_nil _ _) (Nat.le_refl _) HA2.out)
   cases ok with
   | false =>
    have H := HA.out
    rw [if_neg (by decide)] at H
    injection H with H
    injection H with e1 e2
    subst e1 e2
    go_wp2_with (first | (go_at_call 41; refine HCALL.out.mono ?_; rintro e w5 ⟨rfl, hb⟩; have HN5 := Aside0.mk (HN.out.below hb); clear hb))
    go_ret
    exact ⟨rfl, ⟨_, HO.out.below HN5.out.low⟩, Kept.of_below HN5.out.low _⟩
   | true =>
    have H := HA.out
    rw [if_pos rfl] at H
    injection H with H
    injection H with e1 e2
    subst e1 e2
    go_upto_region 5 with (first | (go_at_call 41; refine HCALL.out.mono ?_; rintro e w5 ⟨rfl, hb⟩; have HN5 := Aside0.mk (HN.out.below hb); clear hb))
    clear hq0 hq1 hq2 hq3 hq4 hq5
    have HND := Aside0.mk (HN5.out.drewN 1)
    have HOD := Aside0.mk (HO.out.below HND.out.low)
    obtain ⟨hq0, hq1, hq2, hq3, hq4, hq5⟩ := HND.out.cells
    have hqg := HOD.out.cell
    have HAL := Aside0.mk (below_alloc (Below.refl w5.drew.heap.size w5.drew) (.cells #[.int .i64 a0, .string a1, .slice B2 b2.length d2, .string a3, .int .i64 (-1), .slice none 0 0] 45))
    refine wp_region_N (n := 10) (S := (fun w' => w'.cell? ⟨g, 0, none⟩ = some (.slice Av xs.length cv) ∧ w'.cell? ⟨gb, 0, none⟩ = some (.int .i64 a0) ∧ w'.cell? ⟨gb, 1, none⟩ = some (.string a1) ∧ w'.cell? ⟨gb, 2, none⟩ = some (.slice B2 b2.length d2) ∧ w'.cell? ⟨gb, 3, none⟩ = some (.string a3) ∧ w'.cell? ⟨gb, 4, none⟩ = some (.int .i64 (-1)) ∧ w'.cell? ⟨gb, 5, none⟩ = some (.slice none 0 0))) (by kernel_rfl) ⟨hqg, hq0, hq1, hq2, hq3, hq4, hq5⟩ (fun hHeld => ?_)
    refine wpAnyN_take (i := 0) (v := ?v900) rfl (by kernel_rfl) (by kernel_rfl) (by kernel_rfl) (by kernel_rfl) (fun _ _ _ h => h) (Or.inl ⟨by rfl, ?h900⟩) hHeld ?r900
    case h900 => (intro w_ hSw; (try dsimp only at hSw); go_simp; (try with_reducible rfl))
    refine wpAnyN_take (i := 1) (v := ?v1001) rfl (by kernel_rfl) (by kernel_rfl) (by kernel_rfl) (by kernel_rfl) (fun _ _ _ h => h) (Or.inl ⟨by rfl, ?h1001⟩) hHeld ?r1001
    case h1001 => (intro w_ hSw; (try dsimp only at hSw); go_simp; (try with_reducible rfl))
    refine wpAnyN_take (i := 2) (v := ?v1102) rfl (by kernel_rfl) (by kernel_rfl) (by kernel_rfl) (by kernel_rfl) (fun _ _ _ h => h) (Or.inl ⟨by rfl, ?h1102⟩) hHeld ?r1102
    case h1102 => (intro w_ hSw; (try dsimp only at hSw); go_simp; (try with_reducible rfl))
    refine wpAnyN_take (i := 3) (v := ?v1203) rfl (by kernel_rfl) (by kernel_rfl) (by kernel_rfl) (by kernel_rfl) (fun _ _ _ h => h) (Or.inl ⟨by rfl, ?h1203⟩) hHeld ?r1203
    case h1203 => (intro w_ hSw; (try dsimp only at hSw); go_simp; (try with_reducible rfl))
    refine wpAnyN_take (i := 4) (v := ?v1304) rfl (by kernel_rfl) (by kernel_rfl) (by kernel_rfl) (by kernel_rfl) (fun _ _ _ h => h) (Or.inl ⟨by rfl, ?h1304⟩) hHeld ?r1304
    case h1304 => (intro w_ hSw; (try dsimp only at hSw); go_simp; (try with_reducible rfl))
    refine wpAnyN_take (i := 5) (v := ?v1405) rfl (by kernel_rfl) (by kernel_rfl) (by kernel_rfl) (by kernel_rfl) (fun _ _ _ h => h) (Or.inl ⟨by rfl, ?h1405⟩) hHeld ?r1405
    case h1405 => (intro w_ hSw; (try dsimp only at hSw); go_simp; (try with_reducible rfl))
    refine wpAnyN_one (i := 6) (by kernel_rfl) rfl (fun K hK => ?_)
    go_simp
    refine hK.out _ _ ?_ (fun hH6 => ?_)
    · (try dsimp only); exact ⟨pw_cell_below HAL.out hqg, pw_cell_below HAL.out hq0, pw_cell_below HAL.out hq1, pw_cell_below HAL.out hq2, pw_cell_below HAL.out hq3, pw_cell_below HAL.out hq4, pw_cell_below HAL.out hq5⟩
    clear hK K
    refine wpAnyN_one (i := 7) (by kernel_rfl) rfl (fun K hK => ?_)
    refine Kd.S_append_step (w0 := w0) k45 w0.heap.size (by rfl) (.tmp 33) (.tmp 35) 27 45 (.agg #[(.int .i64 0), (.string ⟨#[]⟩), (.slice none 0 0), (.string ⟨#[]⟩), (.int .i64 0), (.slice none 0 0)]) 96 rfl Try.underlying27 info45 rfl (by decide) (by omega) (.slice Av xs.length cv) xs ⟨a0, a1, b2, a3, -1, []⟩ [.int .i64 a0, .string a1, .slice B2 b2.length d2, .string a3, .int .i64 (-1), .slice none 0 0] (fun k_ => k_ ≠ g) (fun k_ => w.heap.size ≤ k_ ∧ k_ < (w5.drewN 1).heap.size) rfl rfl (NodW.elem HND.out HO.out.low) (HO.out.okp) (fun k_ hk => by have := HO.out.lt; have := HND.out.low.size; omega) (HO.out.apart HND.out.low) (below_step HO.out.low HND.out.low) (below_step HO.out.low HND.out.low).size (by have := HLN.out; omega) ?_
    intro v1 w9 hS hlow hgw hat
    obtain ⟨A1, c1', ev1⟩ := Kd.S_slice hS
    rw [List.length_append, List.length_singleton] at ev1
    subst ev1
    have HQ2 := Aside0.mk (HO.out.put HND.out.low hS hlow hgw)
    have HKQ := Aside0.mk (Kept.of_grown hgw (Kept.of_below HND.out.low (fun k_ => k_ = g ∨ some k_ = (Value.slice Av xs.length cv).ownBlock)) (fun k_ e_ => .inl (.inr e_.symm)))
    have hgk := blk_grown HOD.out.blk hgw (fun e_ => (HO.out.row |> Kd.S_R).1 g e_.symm rfl)
    have hbk := blk_grown HND.out.blk hgw (fun e_ => by have := Kd.S_lt HO.out.row gb e_.symm; have := HND.out.ge; omega)
    have hcq2 := (blk_cell hgk 0).trans (show (#[.slice Av xs.length cv] : Array Value)[0]? = some (.slice Av xs.length cv) from rfl)
    have hfq2 := blk_frozen hgk
    refine hK.out _ _ ?_ (fun hH7 => ?_)
    · (try dsimp only); exact ⟨hcq2, blk_cell hbk 0, blk_cell hbk 1, blk_cell hbk 2, blk_cell hbk 3, blk_cell hbk 4, blk_cell hbk 5⟩
    clear hK K
    refine wpAnyN_one (i := 8) (by kernel_rfl) rfl (fun K hK => ?_)
    go_simp
    refine hK.out _ _ ?_ (fun hH7 => ?_)
    · (try dsimp only); exact hH7
    clear hK K
    refine wpAnyN_one (i := 9) (by kernel_rfl) rfl (fun K hK => ?_)
    go_simp
    refine hK.out _ _ ?_ (fun hH7 => ?_)
    · (try dsimp only); exact hH7
    clear hK K
    refine wpAnyN_last (by kernel_rfl) (by kernel_rfl) rfl (fun K hK => ?_)
    go_simp
    refine hK.out _ _ ?_
    clear hK K
    go_wp2_with fail
    go_ret
    exact ⟨rfl, ⟨_, HQ2.out⟩, HKQ.out.setCell (p := ⟨g, 0, none⟩) (.inl (.inl rfl)) _⟩
def impl_TreeAdd.f (k : Nat) (l0_0 : List S45) (a1_0 : Int) (a1_1 : ByteArray) (l1_2 : List S98) (a1_3 : ByteArray) (a1_4 : Int) (l1_5 : List Int) : Option ((List S45) × Int) := (impl_TreeOk.f k l0_0).bind fun b => if b = true then (impl_copyTree.f k l0_0).bind fun ys => (impl_Tree_add.f k ys a1_0 a1_1 l1_2 a1_3).bind fun z => some (z.2, z.1) else some ([], -1)
theorem impl_TreeAdd.mono : ∀ a0 a1 a2 a3 a4 a5 a6 k, LeO (impl_TreeAdd.f k a0 a1 a2 a3 a4 a5 a6) (impl_TreeAdd.f (k + 1) a0 a1 a2 a3 a4 a5 a6) := fun a0 _ _ _ _ _ _ k => LeO.bind (impl_TreeOk.mono a0 k) (fun _ => LeO.ite (LeO.bind (impl_copyTree.mono a0 k) (fun _ => LeO.bind (impl_Tree_add.mono _ _ _ _ _ k) (fun _ => LeO.refl _))) (LeO.refl _))
set_option maxHeartbeats 8000000 in
set_option maxRecDepth 100000 in
theorem impl_TreeAdd.calls (k : Nat) (A0_0 : Option Addr) (c0_0 : Nat) (l0_0 : List S45) (a1_0 : Int) (a1_1 : ByteArray) (A1_2 : Option Addr) (c1_2 : Nat) (l1_2 : List S98) (a1_3 : ByteArray) (a1_4 : Int) (A1_5 : Option Addr) (c1_5 : Nat) (l1_5 : List Int) (r1 : List S45) (r2 : Int) (w : World) (hr0_0 : Kd.C k45 w A0_0 l0_0.length l0_0) (hc0_0 : l0_0.length ≤ c0_0) (hr1_2 : Kd.C k98 w A1_2 l1_2.length l1_2) (hc1_2 : l1_2.length ≤ c1_2) (hr1_5 : Kd.C (Kd.int .i64) w A1_5 l1_5.length l1_5) (hc1_5 : l1_5.length ≤ c1_5) (h : impl_TreeAdd.f k l0_0 a1_0 a1_1 l1_2 a1_3 a1_4 l1_5 = some (r1, r2)) :
 Calls Try.prog 24 #[.agg #[.slice A0_0 l0_0.length c0_0], .agg #[.int .i64 a1_0, .string a1_1, .slice A1_2 l1_2.length c1_2, .string a1_3, .int .i64 a1_4, .slice A1_5 l1_5.length c1_5]] w fun e w' => ∃ v0_ : Value, e = .returned (.tuple #[.agg #[v0_], .int .i64 r2]) ∧ Kd.S k45 45 w' w.heap.size (fun _ => True) v0_ r1 ∧ Below w.heap.size w w' := by
 unfold impl_TreeAdd.f at h
 obtain ⟨b, A1, h⟩ := Option.bind_eq_some_iff.mp h
 have HA1 := Aside0.mk A1
 have HA := Aside0.mk h
 have HC := Aside0.mk hr0_0
 have HCC := Aside0.mk hc0_0
 have H2 := Aside0.mk hr1_2
 have HC2 := Aside0.mk hc1_2
 clear h hr0_0 hc0_0 hr1_2 hc1_2 hr1_5 hc1_5 A1
 go_enter Try.func24, Try.ntmps24
 go_upto_region 1 with (first
  | ((with_reducible refine gate_dst (N := 2) rfl ?_); refine box_event ?hg (N := 2) ?hd (cs := #[.slice A0_0 l0_0.length c0_0]) (t := 29) ?hr ?_; (case hd => rfl); (case hg => rfl); (case hr => first | (go_simp; done) | (go_simp; rfl)); intro gt hg w1 hbox hb; have HX := Aside0.mk (show BoxW w w1 gt A0_0 l0_0.length c0_0 from ⟨hbox, hb, by rw [hg]; exact Nat.le_refl _⟩); clear hbox hb hg)
  | ((with_reducible refine gate_dst (N := 3) rfl ?_); refine box_event ?hg (N := 3) ?hd (cs := #[.int .i64 a1_0, .string a1_1, .slice A1_2 l1_2.length c1_2, .string a1_3, .int .i64 a1_4, .slice A1_5 l1_5.length c1_5]) (t := 45) ?hr ?_; (case hd => rfl); (case hg => rfl); (case hr => first | (go_simp; done) | (go_simp; rfl)); intro gb hg w2 hbox hb; have HX2 := Aside0.mk (HX.out.below hb); have HN := Aside0.mk hbox; clear hbox hb hg)
  | ((with_reducible refine gate_dst (N := 4) rfl ?_); refine box_event ?hg (N := 4) ?hd (cs := #[.slice none 0 0]) (t := 29) ?hr ?_; (case hd => rfl); (case hg => rfl); (case hr => first | (go_simp; done) | (go_simp; rfl)); intro gr hg w3 hbox hb; have HR := Aside0.mk hbox; have HX3 := Aside0.mk (HX2.out.below hb); have HN3 := Aside0.mk (blk_below HN.out hb); have HGR := Aside0.mk (show w.heap.size ≤ gr by rw [hg]; exact HX2.out.low.size); clear hbox hb hg))
 have hcg := HX3.out.cell
 cases b with
 | false =>
  have H := HA.out
  simp only [Bool.false_eq_true, if_false] at H
  injection H with H
  injection H with e1 e2
  subst e1 e2
  clear HA
  go_wp2_with (first | (go_at_call 13; (with_reducible refine (impl_TreeOk.calls k A0_0 c0_0 l0_0 false w3 (Kd.C_below HC.out HX3.out.low) HCC.out HA1.out).mono ?_); rintro e w4 ⟨rfl, hb⟩; have HX4 := Aside0.mk (HX3.out.below hb); have HBB := Aside0.mk (blk_below HR.out hb); have hc2 := blk_cell HBB.out 0; have hf2 := blk_frozen HBB.out; clear hb))
  refine bodyPost_ret (results_ct rfl _ _ gr 29 #[.slice none 0 0] (0, 0) _ rfl (blk_put (cs := #[.slice none 0 0]) HBB.out 0 _ rfl) Try.underlying29 rfl (by kernel_rfl)) rfl ?_
  exact ⟨_, rfl, Kd.S_nil _ _ _ _ _, below_set HX4.out.low HGR.out⟩
 | true =>
  have H := HA.out
  rw [if_pos rfl] at H
  clear HA
  obtain ⟨ys, A2, H⟩ := Option.bind_eq_some_iff.1 H
  obtain ⟨⟨z1, z2⟩, A3, H⟩ := Option.bind_eq_some_iff.1 H
  injection H with H
  injection H with e1 e2
  dsimp only at e1 e2
  subst e1 e2
  have HA2 := Aside0.mk A2
  have HA3 := Aside0.mk A3
  clear A2 A3
  go_upto_region 4 with (first
   | (go_at_call 13; (with_reducible refine (impl_TreeOk.calls k A0_0 c0_0 l0_0 true w3 (Kd.C_below HC.out HX3.out.low) HCC.out HA1.out).mono ?_); rintro e w4 ⟨rfl, hb⟩; have HX4 := Aside0.mk (HX3.out.below hb); have HR4 := Aside0.mk (blk_below HR.out hb); have HN4 := Aside0.mk (blk_below HN3.out hb); have hcg4 := HX4.out.cell; clear hb)
   | (go_at_call 56; (with_reducible refine (impl_copyTree.calls k A0_0 c0_0 l0_0 ys w4 (Kd.C_below HC.out HX4.out.low) HCC.out HA2.out).mono ?_); rintro e w5 ⟨v, rfl, hS, hb⟩; obtain ⟨Ay, cy, rfl⟩ := Kd.S_slice hS; have HX5 := Aside0.mk (HX4.out.below hb); have HR5 := Aside0.mk (blk_below HR4.out hb); have HN5 := Aside0.mk (blk_below HN4.out hb); have HSB := Aside0.mk hS; have HS := Aside0.mk (Kd.S_lower hS HX4.out.low.size); clear hS hb))
  clear hcg hcg4
  have hX := blk_new w5 (.cells #[.slice Ay ys.length cy] 29)
  have hl := below_alloc (Below.refl w5.heap.size w5) (.cells #[.slice Ay ys.length cy] 29)
  generalize w5.alloc (.cells #[.slice Ay ys.length cy] 29) = w6 at hX hl ⊢
  have HO := Aside0.mk (show OutW w w6 w5.heap.size (.slice Ay ys.length cy) ys from ⟨hX, Kd.S_below (Kd.S_mono (Kd.S_bound HS.out) (fun k_ hk => by have := hk.2.2.1; omega)) hl, below_step HX5.out.low hl, HX5.out.low.size⟩)
  have HR6 := Aside0.mk (blk_below HR5.out hl)
  have HN6 := Aside0.mk (blk_below HN5.out hl)
  have HBO := Aside0.mk (show ∀ k_, (Value.slice Ay ys.length cy).ownBlock = some k_ → gr + 1 ≤ k_ from fun k_ e_ => Nat.le_trans (blk_lt HR4.out) (Kd.R_base (Kd.S_R HSB.out) k_ e_))
  have HLT := Aside0.mk (show gr < w5.heap.size from blk_lt HR5.out)
  clear hX hl
  generalize w5.heap.size = gq at HO HLT ⊢
  have hn0 := blk_cell HN6.out 0
  have hn1 := blk_cell HN6.out 1
  have hn2 := blk_cell HN6.out 2
  have hn3 := blk_cell HN6.out 3
  have hn4 := blk_cell HN6.out 4
  have hn5 := blk_cell HN6.out 5
  go_wp2_with (first
   | (go_at_call 57; (with_reducible refine (impl_Tree_add.calls k gq _ ys a1_0 a1_1 A1_2 c1_2 l1_2 a1_3 a1_4 _ z1 z2 w w6 HO.out (Kd.C_below H2.out HO.out.low) HC2.out HA3.out).mono ?_); rintro e w7 ⟨rfl, ⟨v7, hO⟩, hk⟩; obtain ⟨Az, cz, rfl⟩ := Kd.S_slice hO.row; have HO7 := Aside0.mk hO; have HR7 := Aside0.mk (blk_kept HR6.out hk (fun h_ => h_.elim (fun e_ => by have := HLT.out; omega) (fun e_ => by have := HBO.out gr e_.symm; omega))); have hc7 := HO7.out.cell; have hr7 := blk_cell HR7.out 0; have hf7 := blk_frozen HR7.out; clear hO hk))
  refine bodyPost_ret (results_ct rfl _ _ gr 29 #[.slice Az z2.length cz] (0, 0) _ rfl (blk_put (cs := #[.slice none 0 0]) HR7.out 0 _ rfl) Try.underlying29 rfl (by kernel_rfl)) rfl ?_
  refine ⟨_, rfl, ?_, below_set HO7.out.low HGR.out⟩
  exact Kd.S_mono (Kd.S_far (p := ⟨gr, 0, none⟩) (Kd.S_types HO7.out.row HR7.out (by decide)) (fun _ hk => hk.2) _) (fun _ _ => trivial)
def laws_markNode.f (k : Nat) (a0_0 : Int) (a0_1 : ByteArray) (l0_2 : List (S98)) (a0_3 : ByteArray) (a0_4 : Int) (l0_5 : List Int) (a1 : Int) : Option (Int × (List (S98)) × List Int) := (laws_markAttrS.f k l0_2 a1).bind fun bt102 => ((laws_markIntS.f k l0_5 bt102.1).bind fun bt104 => (some (bt104.1, bt102.2, bt104.2)))
theorem laws_markNode.mono : ∀ a0 a1 a2 a3 a4 a5 a6 k, LeO (laws_markNode.f k a0 a1 a2 a3 a4 a5 a6) (laws_markNode.f (k + 1) a0 a1 a2 a3 a4 a5 a6) := by
 intro a0 a1 a2 a3 a4 a5 a6 k
 unfold laws_markNode.f
 repeat' first
  | (with_reducible exact laws_markAttrS.mono _ _ _)
  | (with_reducible exact laws_markIntS.mono _ _ _)
  | (with_reducible exact LeO.refl _)
  | (with_reducible exact LeO.none _)
  | (with_reducible refine LeO.ite ?_ ?_)
  | (with_reducible refine LeO.bind ?_ (fun _ => ?_))
  | exact laws_markAttrS.mono _ _ _
  | exact laws_markIntS.mono _ _ _
  | exact LeO.none _
  | refine LeO.ite ?_ ?_
  | refine LeO.bind ?_ (fun _ => ?_)
set_option maxHeartbeats 8000000 in
set_option maxRecDepth 100000 in
theorem laws_markNode.calls (k : Nat) (a0_0 : Int) (a0_1 : ByteArray) (P0_2_ : Nat → Prop) (u9000_ : Value) (l0_2 : List (S98)) (a0_3 : ByteArray) (a0_4 : Int) (P0_5_ : Nat → Prop) (u9001_ : Value) (l0_5 : List Int) (a1 : Int) (r1 : Int) (r2 : List (S98)) (r3 : List Int) (w0 w : World) (hB : Below w0.heap.size w0 w) (ho0_2 : Kd.R k98 98 w w0.heap.size P0_2_ u9000_ l0_2) (ho0_5 : Kd.R (Kd.int .i64) 3 w w0.heap.size P0_5_ u9001_ l0_5) (h : laws_markNode.f k a0_0 a0_1 l0_2 a0_3 a0_4 l0_5 a1 = some (r1, r2, r3)) :
 Calls Try.prog 26 #[.agg #[.int .i64 a0_0, .string a0_1, u9000_, .string a0_3, .int .i64 a0_4, u9001_], .int .i64 a1] w fun e w' => e = .returned (.int .i64 r1) ∧ Kd.R k98 98 w' w0.heap.size (fun k_ => ((P0_2_ k_ ∨ P0_5_ k_) ∨ w.heap.size ≤ k_)) u9000_ r2 ∧ Kd.R (Kd.int .i64) 3 w' w0.heap.size (fun k_ => ((P0_2_ k_ ∨ P0_5_ k_) ∨ w.heap.size ≤ k_)) u9001_ r3 ∧ Below w0.heap.size w0 w' ∧ Kept w w' (fun k_ => P0_2_ k_ ∨ P0_5_ k_) := by
 have hu45 := Try.underlying45
 have HO0_2 := Aside0.mk (show Kd.R k98 98 w w0.heap.size (fun k_ => ((P0_2_ k_ ∨ P0_5_ k_) ∨ w.heap.size ≤ k_)) u9000_ l0_2 from Kd.R_mono ho0_2 (fun k_ hk => (.inl (.inl hk))))
 have HO0_5 := Aside0.mk (show Kd.R (Kd.int .i64) 3 w w0.heap.size (fun k_ => ((P0_2_ k_ ∨ P0_5_ k_) ∨ w.heap.size ≤ k_)) u9001_ l0_5 from Kd.R_mono ho0_5 (fun k_ hk => (.inl (.inr hk))))
 have HK := Aside0.mk (Kept.refl w (fun k_ => P0_2_ k_ ∨ P0_5_ k_))
 have HW0 := Aside0.mk hB.size
 have HB := Aside0.mk hB
 clear hB
 have H : ((laws_markAttrS.f k l0_2 a1).bind fun bt102 => ((laws_markIntS.f k l0_5 bt102.1).bind fun bt104 => (some (bt104.1, bt102.2, bt104.2)))) = some (r1, r2, r3) := h
 clear h
 replace H := Option.bind_eq_some_iff.mp H
 obtain ⟨⟨t102, t103⟩, A30, H⟩ := H
 replace H : ((laws_markIntS.f k l0_5 t102).bind fun bt104 => (some (bt104.1, t103, bt104.2))) = some (r1, r2, r3) := H
 have A3 := Aside0.mk A30
 clear A30
 replace H := Option.bind_eq_some_iff.mp H
 obtain ⟨⟨t104, t105⟩, A40, H⟩ := H
 replace H : (some (t104, t103, t105)) = some (r1, r2, r3) := H
 have A4 := Aside0.mk A40
 clear A40
 simp only [Option.some.injEq, Prod.mk.injEq] at H
 obtain ⟨rfl, rfl, rfl⟩ := H
 obtain ⟨Ao5, co5, eo5⟩ := Kd.R_slice HO0_2.out
 subst eo5
 obtain ⟨Ao6, co6, eo6⟩ := Kd.R_slice HO0_5.out
 subst eo6
 go_enter Try.func26, Try.ntmps26
 go_wp2_with (first | ((with_reducible refine gate_dst (N := 2) rfl ?_); refine box_event ?hg (N := 2) ?hd (cs := #[.int .i64 a0_0, .string a0_1, .slice Ao5 l0_2.length co5, .string a0_3, .int .i64 a0_4, .slice Ao6 l0_5.length co6]) (t := 45) ?hr ?_; (case hd => rfl); (case hg => rfl); (case hr => first | (go_simp; done) | (go_simp; rfl)); intro gb101 hg w7 hbox hb; have n0_ := Aside0.mk (Kd.R_below HO0_2.out hb); have n1_ := Aside0.mk (Kd.R_below HO0_5.out hb); have n2_ := Aside0.mk (Kept.below (S := (fun k_ => P0_2_ k_ ∨ P0_5_ k_)) (HK.out) hb); have n3_ := Aside0.mk (below_step (HB.out) hb); have n4_ := Aside0.mk (hbox); have n5_ := Aside0.mk ((by rw [hg]; exact (by first | exact HK.out.1 | exact (show Kept w _ (fun k_ => P0_2_ k_ ∨ P0_5_ k_) from HK.out).1) : w.heap.size ≤ gb101)); have n6_ := Aside0.mk ((by rw [hg]; exact (below_size (HB.out)) : w0.heap.size ≤ gb101)); clear HO0_2; clear HO0_5; clear HK; clear HB; have HO0_2 := n0_; have HO0_5 := n1_; have HK := n2_; have HB := n3_; have BK101 := n4_; have GW101 := n5_; have GE101 := n6_; clear n0_ n1_ n2_ n3_ n4_ n5_ n6_; clear hb hbox hg; have hcz8_0 := blk_cell BK101.out 0; have hcz8_1 := blk_cell BK101.out 1; have hcz8_2 := blk_cell BK101.out 2; have hcz8_3 := blk_cell BK101.out 3; have hcz8_4 := blk_cell BK101.out 4; have hcz8_5 := blk_cell BK101.out 5; have hfz8_0 := blk_frozen BK101.out 0; have hfz8_1 := blk_frozen BK101.out 1; have hfz8_2 := blk_frozen BK101.out 2; have hfz8_3 := blk_frozen BK101.out 3; have hfz8_4 := blk_frozen BK101.out 4; have hfz8_5 := blk_frozen BK101.out 5) | ((with_reducible refine gate_callee (f := 60) rfl ?_); refine goesL_ (some 8) rfl rfl Try.func60 (by kernel_rfl) rfl #[.slice Ao5 l0_2.length co5, .int .i64 a1] rfl (by (try simp only [List.map_toArray, List.map_cons, List.map_nil]); first | done | rfl | (simp only [List.length_drop, List.length_take]; rfl)) ?_; (with_reducible refine (laws_markAttrS.calls k (fun k_ => some k_ = (.slice Ao5 l0_2.length co5 : Value).ownBlock) (.slice Ao5 l0_2.length co5) l0_2 a1 t102 t103 w0 _ ?side1 ?side2 A3.out).mono ?_); (case side1 => repeat (first | (with_reducible first | exact HB.out | apply below_alloc | apply pw_below_drewN | apply below_drew1 | refine below_set ?_ GE101.out) | exact HB.out)); (case side2 => exact Kd.R_tight rfl HO0_2.out); rintro e w9 ⟨rfl, hy0, hb, hkp⟩; refine ⟨_, rfl, ?_⟩; have n0_ := Aside0.mk (Kd.R_reok rfl hy0 (fun k_ e_ => HO0_2.out.1 k_ e_)); have n1_ := Aside0.mk (Kd.R_mono (ok' := fun k_ => ((P0_2_ k_ ∨ P0_5_ k_) ∨ w.heap.size ≤ k_)) (Kd.R_keptB ((Kd.R_apart' HO0_5.out (Kd.R_typed HO0_2.out) (by decide))) hkp (fun k_ hk_ hs_ => (hk_.2) hs_)) (fun k_ hk_ => hk_.1.1)); have n2_ := Aside0.mk (blk_kept BK101.out hkp (fun hs_ => (fun e_ => (Kd.R_ne HO0_2.out BK101.out (by decide)) e_) hs_)); have n3_ := Aside0.mk (Kept.then_ (S := (fun k_ => P0_2_ k_ ∨ P0_5_ k_)) (by repeat (first | exact HK.out | apply Kept.alloc | apply Kept.drewN | apply Kept.drew | refine Kept.setCell ?_ (.inr GW101.out) _)) hkp (fun k_ hs_ => (fun e_ => (HO0_2.out.1 k_ e_.symm)) hs_)); have n4_ := Aside0.mk (hb); clear HO0_2; clear HO0_5; clear BK101; clear HK; clear HB; have HO0_2 := n0_; have HO0_5 := n1_; have BK101 := n2_; have HK := n3_; have HB := n4_; clear n0_ n1_ n2_ n3_ n4_; (try clear hb); (try clear hkp); (try clear hy0); have hcz10_0 := blk_cell BK101.out 0; have hcz10_1 := blk_cell BK101.out 1; have hcz10_2 := blk_cell BK101.out 2; have hcz10_3 := blk_cell BK101.out 3; have hcz10_4 := blk_cell BK101.out 4; have hcz10_5 := blk_cell BK101.out 5; have hfz10_0 := blk_frozen BK101.out 0; have hfz10_1 := blk_frozen BK101.out 1; have hfz10_2 := blk_frozen BK101.out 2; have hfz10_3 := blk_frozen BK101.out 3; have hfz10_4 := blk_frozen BK101.out 4; have hfz10_5 := blk_frozen BK101.out 5) | ((with_reducible refine gate_callee (f := 61) rfl ?_); refine goesL_ (some 12) rfl rfl Try.func61 (by kernel_rfl) rfl #[.slice Ao6 l0_5.length co6, .int .i64 t102] rfl (by (try simp only [List.map_toArray, List.map_cons, List.map_nil]); first | done | rfl | (simp only [List.length_drop, List.length_take]; rfl)) ?_; (with_reducible refine (laws_markIntS.calls k (fun k_ => some k_ = (.slice Ao6 l0_5.length co6 : Value).ownBlock) (.slice Ao6 l0_5.length co6) l0_5 t102 t104 t105 w0 _ ?side1 ?side2 A4.out).mono ?_); (case side1 => repeat (first | (with_reducible first | exact HB.out | apply below_alloc | apply pw_below_drewN | apply below_drew1 | refine below_set ?_ GE101.out) | exact HB.out)); (case side2 => exact Kd.R_tight rfl HO0_5.out); rintro e w11 ⟨rfl, hy0, hb, hkp⟩; refine ⟨_, rfl, ?_⟩; have n0_ := Aside0.mk (Kd.R_mono (ok' := fun k_ => ((P0_2_ k_ ∨ P0_5_ k_) ∨ w.heap.size ≤ k_)) (Kd.R_keptB ((Kd.R_apart' HO0_2.out (Kd.R_typed HO0_5.out) (by decide))) hkp (fun k_ hk_ hs_ => (hk_.2) hs_)) (fun k_ hk_ => hk_.1.1)); have n1_ := Aside0.mk (Kd.R_reok rfl hy0 (fun k_ e_ => HO0_5.out.1 k_ e_)); have n2_ := Aside0.mk (blk_kept BK101.out hkp (fun hs_ => (fun e_ => (Kd.R_ne HO0_5.out BK101.out (by decide)) e_) hs_)); have n3_ := Aside0.mk (Kept.then_ (S := (fun k_ => P0_2_ k_ ∨ P0_5_ k_)) (by repeat (first | exact HK.out | apply Kept.alloc | apply Kept.drewN | apply Kept.drew | refine Kept.setCell ?_ (.inr GW101.out) _)) hkp (fun k_ hs_ => (fun e_ => (HO0_5.out.1 k_ e_.symm)) hs_)); have n4_ := Aside0.mk (hb); clear HO0_2; clear HO0_5; clear BK101; clear HK; clear HB; have HO0_2 := n0_; have HO0_5 := n1_; have BK101 := n2_; have HK := n3_; have HB := n4_; clear n0_ n1_ n2_ n3_ n4_; (try clear hb); (try clear hkp); (try clear hy0)))
 go_ret
 exact ⟨by first | rfl | (simp [*] <;> rfl), by (with_reducible repeat (first | apply Kd.R_alloc | apply Kd.R_drewN | apply Kd.R_drew)); exact HO0_2.out, by (with_reducible repeat (first | apply Kd.R_alloc | apply Kd.R_drewN | apply Kd.R_drew)); exact HO0_5.out, HB.out, by repeat (first | exact HK.out | apply Kept.alloc | apply Kept.drewN | apply Kept.drew | refine Kept.setCell ?_ (.inr GW101.out) _)⟩
end Go.Proofs.Ytgneacekgbjkkaa.X
