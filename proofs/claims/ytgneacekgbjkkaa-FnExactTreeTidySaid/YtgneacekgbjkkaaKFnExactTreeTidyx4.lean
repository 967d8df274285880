/- What the Go functions that FnExactTreeTidy reaches compute, and that their walks come to just that (written by a program of this project over the kit's print). Conditions: as each states. -/
import Derived.Lib.SliceRun
import Derived.RegionTactic
import Derived.Test.YtgneacekgbjkkaaKFnExactTreeTidyx3
namespace Go.Proofs.Ytgneacekgbjkkaa.X
open Go.RowKit Go.Proofs.YtgneacekgbjkkaaW.PrintWords Go.Proofs.YtgneacekgbjkkaaW.PrintLast Go.Proofs.YtgneacekgbjkkaaW.PrintMore
attribute [local go_sem] max2_int min2_int max_two min_two max_three min_three max_four min_four
set_option linter.unusedVariables false
set_option linter.unusedSimpArgs false
def impl_nodeOk.j0 : Nat → Bool → Int → ByteArray → List (S98) → ByteArray → Int → List Int → Option (Bool)
 | 0, _, _, _, _, _, _, _ => none
 | k + 1, x32, x102000, x102001, x102002, x102003, x102004, x102005 => if x32 = true then (some false) else (if x102000 = 1 then (if x102001.toList = ([] : List UInt8) then (if x102003.toList = ([] : List UInt8) then (some (x102004 == (-1))) else (some false)) else (some false)) else (if x102000 = 2 then ((impl_doctypeOk.f k x102001).bind fun t103 => (if t103 = true then (some (x102003.toList == ([] : List UInt8))) else (some false))) else (if x102000 = 3 then ((impl_NameOk.f k x102001).bind fun t104 => (if t104 = true then ((impl_AttrsOk.f k x102002).bind fun t105 => (if t105 = true then (some (x102003.toList == ([] : List UInt8))) else (some false))) else (some false))) else (if x102000 = 4 then (if x102001.toList = ([] : List UInt8) then (if x102003.toList = ([] : List UInt8) then (some false) else ((impl_textOk.f k x102003).bind fun t106 => (some t106))) else (some false)) else (if x102000 = 5 then (if x102001.toList = ([] : List UInt8) then ((impl_textOk.f k x102003).bind fun t107 => (some t107)) else (some false)) else (some false))))))
def impl_nodeOk.f (k : Nat) (a0_0 : Int) (a0_1 : ByteArray) (l0_2 : List (S98)) (a0_3 : ByteArray) (a0_4 : Int) (l0_5 : List Int) (a1 : Int) : Option (Bool) := if ((a0_0 == 1) != (a1 == 0)) = true then (impl_nodeOk.j0 k true a0_0 a0_1 l0_2 a0_3 a0_4 l0_5) else (if (l0_5.length : Int) > 0 then ((impl_Node_mayHold.f a0_0 a0_1 l0_2 a0_3 a0_4 l0_5).bind fun t102 => (if t102 = true then (if a0_0 = 3 then (impl_nodeOk.j0 k false a0_0 a0_1 l0_2 a0_3 a0_4 l0_5) else (impl_nodeOk.j0 k (decide ((l0_2.length : Int) > 0)) a0_0 a0_1 l0_2 a0_3 a0_4 l0_5)) else (impl_nodeOk.j0 k true a0_0 a0_1 l0_2 a0_3 a0_4 l0_5))) else (if a0_0 = 3 then (impl_nodeOk.j0 k false a0_0 a0_1 l0_2 a0_3 a0_4 l0_5) else (impl_nodeOk.j0 k (decide ((l0_2.length : Int) > 0)) a0_0 a0_1 l0_2 a0_3 a0_4 l0_5)))
theorem impl_nodeOk.mono_l : ∀ k, (∀ y0 y1 y2 y3 y4 y5 y6, LeO (impl_nodeOk.j0 k y0 y1 y2 y3 y4 y5 y6) (impl_nodeOk.j0 (k + 1) y0 y1 y2 y3 y4 y5 y6))
 | 0 => fun _ _ _ _ _ _ _ r h => by simp [impl_nodeOk.j0] at h
 | k + 1 => by
  have ih0 := impl_nodeOk.mono_l k
  · intro y0 y1 y2 y3 y4 y5 y6
    unfold impl_nodeOk.j0
    repeat' first
    | (with_reducible exact ih0 _ _ _ _ _ _ _)
    | (with_reducible exact impl_AttrsOk.mono _ _)
    | (with_reducible exact impl_NameOk.mono _ _)
    | (with_reducible exact impl_doctypeOk.mono _ _)
    | (with_reducible exact impl_textOk.mono _ _)
    | (with_reducible exact LeO.refl _)
    | (with_reducible exact LeO.none _)
    | (with_reducible refine LeO.ite ?_ ?_)
    | (with_reducible refine LeO.bind ?_ (fun _ => ?_))
    | exact ih0 _ _ _ _ _ _ _
    | exact impl_AttrsOk.mono _ _
    | exact impl_NameOk.mono _ _
    | exact impl_doctypeOk.mono _ _
    | exact impl_textOk.mono _ _
    | exact LeO.none _
    | refine LeO.ite ?_ ?_
    | refine LeO.bind ?_ (fun _ => ?_)
theorem impl_nodeOk.mono : ∀ a0 a1 a2 a3 a4 a5 a6 k, LeO (impl_nodeOk.f k a0 a1 a2 a3 a4 a5 a6) (impl_nodeOk.f (k + 1) a0 a1 a2 a3 a4 a5 a6) := by
 intro a0 a1 a2 a3 a4 a5 a6 k
 have ih0 := impl_nodeOk.mono_l k
 unfold impl_nodeOk.f
 repeat' first
  | (with_reducible exact ih0 _ _ _ _ _ _ _)
  | (with_reducible exact impl_AttrsOk.mono _ _)
  | (with_reducible exact impl_NameOk.mono _ _)
  | (with_reducible exact impl_doctypeOk.mono _ _)
  | (with_reducible exact impl_textOk.mono _ _)
  | (with_reducible exact LeO.refl _)
  | (with_reducible exact LeO.none _)
  | (with_reducible refine LeO.ite ?_ ?_)
  | (with_reducible refine LeO.bind ?_ (fun _ => ?_))
  | exact ih0 _ _ _ _ _ _ _
  | exact impl_AttrsOk.mono _ _
  | exact impl_NameOk.mono _ _
  | exact impl_doctypeOk.mono _ _
  | exact impl_textOk.mono _ _
  | exact LeO.none _
  | refine LeO.ite ?_ ?_
  | refine LeO.bind ?_ (fun _ => ?_)
set_option maxHeartbeats 8000000 in
set_option maxRecDepth 100000 in
theorem impl_nodeOk.calls (k : Nat) (a0_0 : Int) (a0_1 : ByteArray) (A0_2 : Option Addr) (c0_2 : Nat) (l0_2 : List (S98)) (a0_3 : ByteArray) (a0_4 : Int) (A0_5 : Option Addr) (c0_5 : Nat) (l0_5 : List Int) (a1 : Int) (r : Bool) (w : World) (hr0_2 : Kd.C k98 w A0_2 l0_2.length l0_2) (hc0_2 : l0_2.length ≤ c0_2) (hr0_5 : Kd.C (Kd.int .i64) w A0_5 l0_5.length l0_5) (hc0_5 : l0_5.length ≤ c0_5) (h : impl_nodeOk.f k a0_0 a0_1 l0_2 a0_3 a0_4 l0_5 a1 = some r) :
 Calls Try.prog 41 #[.agg #[.int .i64 a0_0, .string a0_1, .slice A0_2 l0_2.length c0_2, .string a0_3, .int .i64 a0_4, .slice A0_5 l0_5.length c0_5], .int .i64 a1] w fun e w' => e = .returned (.bool r) ∧ Below w.heap.size w w' := by
 have hu45 := Try.underlying45
 have HR0_2 := Aside0.mk hr0_2
 have HC0_2 := Aside0.mk hc0_2
 clear hr0_2 hc0_2
 have HR0_5 := Aside0.mk hr0_5
 have HC0_5 := Aside0.mk hc0_5
 clear hr0_5 hc0_5
 have HB := Aside0.mk (Below.refl w.heap.size w)
 have H : (if ((a0_0 == 1) != (a1 == 0)) = true then (impl_nodeOk.j0 k true a0_0 a0_1 l0_2 a0_3 a0_4 l0_5) else (if (l0_5.length : Int) > 0 then ((impl_Node_mayHold.f a0_0 a0_1 l0_2 a0_3 a0_4 l0_5).bind fun t102 => (if t102 = true then (if a0_0 = 3 then (impl_nodeOk.j0 k false a0_0 a0_1 l0_2 a0_3 a0_4 l0_5) else (impl_nodeOk.j0 k (decide ((l0_2.length : Int) > 0)) a0_0 a0_1 l0_2 a0_3 a0_4 l0_5)) else (impl_nodeOk.j0 k true a0_0 a0_1 l0_2 a0_3 a0_4 l0_5))) else (if a0_0 = 3 then (impl_nodeOk.j0 k false a0_0 a0_1 l0_2 a0_3 a0_4 l0_5) else (impl_nodeOk.j0 k (decide ((l0_2.length : Int) > 0)) a0_0 a0_1 l0_2 a0_3 a0_4 l0_5)))) = some r := h
 clear h
 have HC3 := Aside0.mk H
 clear H
 go_enter Try.func41, Try.ntmps41
 go_upto_region 1 with (first | ((with_reducible refine gate_dst (N := 2) rfl ?_); (try (refine gate_guard (by rfl) ?_; dsimp only)); refine box_event ?hg (N := 2) ?hd (cs := #[.int .i64 a0_0, .string a0_1, .slice A0_2 l0_2.length c0_2, .string a0_3, .int .i64 a0_4, .slice A0_5 l0_5.length c0_5]) (t := 45) ?hr ?_; (case hd => rfl); (case hg => rfl); (case hr => first | (go_simp; done) | (go_simp; rfl)); intro gb101 hg w4 hbox hb; have n0_ := Aside0.mk (below_step (by repeat (first | exact HB.out | apply below_alloc | apply pw_below_drewN | apply below_drew1)) hb); have n1_ := Aside0.mk (hbox); have n2_ := Aside0.mk ((by rw [hg]; exact (below_size (by repeat (first | exact HB.out | apply below_alloc | apply pw_below_drewN | apply below_drew1))) : w.heap.size ≤ gb101)); have n3_ := n2_; clear HB; have HB := n0_; have BK101 := n1_; have GW101 := n2_; have GE101 := n3_; clear n0_ n1_ n2_ n3_; clear hb hbox hg))
 (try simp only [Act.put, List.setIfInBounds_toArray, List.set_cons_zero, List.set_cons_succ])
 go_cut [32] (fun v32 wc => ∃ (kq : Nat) (x32_2 : Bool), v32 = .bool x32_2 ∧ Aside0 (impl_nodeOk.j0 kq x32_2 a0_0 a0_1 l0_2 a0_3 a0_4 l0_5 = some r) ∧ Aside0 (kq ≤ k) ∧ Aside0 (wc.heap[gb101]? = some (.cells #[.int .i64 a0_0, .string a0_1, (.slice A0_2 l0_2.length c0_2), .string a0_3, .int .i64 a0_4, (.slice A0_5 l0_5.length c0_5)] 45 (0, 0))) ∧ Aside0 (Below w.heap.size w wc))
 case first =>
  have H := HC3.out
  clear HC3
  by_cases c5 : ((a0_0 == 1) != (a1 == 0)) = true
  · rw [if_pos c5] at H
    have c5b0 : ((a0_0 == 1) != (a1 == 0)) = true := c5
    (try (have c5b1 : decide ((a0_0 == 1) = (a1 == 0)) = false := by simpa using c5))
    (try (have c5b2 : ((a0_0 == 1) == (a1 == 0)) = false := by simpa using c5))
    (try (have c5b3 : ¬ ((a0_0 == 1) = (a1 == 0)) := by simpa using c5))
    clear c5
    (first | rw [c5b0] | (simp only [i64_w, i32_w]; rw [c5b0]) | skip)
    have H' := Aside0.mk H
    clear H
    have hcz6_0 := blk_cell BK101.out 0
    have hcz6_1 := blk_cell BK101.out 1
    have hcz6_2 := blk_cell BK101.out 2
    have hcz6_3 := blk_cell BK101.out 3
    have hcz6_4 := blk_cell BK101.out 4
    have hcz6_5 := blk_cell BK101.out 5
    have hfz6_0 := blk_frozen BK101.out 0
    have hfz6_1 := blk_frozen BK101.out 1
    have hfz6_2 := blk_frozen BK101.out 2
    have hfz6_3 := blk_frozen BK101.out 3
    have hfz6_4 := blk_frozen BK101.out 4
    have hfz6_5 := blk_frozen BK101.out 5
    go_wp2
    go_meet
    case rel => exact ⟨_, (true), (by first | rfl | (simp; done) | (simp [*]; done)), H', ⟨by first | omega | exact Nat.le_refl _⟩, ⟨by (with_reducible repeat (first | refine blk_drewN ?_ _ | refine blk_drew ?_ | refine blk_alloc ?_ _)); exact BK101.out⟩, ⟨by repeat (first | exact HB.out | apply below_alloc | apply pw_below_drewN | apply below_drew1 | refine below_set ?_ GE101.out)⟩⟩
  · rw [if_neg c5] at H
    have c5b0 : ((a0_0 == 1) != (a1 == 0)) = false := by simpa using c5
    (try (have c5b1 : decide ((a0_0 == 1) = (a1 == 0)) = true := by simpa using c5))
    (try (have c5b2 : ((a0_0 == 1) == (a1 == 0)) = true := by simpa using c5))
    clear c5
    (first | rw [c5b0] | (simp only [i64_w, i32_w]; rw [c5b0]) | skip)
    by_cases c7 : (l0_5.length : Int) > 0
    · rw [if_pos c7] at H
      have c7b0 : decide (0 < (l0_5.length : Int)) = true := decide_eq_true c7
      have c7b1 : decide (0 < l0_5.length) = true := decide_eq_true (by omega)
      clear c7
      replace H := Option.bind_eq_some_iff.mp H
      obtain ⟨t102, A80, H⟩ := H
      replace H : (if t102 = true then (if a0_0 = 3 then (impl_nodeOk.j0 k false a0_0 a0_1 l0_2 a0_3 a0_4 l0_5) else (impl_nodeOk.j0 k (decide ((l0_2.length : Int) > 0)) a0_0 a0_1 l0_2 a0_3 a0_4 l0_5)) else (impl_nodeOk.j0 k true a0_0 a0_1 l0_2 a0_3 a0_4 l0_5)) = some r := H
      have A8 := Aside0.mk A80
      clear A80
      by_cases c9 : t102 = true
      · subst c9
        rw [if_pos rfl] at H
        by_cases c10 : a0_0 = 3
        · rw [if_pos c10] at H
          have c10b0 : (a0_0 == 3) = true := beq_iff_eq.mpr c10
          have c10b1 : (a0_0 != 3) = false := bne_eq_false_iff_eq.mpr c10
          clear c10
          have H' := Aside0.mk H
          clear H
          have hcz11_0 := blk_cell BK101.out 0
          have hcz11_1 := blk_cell BK101.out 1
          have hcz11_2 := blk_cell BK101.out 2
          have hcz11_3 := blk_cell BK101.out 3
          have hcz11_4 := blk_cell BK101.out 4
          have hcz11_5 := blk_cell BK101.out 5
          have hfz11_0 := blk_frozen BK101.out 0
          have hfz11_1 := blk_frozen BK101.out 1
          have hfz11_2 := blk_frozen BK101.out 2
          have hfz11_3 := blk_frozen BK101.out 3
          have hfz11_4 := blk_frozen BK101.out 4
          have hfz11_5 := blk_frozen BK101.out 5
          go_wp2_with (first | (go_at_call 82; (with_reducible refine (impl_Node_mayHold.calls a0_0 a0_1 _ _ l0_2 a0_3 a0_4 _ _ l0_5 true _ ?side1 ?side2 ?side3 ?side4 A8.out).mono ?_); (case side1 => repeat (first | exact (Kd.C_below HR0_2.out HB.out) | (with_reducible refine Kd.C_alloc ?_ _) | (with_reducible refine Kd.C_drewN ?_ _) | (with_reducible refine Kd.C_drew ?_))); (case side2 => exact HC0_2.out); (case side3 => repeat (first | exact (Kd.C_below HR0_5.out HB.out) | (with_reducible refine Kd.C_alloc ?_ _) | (with_reducible refine Kd.C_drewN ?_ _) | (with_reducible refine Kd.C_drew ?_))); (case side4 => exact HC0_5.out); rintro e w12 ⟨rfl, hb⟩; have n0_ := Aside0.mk (blk_below (g := gb101) (o := .cells #[.int .i64 a0_0, .string a0_1, .slice A0_2 l0_2.length c0_2, .string a0_3, .int .i64 a0_4, .slice A0_5 l0_5.length c0_5] 45 (0, 0)) (by (with_reducible repeat (first | refine blk_drewN ?_ _ | refine blk_drew ?_ | refine blk_alloc ?_ _)); exact BK101.out) hb); have n1_ := Aside0.mk (below_step (by repeat (first | exact HB.out | apply below_alloc | apply pw_below_drewN | apply below_drew1 | refine below_set ?_ GE101.out)) hb); clear BK101; clear HB; have BK101 := n0_; have HB := n1_; clear n0_ n1_; (try clear hb); (try clear hb2); (try clear hk); (try clear hi); have hcz13_0 := blk_cell BK101.out 0; have hcz13_1 := blk_cell BK101.out 1; have hcz13_2 := blk_cell BK101.out 2; have hcz13_3 := blk_cell BK101.out 3; have hcz13_4 := blk_cell BK101.out 4; have hcz13_5 := blk_cell BK101.out 5; have hfz13_0 := blk_frozen BK101.out 0; have hfz13_1 := blk_frozen BK101.out 1; have hfz13_2 := blk_frozen BK101.out 2; have hfz13_3 := blk_frozen BK101.out 3; have hfz13_4 := blk_frozen BK101.out 4; have hfz13_5 := blk_frozen BK101.out 5))
          go_meet
          case rel => exact ⟨_, (false), (by first | rfl | (simp; done) | (simp [*]; done)), H', ⟨by first | omega | exact Nat.le_refl _⟩, ⟨by (with_reducible repeat (first | refine blk_drewN ?_ _ | refine blk_drew ?_ | refine blk_alloc ?_ _)); exact BK101.out⟩, ⟨by repeat (first | exact HB.out | apply below_alloc | apply pw_below_drewN | apply below_drew1 | refine below_set ?_ GE101.out)⟩⟩
        · rw [if_neg c10] at H
          have c10b0 : (a0_0 == 3) = false := beq_eq_false_iff_ne.mpr c10
          have c10b1 : (a0_0 != 3) = true := bne_iff_ne.mpr c10
          have H' := Aside0.mk H
          clear H
          have hcz14_0 := blk_cell BK101.out 0
          have hcz14_1 := blk_cell BK101.out 1
          have hcz14_2 := blk_cell BK101.out 2
          have hcz14_3 := blk_cell BK101.out 3
          have hcz14_4 := blk_cell BK101.out 4
          have hcz14_5 := blk_cell BK101.out 5
          have hfz14_0 := blk_frozen BK101.out 0
          have hfz14_1 := blk_frozen BK101.out 1
          have hfz14_2 := blk_frozen BK101.out 2
          have hfz14_3 := blk_frozen BK101.out 3
          have hfz14_4 := blk_frozen BK101.out 4
          have hfz14_5 := blk_frozen BK101.out 5
          go_wp2_with (first | (go_at_call 82; (with_reducible refine (impl_Node_mayHold.calls a0_0 a0_1 _ _ l0_2 a0_3 a0_4 _ _ l0_5 true _ ?side1 ?side2 ?side3 ?side4 A8.out).mono ?_); (case side1 => repeat (first | exact (Kd.C_below HR0_2.out HB.out) | (with_reducible refine Kd.C_alloc ?_ _) | (with_reducible refine Kd.C_drewN ?_ _) | (with_reducible refine Kd.C_drew ?_))); (case side2 => exact HC0_2.out); (case side3 => repeat (first | exact (Kd.C_below HR0_5.out HB.out) | (with_reducible refine Kd.C_alloc ?_ _) | (with_reducible refine Kd.C_drewN ?_ _) | (with_reducible refine Kd.C_drew ?_))); (case side4 => exact HC0_5.out); rintro e w15 ⟨rfl, hb⟩; have n0_ := Aside0.mk (blk_below (g := gb101) (o := .cells #[.int .i64 a0_0, .string a0_1, .slice A0_2 l0_2.length c0_2, .string a0_3, .int .i64 a0_4, .slice A0_5 l0_5.length c0_5] 45 (0, 0)) (by (with_reducible repeat (first | refine blk_drewN ?_ _ | refine blk_drew ?_ | refine blk_alloc ?_ _)); exact BK101.out) hb); have n1_ := Aside0.mk (below_step (by repeat (first | exact HB.out | apply below_alloc | apply pw_below_drewN | apply below_drew1 | refine below_set ?_ GE101.out)) hb); clear BK101; clear HB; have BK101 := n0_; have HB := n1_; clear n0_ n1_; (try clear hb); (try clear hb2); (try clear hk); (try clear hi); have hcz16_0 := blk_cell BK101.out 0; have hcz16_1 := blk_cell BK101.out 1; have hcz16_2 := blk_cell BK101.out 2; have hcz16_3 := blk_cell BK101.out 3; have hcz16_4 := blk_cell BK101.out 4; have hcz16_5 := blk_cell BK101.out 5; have hfz16_0 := blk_frozen BK101.out 0; have hfz16_1 := blk_frozen BK101.out 1; have hfz16_2 := blk_frozen BK101.out 2; have hfz16_3 := blk_frozen BK101.out 3; have hfz16_4 := blk_frozen BK101.out 4; have hfz16_5 := blk_frozen BK101.out 5))
          go_meet
          case rel => exact ⟨_, (decide ((l0_2.length : Int) > 0)), (by first | rfl | (simp; done) | (simp [*]; done)), H', ⟨by first | omega | exact Nat.le_refl _⟩, ⟨by (with_reducible repeat (first | refine blk_drewN ?_ _ | refine blk_drew ?_ | refine blk_alloc ?_ _)); exact BK101.out⟩, ⟨by repeat (first | exact HB.out | apply below_alloc | apply pw_below_drewN | apply below_drew1 | refine below_set ?_ GE101.out)⟩⟩
      · replace c9 := Bool.eq_false_iff.mpr c9
        subst c9
        rw [if_neg (show ¬ (false = true) by decide)] at H
        have H' := Aside0.mk H
        clear H
        have hcz17_0 := blk_cell BK101.out 0
        have hcz17_1 := blk_cell BK101.out 1
        have hcz17_2 := blk_cell BK101.out 2
        have hcz17_3 := blk_cell BK101.out 3
        have hcz17_4 := blk_cell BK101.out 4
        have hcz17_5 := blk_cell BK101.out 5
        have hfz17_0 := blk_frozen BK101.out 0
        have hfz17_1 := blk_frozen BK101.out 1
        have hfz17_2 := blk_frozen BK101.out 2
        have hfz17_3 := blk_frozen BK101.out 3
        have hfz17_4 := blk_frozen BK101.out 4
        have hfz17_5 := blk_frozen BK101.out 5
        go_wp2_with (first | (go_at_call 82; (with_reducible refine (impl_Node_mayHold.calls a0_0 a0_1 _ _ l0_2 a0_3 a0_4 _ _ l0_5 false _ ?side1 ?side2 ?side3 ?side4 A8.out).mono ?_); (case side1 => repeat (first | exact (Kd.C_below HR0_2.out HB.out) | (with_reducible refine Kd.C_alloc ?_ _) | (with_reducible refine Kd.C_drewN ?_ _) | (with_reducible refine Kd.C_drew ?_))); (case side2 => exact HC0_2.out); (case side3 => repeat (first | exact (Kd.C_below HR0_5.out HB.out) | (with_reducible refine Kd.C_alloc ?_ _) | (with_reducible refine Kd.C_drewN ?_ _) | (with_reducible refine Kd.C_drew ?_))); (case side4 => exact HC0_5.out); rintro e w18 ⟨rfl, hb⟩; have n0_ := Aside0.mk (blk_below (g := gb101) (o := .cells #[.int .i64 a0_0, .string a0_1, .slice A0_2 l0_2.length c0_2, .string a0_3, .int .i64 a0_4, .slice A0_5 l0_5.length c0_5] 45 (0, 0)) (by (with_reducible repeat (first | refine blk_drewN ?_ _ | refine blk_drew ?_ | refine blk_alloc ?_ _)); exact BK101.out) hb); have n1_ := Aside0.mk (below_step (by repeat (first | exact HB.out | apply below_alloc | apply pw_below_drewN | apply below_drew1 | refine below_set ?_ GE101.out)) hb); clear BK101; clear HB; have BK101 := n0_; have HB := n1_; clear n0_ n1_; (try clear hb); (try clear hb2); (try clear hk); (try clear hi)))
        go_meet
        case rel => exact ⟨_, (true), (by first | rfl | (simp; done) | (simp [*]; done)), H', ⟨by first | omega | exact Nat.le_refl _⟩, ⟨by (with_reducible repeat (first | refine blk_drewN ?_ _ | refine blk_drew ?_ | refine blk_alloc ?_ _)); exact BK101.out⟩, ⟨by repeat (first | exact HB.out | apply below_alloc | apply pw_below_drewN | apply below_drew1 | refine below_set ?_ GE101.out)⟩⟩
    · rw [if_neg c7] at H
      have c7b0 : decide (0 < (l0_5.length : Int)) = false := decide_eq_false c7
      have c7b1 : decide (0 < l0_5.length) = false := decide_eq_false (by omega)
      clear c7
      by_cases c19 : a0_0 = 3
      · rw [if_pos c19] at H
        have c19b0 : (a0_0 == 3) = true := beq_iff_eq.mpr c19
        have c19b1 : (a0_0 != 3) = false := bne_eq_false_iff_eq.mpr c19
        clear c19
        have H' := Aside0.mk H
        clear H
        have hcz20_0 := blk_cell BK101.out 0
        have hcz20_1 := blk_cell BK101.out 1
        have hcz20_2 := blk_cell BK101.out 2
        have hcz20_3 := blk_cell BK101.out 3
        have hcz20_4 := blk_cell BK101.out 4
        have hcz20_5 := blk_cell BK101.out 5
        have hfz20_0 := blk_frozen BK101.out 0
        have hfz20_1 := blk_frozen BK101.out 1
        have hfz20_2 := blk_frozen BK101.out 2
        have hfz20_3 := blk_frozen BK101.out 3
        have hfz20_4 := blk_frozen BK101.out 4
        have hfz20_5 := blk_frozen BK101.out 5
        go_wp2
        go_meet
        case rel => exact ⟨_, (false), (by first | rfl | (simp; done) | (simp [*]; done)), H', ⟨by first | omega | exact Nat.le_refl _⟩, ⟨by (with_reducible repeat (first | refine blk_drewN ?_ _ | refine blk_drew ?_ | refine blk_alloc ?_ _)); exact BK101.out⟩, ⟨by repeat (first | exact HB.out | apply below_alloc | apply pw_below_drewN | apply below_drew1 | refine below_set ?_ GE101.out)⟩⟩
      · rw [if_neg c19] at H
        have c19b0 : (a0_0 == 3) = false := beq_eq_false_iff_ne.mpr c19
        have c19b1 : (a0_0 != 3) = true := bne_iff_ne.mpr c19
        have H' := Aside0.mk H
        clear H
        have hcz21_0 := blk_cell BK101.out 0
        have hcz21_1 := blk_cell BK101.out 1
        have hcz21_2 := blk_cell BK101.out 2
        have hcz21_3 := blk_cell BK101.out 3
        have hcz21_4 := blk_cell BK101.out 4
        have hcz21_5 := blk_cell BK101.out 5
        have hfz21_0 := blk_frozen BK101.out 0
        have hfz21_1 := blk_frozen BK101.out 1
        have hfz21_2 := blk_frozen BK101.out 2
        have hfz21_3 := blk_frozen BK101.out 3
        have hfz21_4 := blk_frozen BK101.out 4
        have hfz21_5 := blk_frozen BK101.out 5
        go_wp2
        go_meet
        case rel => exact ⟨_, (decide ((l0_2.length : Int) > 0)), (by first | rfl | (simp; done) | (simp [*]; done)), H', ⟨by first | omega | exact Nat.le_refl _⟩, ⟨by (with_reducible repeat (first | refine blk_drewN ?_ _ | refine blk_drew ?_ | refine blk_alloc ?_ _)); exact BK101.out⟩, ⟨by repeat (first | exact HB.out | apply below_alloc | apply pw_below_drewN | apply below_drew1 | refine below_set ?_ GE101.out)⟩⟩
 case rest =>
  clear HC3
  try clear c1
  try clear p2
  try clear c4
  try clear c5
  try clear c5b0
  try clear c5b1
  try clear c5b2
  try clear c7
  try clear c7b0
  try clear c7b1
  try clear c9
  try clear c10
  try clear c10b0
  try clear c10b1
  try clear c19
  try clear c19b0
  try clear c19b1
  try clear hcz11_0
  try clear hcz11_1
  try clear hcz11_2
  try clear hcz11_3
  try clear hcz11_4
  try clear hcz11_5
  try clear hcz13_0
  try clear hcz13_1
  try clear hcz13_2
  try clear hcz13_3
  try clear hcz13_4
  try clear hcz13_5
  try clear hcz14_0
  try clear hcz14_1
  try clear hcz14_2
  try clear hcz14_3
  try clear hcz14_4
  try clear hcz14_5
  try clear hcz16_0
  try clear hcz16_1
  try clear hcz16_2
  try clear hcz16_3
  try clear hcz16_4
  try clear hcz16_5
  try clear hcz17_0
  try clear hcz17_1
  try clear hcz17_2
  try clear hcz17_3
  try clear hcz17_4
  try clear hcz17_5
  try clear hcz20_0
  try clear hcz20_1
  try clear hcz20_2
  try clear hcz20_3
  try clear hcz20_4
  try clear hcz20_5
  try clear hcz21_0
  try clear hcz21_1
  try clear hcz21_2
  try clear hcz21_3
  try clear hcz21_4
  try clear hcz21_5
  try clear hcz6_0
  try clear hcz6_1
  try clear hcz6_2
  try clear hcz6_3
  try clear hcz6_4
  try clear hcz6_5
  try clear hfz11_0
  try clear hfz11_1
  try clear hfz11_2
  try clear hfz11_3
  try clear hfz11_4
  try clear hfz11_5
  try clear hfz13_0
  try clear hfz13_1
  try clear hfz13_2
  try clear hfz13_3
  try clear hfz13_4
  try clear hfz13_5
  try clear hfz14_0
  try clear hfz14_1
  try clear hfz14_2
  try clear hfz14_3
  try clear hfz14_4
  try clear hfz14_5
  try clear hfz16_0
  try clear hfz16_1
  try clear hfz16_2
  try clear hfz16_3
  try clear hfz16_4
  try clear hfz16_5
  try clear hfz17_0
  try clear hfz17_1
  try clear hfz17_2
  try clear hfz17_3
  try clear hfz17_4
  try clear hfz17_5
  try clear hfz20_0
  try clear hfz20_1
  try clear hfz20_2
  try clear hfz20_3
  try clear hfz20_4
  try clear hfz20_5
  try clear hfz21_0
  try clear hfz21_1
  try clear hfz21_2
  try clear hfz21_3
  try clear hfz21_4
  try clear hfz21_5
  try clear hfz6_0
  try clear hfz6_1
  try clear hfz6_2
  try clear hfz6_3
  try clear hfz6_4
  try clear hfz6_5
  obtain ⟨kq, x32_2, rfl, HA, HJ2, BK101, HB⟩ := hcut
  cases kq with
  | zero => exact absurd HA.out (by simp [impl_nodeOk.j0])
  | succ kj2 =>
   have H := HA.out
   clear HA
   simp only [impl_nodeOk.j0] at H
   by_cases c22 : x32_2 = true
   · subst c22
     rw [if_pos rfl] at H
     obtain rfl := Option.some.inj H
     go_wp2
     go_ret
     exact ⟨by first | rfl | (simp [*] <;> rfl), by repeat (first | exact HB.out | apply below_alloc | apply pw_below_drewN | apply below_drew1 | refine below_set ?_ GE101.out)⟩
   · replace c22 := Bool.eq_false_iff.mpr c22
     subst c22
     rw [if_neg (show ¬ (false = true) by decide)] at H
     by_cases c23 : a0_0 = 1
     · rw [if_pos c23] at H
       have c23b0 : (a0_0 == 1) = true := beq_iff_eq.mpr c23
       have c23b1 : (a0_0 != 1) = false := bne_eq_false_iff_eq.mpr c23
       clear c23
       by_cases c24 : a0_1.toList = ([] : List UInt8)
       · rw [if_pos c24] at H
         have c24b0 : (a0_1.toList == ([] : List UInt8)) = true := beq_iff_eq.mpr c24
         have c24b1 : (a0_1.toList != ([] : List UInt8)) = false := bne_eq_false_iff_eq.mpr c24
         clear c24
         by_cases c25 : a0_3.toList = ([] : List UInt8)
         · rw [if_pos c25] at H
           have c25b0 : (a0_3.toList == ([] : List UInt8)) = true := beq_iff_eq.mpr c25
           have c25b1 : (a0_3.toList != ([] : List UInt8)) = false := bne_eq_false_iff_eq.mpr c25
           clear c25
           obtain rfl := Option.some.inj H
           have hcz26_0 := blk_cell BK101.out 0
           have hcz26_1 := blk_cell BK101.out 1
           have hcz26_2 := blk_cell BK101.out 2
           have hcz26_3 := blk_cell BK101.out 3
           have hcz26_4 := blk_cell BK101.out 4
           have hcz26_5 := blk_cell BK101.out 5
           have hfz26_0 := blk_frozen BK101.out 0
           have hfz26_1 := blk_frozen BK101.out 1
           have hfz26_2 := blk_frozen BK101.out 2
           have hfz26_3 := blk_frozen BK101.out 3
           have hfz26_4 := blk_frozen BK101.out 4
           have hfz26_5 := blk_frozen BK101.out 5
           go_wp2
           go_ret
           exact ⟨by first | rfl | (simp [*] <;> rfl), by repeat (first | exact HB.out | apply below_alloc | apply pw_below_drewN | apply below_drew1 | refine below_set ?_ GE101.out)⟩
         · rw [if_neg c25] at H
           have c25b0 : (a0_3.toList == ([] : List UInt8)) = false := beq_eq_false_iff_ne.mpr c25
           have c25b1 : (a0_3.toList != ([] : List UInt8)) = true := bne_iff_ne.mpr c25
           obtain rfl := Option.some.inj H
           have hcz27_0 := blk_cell BK101.out 0
           have hcz27_1 := blk_cell BK101.out 1
           have hcz27_2 := blk_cell BK101.out 2
           have hcz27_3 := blk_cell BK101.out 3
           have hcz27_4 := blk_cell BK101.out 4
           have hcz27_5 := blk_cell BK101.out 5
           have hfz27_0 := blk_frozen BK101.out 0
           have hfz27_1 := blk_frozen BK101.out 1
           have hfz27_2 := blk_frozen BK101.out 2
           have hfz27_3 := blk_frozen BK101.out 3
           have hfz27_4 := blk_frozen BK101.out 4
           have hfz27_5 := blk_frozen BK101.out 5
           go_wp2
           go_ret
           exact ⟨by first | rfl | (simp [*] <;> rfl), by repeat (first | exact HB.out | apply below_alloc | apply pw_below_drewN | apply below_drew1 | refine below_set ?_ GE101.out)⟩
       · rw [if_neg c24] at H
         have c24b0 : (a0_1.toList == ([] : List UInt8)) = false := beq_eq_false_iff_ne.mpr c24
         have c24b1 : (a0_1.toList != ([] : List UInt8)) = true := bne_iff_ne.mpr c24
         obtain rfl := Option.some.inj H
         have hcz28_0 := blk_cell BK101.out 0
         have hcz28_1 := blk_cell BK101.out 1
         have hcz28_2 := blk_cell BK101.out 2
         have hcz28_3 := blk_cell BK101.out 3
         have hcz28_4 := blk_cell BK101.out 4
         have hcz28_5 := blk_cell BK101.out 5
         have hfz28_0 := blk_frozen BK101.out 0
         have hfz28_1 := blk_frozen BK101.out 1
         have hfz28_2 := blk_frozen BK101.out 2
         have hfz28_3 := blk_frozen BK101.out 3
         have hfz28_4 := blk_frozen BK101.out 4
         have hfz28_5 := blk_frozen BK101.out 5
         go_wp2
         go_ret
         exact ⟨by first | rfl | (simp [*] <;> rfl), by repeat (first | exact HB.out | apply below_alloc | apply pw_below_drewN | apply below_drew1 | refine below_set ?_ GE101.out)⟩
     · rw [if_neg c23] at H
       have c23b0 : (a0_0 == 1) = false := beq_eq_false_iff_ne.mpr c23
       have c23b1 : (a0_0 != 1) = true := bne_iff_ne.mpr c23
       by_cases c29 : a0_0 = 2
       · rw [if_pos c29] at H
         have c29b0 : (a0_0 == 2) = true := beq_iff_eq.mpr c29
         have c29b1 : (a0_0 != 2) = false := bne_eq_false_iff_eq.mpr c29
         clear c29
         replace H := Option.bind_eq_some_iff.mp H
         obtain ⟨t103, A300, H⟩ := H
         replace H : (if t103 = true then (some (a0_3.toList == ([] : List UInt8))) else (some false)) = some r := H
         have A30 := Aside0.mk A300
         clear A300
         by_cases c31 : t103 = true
         · subst c31
           rw [if_pos rfl] at H
           obtain rfl := Option.some.inj H
           have hcz32_0 := blk_cell BK101.out 0
           have hcz32_1 := blk_cell BK101.out 1
           have hcz32_2 := blk_cell BK101.out 2
           have hcz32_3 := blk_cell BK101.out 3
           have hcz32_4 := blk_cell BK101.out 4
           have hcz32_5 := blk_cell BK101.out 5
           have hfz32_0 := blk_frozen BK101.out 0
           have hfz32_1 := blk_frozen BK101.out 1
           have hfz32_2 := blk_frozen BK101.out 2
           have hfz32_3 := blk_frozen BK101.out 3
           have hfz32_4 := blk_frozen BK101.out 4
           have hfz32_5 := blk_frozen BK101.out 5
           go_wp2_with (first | ((with_reducible refine gate_callee (f := 83) rfl ?_); refine goesL_ (some 54) rfl rfl Try.func83 (by kernel_rfl) rfl #[.string a0_1] rfl (by (try simp only [List.map_toArray, List.map_cons, List.map_nil]); first | done | rfl | (simp only [List.length_drop, List.length_take]; rfl)) ?_; (with_reducible refine (impl_doctypeOk.calls kj2 a0_1 true _ A30.out).mono ?_); rintro e w33 ⟨rfl, hb⟩; refine ⟨_, rfl, ?_⟩; have n0_ := Aside0.mk (blk_below (g := gb101) (o := .cells #[.int .i64 a0_0, .string a0_1, .slice A0_2 l0_2.length c0_2, .string a0_3, .int .i64 a0_4, .slice A0_5 l0_5.length c0_5] 45 (0, 0)) (by (with_reducible repeat (first | refine blk_drewN ?_ _ | refine blk_drew ?_ | refine blk_alloc ?_ _)); exact BK101.out) hb); have n1_ := Aside0.mk (below_step (by repeat (first | exact HB.out | apply below_alloc | apply pw_below_drewN | apply below_drew1 | refine below_set ?_ GE101.out)) hb); clear BK101; clear HB; have BK101 := n0_; have HB := n1_; clear n0_ n1_; (try clear hb); (try clear hb2); (try clear hk); (try clear hi); have hcz34_0 := blk_cell BK101.out 0; have hcz34_1 := blk_cell BK101.out 1; have hcz34_2 := blk_cell BK101.out 2; have hcz34_3 := blk_cell BK101.out 3; have hcz34_4 := blk_cell BK101.out 4; have hcz34_5 := blk_cell BK101.out 5; have hfz34_0 := blk_frozen BK101.out 0; have hfz34_1 := blk_frozen BK101.out 1; have hfz34_2 := blk_frozen BK101.out 2; have hfz34_3 := blk_frozen BK101.out 3; have hfz34_4 := blk_frozen BK101.out 4; have hfz34_5 := blk_frozen BK101.out 5))
           go_ret
           exact ⟨by first | rfl | (simp [*] <;> rfl), by repeat (first | exact HB.out | apply below_alloc | apply pw_below_drewN | apply below_drew1 | refine below_set ?_ GE101.out)⟩
         · replace c31 := Bool.eq_false_iff.mpr c31
           subst c31
           rw [if_neg (show ¬ (false = true) by decide)] at H
           obtain rfl := Option.some.inj H
           have hcz35_0 := blk_cell BK101.out 0
           have hcz35_1 := blk_cell BK101.out 1
           have hcz35_2 := blk_cell BK101.out 2
           have hcz35_3 := blk_cell BK101.out 3
           have hcz35_4 := blk_cell BK101.out 4
           have hcz35_5 := blk_cell BK101.out 5
           have hfz35_0 := blk_frozen BK101.out 0
           have hfz35_1 := blk_frozen BK101.out 1
           have hfz35_2 := blk_frozen BK101.out 2
           have hfz35_3 := blk_frozen BK101.out 3
           have hfz35_4 := blk_frozen BK101.out 4
           have hfz35_5 := blk_frozen BK101.out 5
           go_wp2_with (first | ((with_reducible refine gate_callee (f := 83) rfl ?_); refine goesL_ (some 54) rfl rfl Try.func83 (by kernel_rfl) rfl #[.string a0_1] rfl (by (try simp only [List.map_toArray, List.map_cons, List.map_nil]); first | done | rfl | (simp only [List.length_drop, List.length_take]; rfl)) ?_; (with_reducible refine (impl_doctypeOk.calls kj2 a0_1 false _ A30.out).mono ?_); rintro e w36 ⟨rfl, hb⟩; refine ⟨_, rfl, ?_⟩; have n0_ := Aside0.mk (blk_below (g := gb101) (o := .cells #[.int .i64 a0_0, .string a0_1, .slice A0_2 l0_2.length c0_2, .string a0_3, .int .i64 a0_4, .slice A0_5 l0_5.length c0_5] 45 (0, 0)) (by (with_reducible repeat (first | refine blk_drewN ?_ _ | refine blk_drew ?_ | refine blk_alloc ?_ _)); exact BK101.out) hb); have n1_ := Aside0.mk (below_step (by repeat (first | exact HB.out | apply below_alloc | apply pw_below_drewN | apply below_drew1 | refine below_set ?_ GE101.out)) hb); clear BK101; clear HB; have BK101 := n0_; have HB := n1_; clear n0_ n1_; (try clear hb); (try clear hb2); (try clear hk); (try clear hi)))
           go_ret
           exact ⟨by first | rfl | (simp [*] <;> rfl), by repeat (first | exact HB.out | apply below_alloc | apply pw_below_drewN | apply below_drew1 | refine below_set ?_ GE101.out)⟩
       · rw [if_neg c29] at H
         have c29b0 : (a0_0 == 2) = false := beq_eq_false_iff_ne.mpr c29
         have c29b1 : (a0_0 != 2) = true := bne_iff_ne.mpr c29
         by_cases c37 : a0_0 = 3
         · rw [if_pos c37] at H
           have c37b0 : (a0_0 == 3) = true := beq_iff_eq.mpr c37
           have c37b1 : (a0_0 != 3) = false := bne_eq_false_iff_eq.mpr c37
           clear c37
           replace H := Option.bind_eq_some_iff.mp H
           obtain ⟨t104, A380, H⟩ := H
           replace H : (if t104 = true then ((impl_AttrsOk.f kj2 l0_2).bind fun t105 => (if t105 = true then (some (a0_3.toList == ([] : List UInt8))) else (some false))) else (some false)) = some r := H
           have A38 := Aside0.mk A380
           clear A380
           by_cases c39 : t104 = true
           · subst c39
             rw [if_pos rfl] at H
             replace H := Option.bind_eq_some_iff.mp H
             obtain ⟨t105, A400, H⟩ := H
             replace H : (if t105 = true then (some (a0_3.toList == ([] : List UInt8))) else (some false)) = some r := H
             have A40 := Aside0.mk A400
             clear A400
             by_cases c41 : t105 = true
             · subst c41
               rw [if_pos rfl] at H
               obtain rfl := Option.some.inj H
               have hcz42_0 := blk_cell BK101.out 0
               have hcz42_1 := blk_cell BK101.out 1
               have hcz42_2 := blk_cell BK101.out 2
               have hcz42_3 := blk_cell BK101.out 3
               have hcz42_4 := blk_cell BK101.out 4
               have hcz42_5 := blk_cell BK101.out 5
               have hfz42_0 := blk_frozen BK101.out 0
               have hfz42_1 := blk_frozen BK101.out 1
               have hfz42_2 := blk_frozen BK101.out 2
               have hfz42_3 := blk_frozen BK101.out 3
               have hfz42_4 := blk_frozen BK101.out 4
               have hfz42_5 := blk_frozen BK101.out 5
               go_wp2_with (first | ((with_reducible refine gate_callee (f := 84) rfl ?_); refine goesL_ (some 64) rfl rfl Try.func84 (by kernel_rfl) rfl #[.string a0_1] rfl (by (try simp only [List.map_toArray, List.map_cons, List.map_nil]); first | done | rfl | (simp only [List.length_drop, List.length_take]; rfl)) ?_; (with_reducible refine (impl_NameOk.calls kj2 a0_1 true _ A38.out).mono ?_); rintro e w43 ⟨rfl, hb⟩; refine ⟨_, rfl, ?_⟩; have n0_ := Aside0.mk (blk_below (g := gb101) (o := .cells #[.int .i64 a0_0, .string a0_1, .slice A0_2 l0_2.length c0_2, .string a0_3, .int .i64 a0_4, .slice A0_5 l0_5.length c0_5] 45 (0, 0)) (by (with_reducible repeat (first | refine blk_drewN ?_ _ | refine blk_drew ?_ | refine blk_alloc ?_ _)); exact BK101.out) hb); have n1_ := Aside0.mk (below_step (by repeat (first | exact HB.out | apply below_alloc | apply pw_below_drewN | apply below_drew1 | refine below_set ?_ GE101.out)) hb); clear BK101; clear HB; have BK101 := n0_; have HB := n1_; clear n0_ n1_; (try clear hb); (try clear hb2); (try clear hk); (try clear hi); have hcz44_0 := blk_cell BK101.out 0; have hcz44_1 := blk_cell BK101.out 1; have hcz44_2 := blk_cell BK101.out 2; have hcz44_3 := blk_cell BK101.out 3; have hcz44_4 := blk_cell BK101.out 4; have hcz44_5 := blk_cell BK101.out 5; have hfz44_0 := blk_frozen BK101.out 0; have hfz44_1 := blk_frozen BK101.out 1; have hfz44_2 := blk_frozen BK101.out 2; have hfz44_3 := blk_frozen BK101.out 3; have hfz44_4 := blk_frozen BK101.out 4; have hfz44_5 := blk_frozen BK101.out 5) | (go_at_call 85; (with_reducible refine (impl_AttrsOk.calls kj2 _ _ l0_2 true _ ?side1 ?side2 A40.out).mono ?_); (case side1 => repeat (first | exact (Kd.C_below HR0_2.out HB.out) | (with_reducible refine Kd.C_alloc ?_ _) | (with_reducible refine Kd.C_drewN ?_ _) | (with_reducible refine Kd.C_drew ?_))); (case side2 => exact HC0_2.out); rintro e w45 ⟨rfl, hb⟩; have n0_ := Aside0.mk (blk_below (g := gb101) (o := .cells #[.int .i64 a0_0, .string a0_1, .slice A0_2 l0_2.length c0_2, .string a0_3, .int .i64 a0_4, .slice A0_5 l0_5.length c0_5] 45 (0, 0)) (by (with_reducible repeat (first | refine blk_drewN ?_ _ | refine blk_drew ?_ | refine blk_alloc ?_ _)); exact BK101.out) hb); have n1_ := Aside0.mk (below_step (by repeat (first | exact HB.out | apply below_alloc | apply pw_below_drewN | apply below_drew1 | refine below_set ?_ GE101.out)) hb); clear BK101; clear HB; have BK101 := n0_; have HB := n1_; clear n0_ n1_; (try clear hb); (try clear hb2); (try clear hk); (try clear hi); have hcz46_0 := blk_cell BK101.out 0; have hcz46_1 := blk_cell BK101.out 1; have hcz46_2 := blk_cell BK101.out 2; have hcz46_3 := blk_cell BK101.out 3; have hcz46_4 := blk_cell BK101.out 4; have hcz46_5 := blk_cell BK101.out 5; have hfz46_0 := blk_frozen BK101.out 0; have hfz46_1 := blk_frozen BK101.out 1; have hfz46_2 := blk_frozen BK101.out 2; have hfz46_3 := blk_frozen BK101.out 3; have hfz46_4 := blk_frozen BK101.out 4; have hfz46_5 := blk_frozen BK101.out 5))
               go_ret
               exact ⟨by first | rfl | (simp [*] <;> rfl), by repeat (first | exact HB.out | apply below_alloc | apply pw_below_drewN | apply below_drew1 | refine below_set ?_ GE101.out)⟩
             · replace c41 := Bool.eq_false_iff.mpr c41
               subst c41
               rw [if_neg (show ¬ (false = true) by decide)] at H
               obtain rfl := Option.some.inj H
               have hcz47_0 := blk_cell BK101.out 0
               have hcz47_1 := blk_cell BK101.out 1
               have hcz47_2 := blk_cell BK101.out 2
               have hcz47_3 := blk_cell BK101.out 3
               have hcz47_4 := blk_cell BK101.out 4
               have hcz47_5 := blk_cell BK101.out 5
               have hfz47_0 := blk_frozen BK101.out 0
               have hfz47_1 := blk_frozen BK101.out 1
               have hfz47_2 := blk_frozen BK101.out 2
               have hfz47_3 := blk_frozen BK101.out 3
               have hfz47_4 := blk_frozen BK101.out 4
               have hfz47_5 := blk_frozen BK101.out 5
               go_wp2_with (first | ((with_reducible refine gate_callee (f := 84) rfl ?_); refine goesL_ (some 64) rfl rfl Try.func84 (by kernel_rfl) rfl #[.string a0_1] rfl (by (try simp only [List.map_toArray, List.map_cons, List.map_nil]); first | done | rfl | (simp only [List.length_drop, List.length_take]; rfl)) ?_; (with_reducible refine (impl_NameOk.calls kj2 a0_1 true _ A38.out).mono ?_); rintro e w48 ⟨rfl, hb⟩; refine ⟨_, rfl, ?_⟩; have n0_ := Aside0.mk (blk_below (g := gb101) (o := .cells #[.int .i64 a0_0, .string a0_1, .slice A0_2 l0_2.length c0_2, .string a0_3, .int .i64 a0_4, .slice A0_5 l0_5.length c0_5] 45 (0, 0)) (by (with_reducible repeat (first | refine blk_drewN ?_ _ | refine blk_drew ?_ | refine blk_alloc ?_ _)); exact BK101.out) hb); have n1_ := Aside0.mk (below_step (by repeat (first | exact HB.out | apply below_alloc | apply pw_below_drewN | apply below_drew1 | refine below_set ?_ GE101.out)) hb); clear BK101; clear HB; have BK101 := n0_; have HB := n1_; clear n0_ n1_; (try clear hb); (try clear hb2); (try clear hk); (try clear hi); have hcz49_0 := blk_cell BK101.out 0; have hcz49_1 := blk_cell BK101.out 1; have hcz49_2 := blk_cell BK101.out 2; have hcz49_3 := blk_cell BK101.out 3; have hcz49_4 := blk_cell BK101.out 4; have hcz49_5 := blk_cell BK101.out 5; have hfz49_0 := blk_frozen BK101.out 0; have hfz49_1 := blk_frozen BK101.out 1; have hfz49_2 := blk_frozen BK101.out 2; have hfz49_3 := blk_frozen BK101.out 3; have hfz49_4 := blk_frozen BK101.out 4; have hfz49_5 := blk_frozen BK101.out 5) | (go_at_call 85; (with_reducible refine (impl_AttrsOk.calls kj2 _ _ l0_2 false _ ?side1 ?side2 A40.out).mono ?_); (case side1 => repeat (first | exact (Kd.C_below HR0_2.out HB.out) | (with_reducible refine Kd.C_alloc ?_ _) | (with_reducible refine Kd.C_drewN ?_ _) | (with_reducible refine Kd.C_drew ?_))); (case side2 => exact HC0_2.out); rintro e w50 ⟨rfl, hb⟩; have n0_ := Aside0.mk (blk_below (g := gb101) (o := .cells #[.int .i64 a0_0, .string a0_1, .slice A0_2 l0_2.length c0_2, .string a0_3, .int .i64 a0_4, .slice A0_5 l0_5.length c0_5] 45 (0, 0)) (by (with_reducible repeat (first | refine blk_drewN ?_ _ | refine blk_drew ?_ | refine blk_alloc ?_ _)); exact BK101.out) hb); have n1_ := Aside0.mk (below_step (by repeat (first | exact HB.out | apply below_alloc | apply pw_below_drewN | apply below_drew1 | refine below_set ?_ GE101.out)) hb); clear BK101; clear HB; have BK101 := n0_; have HB := n1_; clear n0_ n1_; (try clear hb); (try clear hb2); (try clear hk); (try clear hi)))
               go_ret
               exact ⟨by first | rfl | (simp [*] <;> rfl), by repeat (first | exact HB.out | apply below_alloc | apply pw_below_drewN | apply below_drew1 | refine below_set ?_ GE101.out)⟩
           · replace c39 := Bool.eq_false_iff.mpr c39
             subst c39
             rw [if_neg (show ¬ (false = true) by decide)] at H
             obtain rfl := Option.some.inj H
             have hcz51_0 := blk_cell BK101.out 0
             have hcz51_1 := blk_cell BK101.out 1
             have hcz51_2 := blk_cell BK101.out 2
             have hcz51_3 := blk_cell BK101.out 3
             have hcz51_4 := blk_cell BK101.out 4
             have hcz51_5 := blk_cell BK101.out 5
             have hfz51_0 := blk_frozen BK101.out 0
             have hfz51_1 := blk_frozen BK101.out 1
             have hfz51_2 := blk_frozen BK101.out 2
             have hfz51_3 := blk_frozen BK101.out 3
             have hfz51_4 := blk_frozen BK101.out 4
             have hfz51_5 := blk_frozen BK101.out 5
             go_wp2_with (first | ((with_reducible refine gate_callee (f := 84) rfl ?_); refine goesL_ (some 64) rfl rfl Try.func84 (by kernel_rfl) rfl #[.string a0_1] rfl (by (try simp only [List.map_toArray, List.map_cons, List.map_nil]); first | done | rfl | (simp only [List.length_drop, List.length_take]; rfl)) ?_; (with_reducible refine (impl_NameOk.calls kj2 a0_1 false _ A38.out).mono ?_); rintro e w52 ⟨rfl, hb⟩; refine ⟨_, rfl, ?_⟩; have n0_ := Aside0.mk (blk_below (g := gb101) (o := .cells #[.int .i64 a0_0, .string a0_1, .slice A0_2 l0_2.length c0_2, .string a0_3, .int .i64 a0_4, .slice A0_5 l0_5.length c0_5] 45 (0, 0)) (by (with_reducible repeat (first | refine blk_drewN ?_ _ | refine blk_drew ?_ | refine blk_alloc ?_ _)); exact BK101.out) hb); have n1_ := Aside0.mk (below_step (by repeat (first | exact HB.out | apply below_alloc | apply pw_below_drewN | apply below_drew1 | refine below_set ?_ GE101.out)) hb); clear BK101; clear HB; have BK101 := n0_; have HB := n1_; clear n0_ n1_; (try clear hb); (try clear hb2); (try clear hk); (try clear hi)))
             go_ret
             exact ⟨by first | rfl | (simp [*] <;> rfl), by repeat (first | exact HB.out | apply below_alloc | apply pw_below_drewN | apply below_drew1 | refine below_set ?_ GE101.out)⟩
         · rw [if_neg c37] at H
           have c37b0 : (a0_0 == 3) = false := beq_eq_false_iff_ne.mpr c37
           have c37b1 : (a0_0 != 3) = true := bne_iff_ne.mpr c37
           by_cases c53 : a0_0 = 4
           · rw [if_pos c53] at H
             have c53b0 : (a0_0 == 4) = true := beq_iff_eq.mpr c53
             have c53b1 : (a0_0 != 4) = false := bne_eq_false_iff_eq.mpr c53
             clear c53
             by_cases c54 : a0_1.toList = ([] : List UInt8)
             · rw [if_pos c54] at H
               have c54b0 : (a0_1.toList == ([] : List UInt8)) = true := beq_iff_eq.mpr c54
               have c54b1 : (a0_1.toList != ([] : List UInt8)) = false := bne_eq_false_iff_eq.mpr c54
               clear c54
               by_cases c55 : a0_3.toList = ([] : List UInt8)
               · rw [if_pos c55] at H
                 have c55b0 : (a0_3.toList == ([] : List UInt8)) = true := beq_iff_eq.mpr c55
                 have c55b1 : (a0_3.toList != ([] : List UInt8)) = false := bne_eq_false_iff_eq.mpr c55
                 clear c55
                 obtain rfl := Option.some.inj H
                 have hcz56_0 := blk_cell BK101.out 0
                 have hcz56_1 := blk_cell BK101.out 1
                 have hcz56_2 := blk_cell BK101.out 2
                 have hcz56_3 := blk_cell BK101.out 3
                 have hcz56_4 := blk_cell BK101.out 4
                 have hcz56_5 := blk_cell BK101.out 5
                 have hfz56_0 := blk_frozen BK101.out 0
                 have hfz56_1 := blk_frozen BK101.out 1
                 have hfz56_2 := blk_frozen BK101.out 2
                 have hfz56_3 := blk_frozen BK101.out 3
                 have hfz56_4 := blk_frozen BK101.out 4
                 have hfz56_5 := blk_frozen BK101.out 5
                 go_wp2
                 go_ret
                 exact ⟨by first | rfl | (simp [*] <;> rfl), by repeat (first | exact HB.out | apply below_alloc | apply pw_below_drewN | apply below_drew1 | refine below_set ?_ GE101.out)⟩
               · rw [if_neg c55] at H
                 have c55b0 : (a0_3.toList == ([] : List UInt8)) = false := beq_eq_false_iff_ne.mpr c55
                 have c55b1 : (a0_3.toList != ([] : List UInt8)) = true := bne_iff_ne.mpr c55
                 replace H := Option.bind_eq_some_iff.mp H
                 obtain ⟨t106, A570, H⟩ := H
                 replace H : (some t106) = some r := H
                 have A57 := Aside0.mk A570
                 clear A570
                 obtain rfl := Option.some.inj H
                 have hcz58_0 := blk_cell BK101.out 0
                 have hcz58_1 := blk_cell BK101.out 1
                 have hcz58_2 := blk_cell BK101.out 2
                 have hcz58_3 := blk_cell BK101.out 3
                 have hcz58_4 := blk_cell BK101.out 4
                 have hcz58_5 := blk_cell BK101.out 5
                 have hfz58_0 := blk_frozen BK101.out 0
                 have hfz58_1 := blk_frozen BK101.out 1
                 have hfz58_2 := blk_frozen BK101.out 2
                 have hfz58_3 := blk_frozen BK101.out 3
                 have hfz58_4 := blk_frozen BK101.out 4
                 have hfz58_5 := blk_frozen BK101.out 5
                 go_wp2_with (first | (go_at_call 86; (with_reducible refine (impl_textOk.calls kj2 a0_3 t106 _ A57.out).mono ?_); rintro e w59 ⟨rfl, hb⟩; have n0_ := Aside0.mk (blk_below (g := gb101) (o := .cells #[.int .i64 a0_0, .string a0_1, .slice A0_2 l0_2.length c0_2, .string a0_3, .int .i64 a0_4, .slice A0_5 l0_5.length c0_5] 45 (0, 0)) (by (with_reducible repeat (first | refine blk_drewN ?_ _ | refine blk_drew ?_ | refine blk_alloc ?_ _)); exact BK101.out) hb); have n1_ := Aside0.mk (below_step (by repeat (first | exact HB.out | apply below_alloc | apply pw_below_drewN | apply below_drew1 | refine below_set ?_ GE101.out)) hb); clear BK101; clear HB; have BK101 := n0_; have HB := n1_; clear n0_ n1_; (try clear hb); (try clear hb2); (try clear hk); (try clear hi)))
                 go_ret
                 exact ⟨by first | rfl | (simp [*] <;> rfl), by repeat (first | exact HB.out | apply below_alloc | apply pw_below_drewN | apply below_drew1 | refine below_set ?_ GE101.out)⟩
             · rw [if_neg c54] at H
               have c54b0 : (a0_1.toList == ([] : List UInt8)) = false := beq_eq_false_iff_ne.mpr c54
               have c54b1 : (a0_1.toList != ([] : List UInt8)) = true := bne_iff_ne.mpr c54
               obtain rfl := Option.some.inj H
               have hcz60_0 := blk_cell BK101.out 0
               have hcz60_1 := blk_cell BK101.out 1
               have hcz60_2 := blk_cell BK101.out 2
               have hcz60_3 := blk_cell BK101.out 3
               have hcz60_4 := blk_cell BK101.out 4
               have hcz60_5 := blk_cell BK101.out 5
               have hfz60_0 := blk_frozen BK101.out 0
               have hfz60_1 := blk_frozen BK101.out 1
               have hfz60_2 := blk_frozen BK101.out 2
               have hfz60_3 := blk_frozen BK101.out 3
               have hfz60_4 := blk_frozen BK101.out 4
               have hfz60_5 := blk_frozen BK101.out 5
               go_wp2
               go_ret
               exact ⟨by first | rfl | (simp [*] <;> rfl), by repeat (first | exact HB.out | apply below_alloc | apply pw_below_drewN | apply below_drew1 | refine below_set ?_ GE101.out)⟩
           · rw [if_neg c53] at H
             have c53b0 : (a0_0 == 4) = false := beq_eq_false_iff_ne.mpr c53
             have c53b1 : (a0_0 != 4) = true := bne_iff_ne.mpr c53
             by_cases c61 : a0_0 = 5
             · rw [if_pos c61] at H
               have c61b0 : (a0_0 == 5) = true := beq_iff_eq.mpr c61
               have c61b1 : (a0_0 != 5) = false := bne_eq_false_iff_eq.mpr c61
               clear c61
               by_cases c62 : a0_1.toList = ([] : List UInt8)
               · rw [if_pos c62] at H
                 have c62b0 : (a0_1.toList == ([] : List UInt8)) = true := beq_iff_eq.mpr c62
                 have c62b1 : (a0_1.toList != ([] : List UInt8)) = false := bne_eq_false_iff_eq.mpr c62
                 clear c62
                 replace H := Option.bind_eq_some_iff.mp H
                 obtain ⟨t107, A630, H⟩ := H
                 replace H : (some t107) = some r := H
                 have A63 := Aside0.mk A630
                 clear A630
                 obtain rfl := Option.some.inj H
                 have hcz64_0 := blk_cell BK101.out 0
                 have hcz64_1 := blk_cell BK101.out 1
                 have hcz64_2 := blk_cell BK101.out 2
                 have hcz64_3 := blk_cell BK101.out 3
                 have hcz64_4 := blk_cell BK101.out 4
                 have hcz64_5 := blk_cell BK101.out 5
                 have hfz64_0 := blk_frozen BK101.out 0
                 have hfz64_1 := blk_frozen BK101.out 1
                 have hfz64_2 := blk_frozen BK101.out 2
                 have hfz64_3 := blk_frozen BK101.out 3
                 have hfz64_4 := blk_frozen BK101.out 4
                 have hfz64_5 := blk_frozen BK101.out 5
                 go_wp2_with (first | (go_at_call 86; (with_reducible refine (impl_textOk.calls kj2 a0_3 t107 _ A63.out).mono ?_); rintro e w65 ⟨rfl, hb⟩; have n0_ := Aside0.mk (blk_below (g := gb101) (o := .cells #[.int .i64 a0_0, .string a0_1, .slice A0_2 l0_2.length c0_2, .string a0_3, .int .i64 a0_4, .slice A0_5 l0_5.length c0_5] 45 (0, 0)) (by (with_reducible repeat (first | refine blk_drewN ?_ _ | refine blk_drew ?_ | refine blk_alloc ?_ _)); exact BK101.out) hb); have n1_ := Aside0.mk (below_step (by repeat (first | exact HB.out | apply below_alloc | apply pw_below_drewN | apply below_drew1 | refine below_set ?_ GE101.out)) hb); clear BK101; clear HB; have BK101 := n0_; have HB := n1_; clear n0_ n1_; (try clear hb); (try clear hb2); (try clear hk); (try clear hi)))
                 go_ret
                 exact ⟨by first | rfl | (simp [*] <;> rfl), by repeat (first | exact HB.out | apply below_alloc | apply pw_below_drewN | apply below_drew1 | refine below_set ?_ GE101.out)⟩
               · rw [if_neg c62] at H
                 have c62b0 : (a0_1.toList == ([] : List UInt8)) = false := beq_eq_false_iff_ne.mpr c62
                 have c62b1 : (a0_1.toList != ([] : List UInt8)) = true := bne_iff_ne.mpr c62
                 obtain rfl := Option.some.inj H
                 have hcz66_0 := blk_cell BK101.out 0
                 have hcz66_1 := blk_cell BK101.out 1
                 have hcz66_2 := blk_cell BK101.out 2
                 have hcz66_3 := blk_cell BK101.out 3
                 have hcz66_4 := blk_cell BK101.out 4
                 have hcz66_5 := blk_cell BK101.out 5
                 have hfz66_0 := blk_frozen BK101.out 0
                 have hfz66_1 := blk_frozen BK101.out 1
                 have hfz66_2 := blk_frozen BK101.out 2
                 have hfz66_3 := blk_frozen BK101.out 3
                 have hfz66_4 := blk_frozen BK101.out 4
                 have hfz66_5 := blk_frozen BK101.out 5
                 go_wp2
                 go_ret
                 exact ⟨by first | rfl | (simp [*] <;> rfl), by repeat (first | exact HB.out | apply below_alloc | apply pw_below_drewN | apply below_drew1 | refine below_set ?_ GE101.out)⟩
             · rw [if_neg c61] at H
               have c61b0 : (a0_0 == 5) = false := beq_eq_false_iff_ne.mpr c61
               have c61b1 : (a0_0 != 5) = true := bne_iff_ne.mpr c61
               obtain rfl := Option.some.inj H
               have hcz67_0 := blk_cell BK101.out 0
               have hcz67_1 := blk_cell BK101.out 1
               have hcz67_2 := blk_cell BK101.out 2
               have hcz67_3 := blk_cell BK101.out 3
               have hcz67_4 := blk_cell BK101.out 4
               have hcz67_5 := blk_cell BK101.out 5
               have hfz67_0 := blk_frozen BK101.out 0
               have hfz67_1 := blk_frozen BK101.out 1
               have hfz67_2 := blk_frozen BK101.out 2
               have hfz67_3 := blk_frozen BK101.out 3
               have hfz67_4 := blk_frozen BK101.out 4
               have hfz67_5 := blk_frozen BK101.out 5
               go_wp2
               go_ret
               exact ⟨by first | rfl | (simp [*] <;> rfl), by repeat (first | exact HB.out | apply below_alloc | apply pw_below_drewN | apply below_drew1 | refine below_set ?_ GE101.out)⟩
/-- A state of type 29 at block g of W; what its slices lead to came in by w0. -/
def IsS29 (w0 W : World) (g : Nat) (f0 : List (S45)) : Prop := ∃ A0 c0, W.heap[g]? = some (.cells #[.slice A0 f0.length c0] 29 (0, 0)) ∧ w0.heap.size ≤ g ∧ Kd.C k45 w0 A0 f0.length f0
theorem IsS29.grown {w0 W : World} {g : Nat} {f0 : List (S45)} {W1 : World} {row : Option Nat} (h : IsS29 w0 W g f0) (hw : W.grownBy W1 row) (hne : some g ≠ row) : IsS29 w0 W1 g f0 := by
 obtain ⟨A0, c0, hb, hg, hr0⟩ := h
 exact ⟨A0, c0, blk_grown hb hw hne, hg, hr0⟩
theorem IsS29.own_neN {w0 W : World} {g : Nat} {f0 : List (S45)} {α : Type} {d : Kd α} {e : Nat} {base : Nat} {ok : Nat → Prop} {v : Value} {xs : List α} (h : IsS29 w0 W g f0) (ho : Kd.N d e W base ok v xs) (ht : e ≠ 29) : some g ≠ v.ownBlock := by
 obtain ⟨A0, c0, hb, hg, hr0⟩ := h
 exact Kd.N_ne ho hb ht
theorem IsS29.fresh {w0 W : World} {g : Nat} {f0 : List (S45)} (h : IsS29 w0 W g f0) : ∀ k, W.heap.size ≤ k → k ≠ g := by
 obtain ⟨A0, c0, hb, hg, hr0⟩ := h
 exact Kd.freshB hb
theorem IsS29.kept {w0 W : World} {g : Nat} {f0 : List (S45)} {W1 : World} {S : Nat → Prop} (h : IsS29 w0 W g f0) (hk : Kept W W1 S) (hne : ¬ S g) : IsS29 w0 W1 g f0 := by
 obtain ⟨A0, c0, hb, hg, hr0⟩ := h
 exact ⟨A0, c0, blk_kept hb hk hne, hg, hr0⟩
theorem IsS29.below {w0 W : World} {g : Nat} {f0 : List (S45)} {W1 : World} (h : IsS29 w0 W g f0) (hw : Below W.heap.size W W1) : IsS29 w0 W1 g f0 := h.grown (grown_of_below hw none) (by simp)
theorem IsS29.alloc {w0 W : World} {g : Nat} {f0 : List (S45)} (h : IsS29 w0 W g f0) (o : Obj) : IsS29 w0 (W.alloc o) g f0 := h.below (below_alloc (Below.refl _ _) o)
theorem IsS29.drewN {w0 W : World} {g : Nat} {f0 : List (S45)} (h : IsS29 w0 W g f0) (m : Nat) : IsS29 w0 (W.drewN m) g f0 := h
theorem IsS29.drew {w0 W : World} {g : Nat} {f0 : List (S45)} (h : IsS29 w0 W g f0) : IsS29 w0 W.drew g f0 := h
theorem IsS29.at_ {w0 W : World} {g : Nat} {f0 : List (S45)} {w' : World} {m : Nat} (hq : W.drewN m = w') (h : IsS29 w0 W g f0) : IsS29 w0 w' g f0 := by subst hq; exact IsS29.drewN h m
theorem IsS29.apart {w0 W : World} {g : Nat} {f0 : List (S45)} {α : Type} {d : Kd α} {e : Nat} {base : Nat} {ok : Nat → Prop} {v : Value} {xs : List α} (h : IsS29 w0 W g f0) (ho : d.R e W base ok v xs) (ht : ∀ q, q ∈ e :: d.E → q ≠ 29) : d.R e W base (fun k => ok k ∧ k ≠ g) v xs := by
 obtain ⟨A0, c0, hb, hg, hr0⟩ := h
 exact Kd.R_types ho hb ht
theorem IsS29.own_ne {w0 W : World} {g : Nat} {f0 : List (S45)} {α : Type} {d : Kd α} {e : Nat} {base : Nat} {ok : Nat → Prop} {v : Value} {xs : List α} (h : IsS29 w0 W g f0) (ho : d.R e W base ok v xs) (ht : e ≠ 29) : some g ≠ v.ownBlock := by
 obtain ⟨A0, c0, hb, hg, hr0⟩ := h
 exact Kd.R_ne ho hb ht
theorem IsS29.apartQ {w0 W : World} {g : Nat} {f0 : List (S45)} {α : Type} {d : Kd α} {e : Nat} {base : Nat} {ok : Nat → Prop} {v : Value} {xs : List α} (h : IsS29 w0 W g f0) (ho : d.Q e W base ok v xs) (ht : ∀ q, q ∈ e :: d.E → q ≠ 29) : d.Q e W base (fun k => ok k ∧ k ≠ g) v xs := by
 obtain ⟨A0, c0, hb, hg, hr0⟩ := h
 exact Kd.Q_types ho hb ht
theorem IsS29.own_neQ {w0 W : World} {g : Nat} {f0 : List (S45)} {α : Type} {d : Kd α} {e : Nat} {base : Nat} {ok : Nat → Prop} {v : Value} {xs : List α} (h : IsS29 w0 W g f0) (ho : d.Q e W base ok v xs) (ht : e ≠ 29) : some g ≠ v.ownBlock := by
 obtain ⟨A0, c0, hb, hg, hr0⟩ := h
 exact Kd.Q_ne ho hb ht
theorem IsS29.apartS {w0 W : World} {g : Nat} {f0 : List (S45)} {α : Type} {d : Kd α} {e : Nat} {base : Nat} {ok : Nat → Prop} {v : Value} {xs : List α} (h : IsS29 w0 W g f0) (ho : d.S e W base ok v xs) (ht : ∀ q, q ∈ e :: d.E → q ≠ 29) : d.S e W base (fun k => ok k ∧ k ≠ g) v xs := by
 obtain ⟨A0, c0, hb, hg, hr0⟩ := h
 exact Kd.S_types ho hb ht
theorem IsS29.own_neS {w0 W : World} {g : Nat} {f0 : List (S45)} {α : Type} {d : Kd α} {e : Nat} {base : Nat} {ok : Nat → Prop} {v : Value} {xs : List α} (h : IsS29 w0 W g f0) (ho : d.S e W base ok v xs) (ht : e ≠ 29) : some g ≠ v.ownBlock := by
 obtain ⟨A0, c0, hb, hg, hr0⟩ := h
 exact Kd.S_ne ho hb ht
theorem IsS29.lt {w0 W : World} {g : Nat} {f0 : List (S45)} (h : IsS29 w0 W g f0) : g < W.heap.size := by
 obtain ⟨A0, c0, hb, hg, hr0⟩ := h
 exact blk_lt hb
theorem IsS29.ge {w0 W : World} {g : Nat} {f0 : List (S45)} (h : IsS29 w0 W g f0) : w0.heap.size ≤ g := by
 obtain ⟨A0, c0, hb, hg, hr0⟩ := h
 exact hg
theorem IsS29.ne_blk {w0 W : World} {g : Nat} {f0 : List (S45)} {a : Nat} {cs : Array Value} {t : TypeId} {fr : Nat × Nat} (h : IsS29 w0 W g f0) (hb2 : W.heap[a]? = some (.cells cs t fr)) (ht : t ≠ 29) : g ≠ a := by
 obtain ⟨A0, c0, hb, hg, hr0⟩ := h
 rintro rfl
 rw [hb] at hb2
 injection hb2 with hb2
 injection hb2 with _ ht2
 exact ht ht2.symm
theorem IsS29.far {w0 W : World} {g : Nat} {f0 : List (S45)} {p : Addr} (h : IsS29 w0 W g f0) (hne : g ≠ p.block) (u : Value) : IsS29 w0 (W.setCell p u) g f0 := by
 obtain ⟨A0, c0, hb, hg, hr0⟩ := h
 exact ⟨A0, c0, blk_far hb hne u, hg, hr0⟩
theorem cellS29_0 {W : World} {g : Nat} {A0 : Option Addr} {c0 : Nat} {f0 : List (S45)} (h : W.heap[g]? = some (.cells #[.slice A0 f0.length c0] 29 (0, 0))) : W.cell? ⟨g, 0, none⟩ = some (.slice A0 f0.length c0) := (blk_cell h 0).trans rfl
theorem IsS29.new (w0 W : World) (A0 : Option Addr) (c0 : Nat) (f0 : List (S45)) (hB : Below w0.heap.size w0 W) (hr0 : Kd.C k45 w0 A0 f0.length f0) : IsS29 w0 (W.alloc (.cells #[.slice A0 f0.length c0] 29)) W.heap.size f0 := ⟨A0, c0, by simpa using heap_alloc_new W _, hB.size, hr0⟩
def impl_Tree_isNode.f (s0_0 : List (S45)) (a1 : Int) : Option (Bool) := (impl_inRange.f a1 0 (wrap64 ((s0_0.length : Int) - 1))).bind fun t101 => (some t101)
set_option maxHeartbeats 8000000 in
set_option maxRecDepth 100000 in
theorem impl_Tree_isNode.calls (g : Nat) (s0_0 : List (S45)) (a1 : Int) (r : Bool) (w0 w : World) (hI : IsS29 w0 w g s0_0) (hB : Below w0.heap.size w0 w) (h : impl_Tree_isNode.f s0_0 a1 = some r) :
 Calls Try.prog 64 #[.pointer (some ⟨g, 0, none⟩), .int .i64 a1] w fun e w' => e = .returned (.bool r) ∧ IsS29 w0 w' g s0_0 ∧ Below w0.heap.size w0 w' ∧ KeepBut w w' g none := by
 have HI0 := Aside0.mk hI
 have HK := Aside0.mk (KeepBut.refl w g none)
 have HL := Aside0.mk hB.size
 clear hI
 have HW0 := Aside0.mk hB.size
 have HB := Aside0.mk hB
 clear hB
 have H : ((impl_inRange.f a1 0 (wrap64 ((s0_0.length : Int) - 1))).bind fun t101 => (some t101)) = some r := h
 clear h
 replace H := Option.bind_eq_some_iff.mp H
 obtain ⟨t101, A30, H⟩ := H
 replace H : (some t101) = some r := H
 have A3 := Aside0.mk A30
 clear A30
 obtain rfl := Option.some.inj H
 obtain ⟨ASz4_0, cSz4_0, HGz4, hgz4, HSz4_0⟩ := HI0.out
 have hcz4_0 := cellS29_0 HGz4
 clear HGz4 hgz4
 go_enter Try.func64, Try.ntmps64
 go_wp2_with (first | ((with_reducible refine gate_callee (f := 40) rfl ?_); refine goesL_ (some 12) rfl rfl Try.func40 (by kernel_rfl) rfl #[.int .i64 a1, .int .i64 0, .int .i64 (wrap64 ((s0_0.length : Int) - 1))] rfl (by (try simp only [List.map_toArray, List.map_cons, List.map_nil]); first | done | rfl | (simp only [List.length_drop, List.length_take]; rfl)) ?_; (with_reducible refine (impl_inRange.calls a1 0 (wrap64 ((s0_0.length : Int) - 1)) t101 _ A3.out).mono ?_); rintro e w' ⟨rfl, ⟨nd, rfl⟩⟩; refine ⟨_, rfl, ?_⟩))
 go_ret
 exact ⟨by first | rfl | (simp [*] <;> rfl), by repeat (first | exact HI0.out | apply IsS29.alloc | apply IsS29.drewN | apply IsS29.drew), by repeat (first | exact HB.out | apply below_alloc | apply pw_below_drewN | apply below_drew1 | refine below_set ?_ (IsS29.ge HI0.out)), by repeat (first | exact HK.out | apply KeepBut.set_ | apply keep_drewN | apply keep_drew | apply keep_alloc)⟩
def impl_Tree_isAbove.l0 : Nat → Int → Int → Int → Int → List (S45) → Option (Bool)
 | 0, _, _, _, _, _ => none
 | k + 1, x1, x2, x11, x12, x1000 => if x12 < x11 then (if x2 = x1 then (some true) else ((impl_Tree_isNode.f x1000 x2).bind fun t102 => (if t102 = true then (if 0 ≤ x2 then (if x2 < (x1000.length : Int) then (impl_Tree_isAbove.l0 k x1 ((rd_T45 x1000 x2).f4) x11 (wrap64 (x12 + 1)) x1000) else (none)) else (none)) else (some false)))) else ((impl_Tree_isNode.f x1000 x2).bind fun t101 => (some t101))
def impl_Tree_isAbove.f (k : Nat) (s0_0 : List (S45)) (a1 : Int) (a2 : Int) : Option (Bool) := impl_Tree_isAbove.l0 k a1 a2 (s0_0.length : Int) 0 s0_0
theorem impl_Tree_isAbove.mono_l : ∀ k, (∀ y0 y1 y2 y3 y4, LeO (impl_Tree_isAbove.l0 k y0 y1 y2 y3 y4) (impl_Tree_isAbove.l0 (k + 1) y0 y1 y2 y3 y4))
 | 0 => fun _ _ _ _ _ r h => by simp [impl_Tree_isAbove.l0] at h
 | k + 1 => by
  have ih0 := impl_Tree_isAbove.mono_l k
  · intro y0 y1 y2 y3 y4
    unfold impl_Tree_isAbove.l0
    repeat' first
    | (with_reducible exact ih0 _ _ _ _ _)
    | (with_reducible exact LeO.refl _)
    | (with_reducible exact LeO.none _)
    | (with_reducible refine LeO.ite ?_ ?_)
    | (with_reducible refine LeO.bind ?_ (fun _ => ?_))
    | exact ih0 _ _ _ _ _
    | exact LeO.none _
    | refine LeO.ite ?_ ?_
    | refine LeO.bind ?_ (fun _ => ?_)
theorem impl_Tree_isAbove.mono : ∀ a0 a1 a2 k, LeO (impl_Tree_isAbove.f k a0 a1 a2) (impl_Tree_isAbove.f (k + 1) a0 a1 a2) := by
 intro a0 a1 a2 k
 have ih0 := impl_Tree_isAbove.mono_l k
 unfold impl_Tree_isAbove.f
 repeat' first
  | (with_reducible exact ih0 _ _ _ _ _)
  | (with_reducible exact LeO.refl _)
  | (with_reducible exact LeO.none _)
  | (with_reducible refine LeO.ite ?_ ?_)
  | (with_reducible refine LeO.bind ?_ (fun _ => ?_))
  | exact ih0 _ _ _ _ _
  | exact LeO.none _
  | refine LeO.ite ?_ ?_
  | refine LeO.bind ?_ (fun _ => ?_)
set_option maxHeartbeats 8000000 in
set_option maxRecDepth 100000 in
theorem impl_Tree_isAbove.calls (k : Nat) (g : Nat) (s0_0 : List (S45)) (a1 : Int) (a2 : Int) (r : Bool) (w0 w : World) (hI : IsS29 w0 w g s0_0) (hB : Below w0.heap.size w0 w) (h : impl_Tree_isAbove.f k s0_0 a1 a2 = some r) :
 Calls Try.prog 87 #[.pointer (some ⟨g, 0, none⟩), .int .i64 a1, .int .i64 a2] w fun e w' => e = .returned (.bool r) ∧ IsS29 w0 w' g s0_0 ∧ Below w0.heap.size w0 w' ∧ KeepBut w w' g none := by
 have HI0 := Aside0.mk hI
 have HK := Aside0.mk (KeepBut.refl w g none)
 have HL := Aside0.mk hB.size
 clear hI
 have HW0 := Aside0.mk hB.size
 have HB := Aside0.mk hB
 clear hB
 have H : (impl_Tree_isAbove.l0 k a1 a2 (s0_0.length : Int) 0 s0_0) = some r := h
 clear h
 have H' := Aside0.mk H
 clear H
 obtain ⟨ASz4_0, cSz4_0, HGz4, hgz4, HSz4_0⟩ := HI0.out
 have hcz4_0 := cellS29_0 HGz4
 clear HGz4 hgz4
 go_enter Try.func87, Try.ntmps87
 go_wp2
 go_loopg [2, 12] k (fun kq v2 v12 w' => ∃ (x2_1 : Int) (x12_1 : Int), v2 = .int .i64 x2_1 ∧ v12 = .int .i64 x12_1 ∧ Aside0 (impl_Tree_isAbove.l0 kq a1 x2_1 (s0_0.length : Int) x12_1 s0_0 = some r) ∧ Aside0 (kq ≤ k) ∧ Aside0 (IsS29 w0 w' g s0_0) ∧ Aside0 (KeepBut w w' g none) ∧ Aside0 (Below w0.heap.size w0 w'))
 case atStart => exact ⟨(a2), (0), (by first | rfl | (simp; done) | (simp [*]; done)), (by first | rfl | (simp; done) | (simp [*]; done)), H', ⟨Nat.le_refl _⟩, ⟨by repeat (first | exact HI0.out | apply IsS29.alloc | apply IsS29.drewN | apply IsS29.drew)⟩, ⟨by repeat (first | exact HK.out | apply KeepBut.set_ | apply keep_drewN | apply keep_drew | apply keep_alloc)⟩, ⟨by repeat (first | exact HB.out | apply below_alloc | apply pw_below_drewN | apply below_drew1 | refine below_set ?_ (IsS29.ge HI0.out))⟩⟩
 case round =>
  clear H'
  try clear p2
  try clear hcz4_0
  obtain ⟨x2_1, x12_1, rfl, rfl, HA, HK1, HI0, HK, HB⟩ := hrel
  cases gk with
  | zero => exact absurd HA.out (by simp [impl_Tree_isAbove.l0])
  | succ k1 =>
   have H := HA.out
   clear HA
   simp only [impl_Tree_isAbove.l0] at H
   by_cases c5 : x12_1 < (s0_0.length : Int)
   · rw [if_pos c5] at H
     have c5b0 : decide (x12_1 < (s0_0.length : Int)) = true := decide_eq_true c5
     clear c5
     by_cases c6 : x2_1 = a1
     · rw [if_pos c6] at H
       have c6b0 : (x2_1 == a1) = true := beq_iff_eq.mpr c6
       have c6b1 : (x2_1 != a1) = false := bne_eq_false_iff_eq.mpr c6
       clear c6
       obtain rfl := Option.some.inj H
       go_wp2
       go_ret
       exact ⟨by first | rfl | (simp [*] <;> rfl), by repeat (first | exact HI0.out | apply IsS29.alloc | apply IsS29.drewN | apply IsS29.drew), by repeat (first | exact HB.out | apply below_alloc | apply pw_below_drewN | apply below_drew1 | refine below_set ?_ (IsS29.ge HI0.out)), by repeat (first | exact HK.out | apply KeepBut.set_ | apply keep_drewN | apply keep_drew | apply keep_alloc)⟩
     · rw [if_neg c6] at H
       have c6b0 : (x2_1 == a1) = false := beq_eq_false_iff_ne.mpr c6
       have c6b1 : (x2_1 != a1) = true := bne_iff_ne.mpr c6
       replace H := Option.bind_eq_some_iff.mp H
       obtain ⟨t102, A70, H⟩ := H
       replace H : (if t102 = true then (if 0 ≤ x2_1 then (if x2_1 < (s0_0.length : Int) then (impl_Tree_isAbove.l0 k1 a1 ((rd_T45 s0_0 x2_1).f4) (s0_0.length : Int) (wrap64 (x12_1 + 1)) s0_0) else (none)) else (none)) else (some false)) = some r := H
       have A7 := Aside0.mk A70
       clear A70
       by_cases c8 : t102 = true
       · subst c8
         rw [if_pos rfl] at H
         by_cases c9 : 0 ≤ x2_1
         · rw [if_pos c9] at H
           have c9b0 : decide (0 ≤ x2_1) = true := decide_eq_true c9
           clear c9
           by_cases c10 : x2_1 < (s0_0.length : Int)
           · rw [if_pos c10] at H
             have c10b0 : decide (x2_1 < (s0_0.length : Int)) = true := decide_eq_true c10
             clear c10
             have H' := Aside0.mk H
             clear H
             go_wp2_with (first | ((with_reducible refine gate_callee (f := 64) rfl ?_); refine goesL_ (some 19) rfl rfl Try.func64 (by kernel_rfl) rfl #[.pointer (some ⟨g, 0, none⟩), .int .i64 x2_1] rfl (by (try simp only [List.map_toArray, List.map_cons, List.map_nil]); first | done | rfl | (simp only [List.length_drop, List.length_take]; rfl)) ?_; (with_reducible refine (impl_Tree_isNode.calls g s0_0 x2_1 true w0 _ ?side1 ?side2 A7.out).mono ?_); (case side1 => repeat (first | (with_reducible first | exact HI0.out | apply IsS29.alloc | apply IsS29.drewN | apply IsS29.drew) | exact HI0.out)); (case side2 => repeat (first | (with_reducible first | exact HB.out | apply below_alloc | apply pw_below_drewN | apply below_drew1 | refine below_set ?_ (IsS29.ge HI0.out)) | exact HB.out)); rintro e w11 ⟨rfl, hi, hb, hk⟩; refine ⟨_, rfl, ?_⟩; have n0_ := Aside0.mk (KeepBut.trans (by repeat (first | exact HK.out | apply KeepBut.set_ | apply keep_drewN | apply keep_drew | apply keep_alloc)) hk (.inl rfl)); have n1_ := Aside0.mk (hb); have n2_ := Aside0.mk (hi); clear HK; clear HB; clear HI0; have HK := n0_; have HB := n1_; have HI0 := n2_; clear n0_ n1_ n2_; (try clear hb); (try clear hb2); (try clear hk); (try clear hi); obtain ⟨ASz12_0, cSz12_0, HGz12, hgz12, HSz12_0⟩ := HI0.out; have hcz12_0 := cellS29_0 HGz12; clear HGz12 hgz12; have p103 : 0 ≤ (x2_1 : Int) := of_decide_eq_true (by assumption); have q103 : x2_1 < (s0_0.length : Int) := of_decide_eq_true (by assumption); obtain ⟨ad103, A103_2, c103_2, A103_5, c103_5, e103, hx103_0, hx103_1, hx103_2, hx103_3, hx103_4, hx103_5, hl103_2, hi103_2, hl103_5, hi103_5⟩ := at_T45 HSz12_0 x2_1 p103 q103; cases e103; replace hx103_0 := pw_cell_below HB.out hx103_0; replace hx103_1 := pw_cell_below HB.out hx103_1; replace hx103_2 := pw_cell_below HB.out hx103_2; replace hx103_3 := pw_cell_below HB.out hx103_3; replace hx103_4 := pw_cell_below HB.out hx103_4; replace hx103_5 := pw_cell_below HB.out hx103_5; have HR103_2 := Aside0.mk hi103_2; have HC103_2 := Aside0.mk hl103_2; clear hi103_2 hl103_2; have HR103_5 := Aside0.mk hi103_5; have HC103_5 := Aside0.mk hl103_5; clear hi103_5 hl103_5; replace p103 := eq_true p103; replace q103 := eq_true q103))
             go_roundg k1
             case measure => have := HK1.out; omega
             case rel => exact ⟨((rd_T45 s0_0 x2_1).f4), (wrap64 (x12_1 + 1)), (by first | rfl | (simp; done) | (simp [*]; done)), (by first | rfl | (simp; done) | (simp [*]; done)), H', ⟨by have := HK1.out; omega⟩, ⟨by repeat (first | exact HI0.out | apply IsS29.alloc | apply IsS29.drewN | apply IsS29.drew)⟩, ⟨by repeat (first | exact HK.out | apply KeepBut.set_ | apply keep_drewN | apply keep_drew | apply keep_alloc)⟩, ⟨by repeat (first | exact HB.out | apply below_alloc | apply pw_below_drewN | apply below_drew1 | refine below_set ?_ (IsS29.ge HI0.out))⟩⟩
           · rw [if_neg c10] at H
             exact absurd H (by simp)
         · rw [if_neg c9] at H
           exact absurd H (by simp)
       · replace c8 := Bool.eq_false_iff.mpr c8
         subst c8
         rw [if_neg (show ¬ (false = true) by decide)] at H
         obtain rfl := Option.some.inj H
         go_wp2_with (first | ((with_reducible refine gate_callee (f := 64) rfl ?_); refine goesL_ (some 19) rfl rfl Try.func64 (by kernel_rfl) rfl #[.pointer (some ⟨g, 0, none⟩), .int .i64 x2_1] rfl (by (try simp only [List.map_toArray, List.map_cons, List.map_nil]); first | done | rfl | (simp only [List.length_drop, List.length_take]; rfl)) ?_; (with_reducible refine (impl_Tree_isNode.calls g s0_0 x2_1 false w0 _ ?side1 ?side2 A7.out).mono ?_); (case side1 => repeat (first | (with_reducible first | exact HI0.out | apply IsS29.alloc | apply IsS29.drewN | apply IsS29.drew) | exact HI0.out)); (case side2 => repeat (first | (with_reducible first | exact HB.out | apply below_alloc | apply pw_below_drewN | apply below_drew1 | refine below_set ?_ (IsS29.ge HI0.out)) | exact HB.out)); rintro e w13 ⟨rfl, hi, hb, hk⟩; refine ⟨_, rfl, ?_⟩; have n0_ := Aside0.mk (KeepBut.trans (by repeat (first | exact HK.out | apply KeepBut.set_ | apply keep_drewN | apply keep_drew | apply keep_alloc)) hk (.inl rfl)); have n1_ := Aside0.mk (hb); have n2_ := Aside0.mk (hi); clear HK; clear HB; clear HI0; have HK := n0_; have HB := n1_; have HI0 := n2_; clear n0_ n1_ n2_; (try clear hb); (try clear hb2); (try clear hk); (try clear hi)))
         go_ret
         exact ⟨by first | rfl | (simp [*] <;> rfl), by repeat (first | exact HI0.out | apply IsS29.alloc | apply IsS29.drewN | apply IsS29.drew), by repeat (first | exact HB.out | apply below_alloc | apply pw_below_drewN | apply below_drew1 | refine below_set ?_ (IsS29.ge HI0.out)), by repeat (first | exact HK.out | apply KeepBut.set_ | apply keep_drewN | apply keep_drew | apply keep_alloc)⟩
   · rw [if_neg c5] at H
     have c5b0 : decide (x12_1 < (s0_0.length : Int)) = false := decide_eq_false c5
     clear c5
     replace H := Option.bind_eq_some_iff.mp H
     obtain ⟨t101, A140, H⟩ := H
     replace H : (some t101) = some r := H
     have A14 := Aside0.mk A140
     clear A140
     obtain rfl := Option.some.inj H
     go_wp2_with (first | ((with_reducible refine gate_callee (f := 64) rfl ?_); refine goesL_ (some 32) rfl rfl Try.func64 (by kernel_rfl) rfl #[.pointer (some ⟨g, 0, none⟩), .int .i64 x2_1] rfl (by (try simp only [List.map_toArray, List.map_cons, List.map_nil]); first | done | rfl | (simp only [List.length_drop, List.length_take]; rfl)) ?_; (with_reducible refine (impl_Tree_isNode.calls g s0_0 x2_1 t101 w0 _ ?side1 ?side2 A14.out).mono ?_); (case side1 => repeat (first | (with_reducible first | exact HI0.out | apply IsS29.alloc | apply IsS29.drewN | apply IsS29.drew) | exact HI0.out)); (case side2 => repeat (first | (with_reducible first | exact HB.out | apply below_alloc | apply pw_below_drewN | apply below_drew1 | refine below_set ?_ (IsS29.ge HI0.out)) | exact HB.out)); rintro e w15 ⟨rfl, hi, hb, hk⟩; refine ⟨_, rfl, ?_⟩; have n0_ := Aside0.mk (KeepBut.trans (by repeat (first | exact HK.out | apply KeepBut.set_ | apply keep_drewN | apply keep_drew | apply keep_alloc)) hk (.inl rfl)); have n1_ := Aside0.mk (hb); have n2_ := Aside0.mk (hi); clear HK; clear HB; clear HI0; have HK := n0_; have HB := n1_; have HI0 := n2_; clear n0_ n1_ n2_; (try clear hb); (try clear hb2); (try clear hk); (try clear hi)))
     go_ret
     exact ⟨by first | rfl | (simp [*] <;> rfl), by repeat (first | exact HI0.out | apply IsS29.alloc | apply IsS29.drewN | apply IsS29.drew), by repeat (first | exact HB.out | apply below_alloc | apply pw_below_drewN | apply below_drew1 | refine below_set ?_ (IsS29.ge HI0.out)), by repeat (first | exact HK.out | apply KeepBut.set_ | apply keep_drewN | apply keep_drew | apply keep_alloc)⟩
/-- isNode and isAbove leave the world as it is, but for draws. -/
theorem impl_Tree_isNode.quiet (g : Nat) (A : Option Addr) (c : Nat) (xs : List S45) (a1 : Int) (r : Bool) (w : World) (hb : w.cell? ⟨g, 0, none⟩ = some (.slice A xs.length c)) (h : impl_Tree_isNode.f xs a1 = some r) :
 Calls Try.prog 64 #[.pointer (some ⟨g, 0, none⟩), .int .i64 a1] w fun e w' => e = .returned (.bool r) ∧ Drawn0 w w' := by
 unfold impl_Tree_isNode.f at h
 replace h := Option.bind_eq_some_iff.mp h
 obtain ⟨t, A3, h⟩ := h
 obtain rfl := Option.some.inj h
 clear h
 replace A3 := Aside0.mk A3
 go_enter Try.func64, Try.ntmps64
 go_wp2_with (first | (go_at_call 40; (with_reducible refine (impl_inRange.calls a1 0 (wrap64 ((xs.length : Int) - 1)) t _ A3.out).mono ?_); rintro e w' ⟨rfl, ⟨nd, rfl⟩⟩))
 go_ret
 exact ⟨rfl, by repeat (first | exact Drawn0.refl _ | apply Drawn0.step)⟩
set_option maxHeartbeats 8000000 in
set_option maxRecDepth 100000 in
theorem impl_Tree_isAbove.quiet (k g : Nat) (A : Option Addr) (c : Nat) (xs : List S45) (a1 a2 : Int) (r : Bool) (w : World) (hb : w.cell? ⟨g, 0, none⟩ = some (.slice A xs.length c)) (hC : Kd.C k45 w A xs.length xs) (h : impl_Tree_isAbove.f k xs a1 a2 = some r) :
 Calls Try.prog 87 #[.pointer (some ⟨g, 0, none⟩), .int .i64 a1, .int .i64 a2] w fun e w' => e = .returned (.bool r) ∧ Drawn0 w w' := by
 have HC := Aside0.mk hC
 have HA := Aside0.mk (show impl_Tree_isAbove.l0 k a1 a2 (xs.length : Int) 0 xs = some r from h)
 clear hC h
 go_enter Try.func87, Try.ntmps87
 go_wp2
 go_loopg [2, 12] k (fun kq v2 v12 w' => ∃ (x2 : Int) (x12 : Int), v2 = .int .i64 x2 ∧ v12 = .int .i64 x12 ∧ Aside0 (impl_Tree_isAbove.l0 kq a1 x2 (xs.length : Int) x12 xs = some r) ∧ Aside0 (kq ≤ k) ∧ Drawn0 w w')
 case atStart => exact ⟨a2, 0, rfl, rfl, HA, ⟨Nat.le_refl _⟩, by repeat (first | exact Drawn0.refl _ | apply Drawn0.step)⟩
 case round =>
  clear HA
  obtain ⟨x2, x12, rfl, rfl, HA, HK, ⟨m1, rfl⟩⟩ := hrel
  have hbq := fun n : Nat => (show (w.drewN n).cell? ⟨g, 0, none⟩ = some (.slice A xs.length c) from hb)
  cases gk with
  | zero => exact absurd HA.out (by simp [impl_Tree_isAbove.l0])
  | succ k1 =>
   have H := HA.out
   clear HA
   simp only [impl_Tree_isAbove.l0] at H
   by_cases c5 : x12 < (xs.length : Int)
   · rw [if_pos c5] at H
     have c5b : decide (x12 < (xs.length : Int)) = true := decide_eq_true c5
     clear c5
     by_cases c6 : x2 = a1
     · rw [if_pos c6] at H
       have c6b : (x2 == a1) = true := beq_iff_eq.mpr c6
       clear c6
       obtain rfl := Option.some.inj H
       clear H
       go_wp2
       go_ret
       exact ⟨rfl, by repeat (first | exact Drawn0.refl _ | apply Drawn0.step)⟩
     · rw [if_neg c6] at H
       have c6b : (x2 == a1) = false := beq_eq_false_iff_ne.mpr c6
       clear c6
       replace H := Option.bind_eq_some_iff.mp H
       obtain ⟨t, A7, H⟩ := H
       replace A7 := Aside0.mk A7
       cases t with
       | true =>
        rw [if_pos rfl] at H
        by_cases c9 : 0 ≤ x2
        · rw [if_pos c9] at H
          by_cases c10 : x2 < (xs.length : Int)
          · rw [if_pos c10] at H
            have H' := Aside0.mk H
            clear H
            obtain ⟨ad, A_2, c_2, A_5, c_5, e1, hx0, hx1, hx2, hx3, hx4, hx5, hl2, hi2, hl5, hi5⟩ := at_T45 HC.out x2 c9 c10
            subst e1
            clear hx0 hx1 hx2 hx3 hx5 hl2 hi2 hl5 hi5
            replace c9 := eq_true c9
            replace c10 := eq_true c10
            go_wp2_with (first | (go_at_call 64; (with_reducible refine (impl_Tree_isNode.quiet g _ c xs x2 true _ (hbq _) A7.out).mono ?_); rintro e w' ⟨rfl, ⟨nd, rfl⟩⟩))
            go_roundg k1
            case measure => have := HK.out; omega
            case rel => exact ⟨_, _, rfl, rfl, H', ⟨by have := HK.out; omega⟩, by repeat (first | exact Drawn0.refl _ | apply Drawn0.step)⟩
          · rw [if_neg c10] at H; cases H
        · rw [if_neg c9] at H; cases H
       | false =>
        rw [if_neg (by decide)] at H
        obtain rfl := Option.some.inj H
        clear H
        go_wp2_with (first | (go_at_call 64; (with_reducible refine (impl_Tree_isNode.quiet g _ c xs x2 false _ (hbq _) A7.out).mono ?_); rintro e w' ⟨rfl, ⟨nd, rfl⟩⟩))
        go_ret
        exact ⟨rfl, by repeat (first | exact Drawn0.refl _ | apply Drawn0.step)⟩
   · rw [if_neg c5] at H
     have c5b : decide (x12 < (xs.length : Int)) = false := decide_eq_false c5
     clear c5
     replace H := Option.bind_eq_some_iff.mp H
     obtain ⟨t, A7, H⟩ := H
     obtain rfl := Option.some.inj H
     clear H
     replace A7 := Aside0.mk A7
     go_wp2_with (first | (go_at_call 64; (with_reducible refine (impl_Tree_isNode.quiet g _ c xs x2 t _ (hbq _) A7.out).mono ?_); rintro e w' ⟨rfl, ⟨nd, rfl⟩⟩))
     go_ret
     exact ⟨rfl, by repeat (first | exact Drawn0.refl _ | apply Drawn0.step)⟩
mutual
def impl_Tree_linksOk.l0 : Nat → Int → List Int → List S45 → Option Bool
 | 0, _, _, _ => none
 | k + 1, i, s, xs => if i < (xs.length : Int) then (if 0 ≤ i then impl_Tree_linksOk.l1 k i 0 s xs else none) else impl_Tree_linksOk.l2 k 0 s xs
def impl_Tree_linksOk.l1 : Nat → Int → Int → List Int → List S45 → Option Bool
 | 0, _, _, _, _ => none
 | k + 1, i, j, s, xs => if j < ((rd_T45 xs i).f5.length : Int) then (if 0 ≤ j then ((impl_Tree_isNode.f xs (rd (rd_T45 xs i).f5 j)).bind fun t => if t = true then (if 0 ≤ rd (rd_T45 xs i).f5 j then (if rd (rd_T45 xs i).f5 j < (xs.length : Int) then (if (rd_T45 xs (rd (rd_T45 xs i).f5 j)).f4 = i then (if 0 < rd s (rd (rd_T45 xs i).f5 j) then some false else impl_Tree_linksOk.l1 k i (wrap64 (j + 1)) (s.set (rd (rd_T45 xs i).f5 j).toNat (wrap64 (rd s (rd (rd_T45 xs i).f5 j) + 1))) xs) else some false) else none) else none) else some false) else none) else impl_Tree_linksOk.l0 k (wrap64 (i + 1)) s xs
def impl_Tree_linksOk.l2 : Nat → Int → List Int → List S45 → Option Bool
 | 0, _, _, _ => none
 | k + 1, i, s, xs => if i < (xs.length : Int) then (if 0 ≤ i then (if (((rd_T45 xs i).f4 == -1) == decide (0 < rd s i)) = true then some false else (impl_Tree_isAbove.f k xs i (rd_T45 xs i).f4).bind fun t => if t = true then some false else impl_Tree_linksOk.l2 k (wrap64 (i + 1)) s xs) else none) else some true
end
def impl_Tree_linksOk.f (k : Nat) (xs : List S45) : Option Bool := if 0 < xs.length then (if xs.length ≤ 500 then impl_Tree_linksOk.l0 k 0 (List.replicate xs.length 0) xs else none) else none
theorem impl_Tree_linksOk.mono_l : ∀ k, (∀ y0 y1 y2, LeO (impl_Tree_linksOk.l0 k y0 y1 y2) (impl_Tree_linksOk.l0 (k + 1) y0 y1 y2)) ∧ (∀ y0 y1 y2 y3, LeO (impl_Tree_linksOk.l1 k y0 y1 y2 y3) (impl_Tree_linksOk.l1 (k + 1) y0 y1 y2 y3)) ∧ (∀ y0 y1 y2, LeO (impl_Tree_linksOk.l2 k y0 y1 y2) (impl_Tree_linksOk.l2 (k + 1) y0 y1 y2))
 | 0 => ⟨fun _ _ _ r h => by simp [impl_Tree_linksOk.l0] at h, fun _ _ _ _ r h => by simp [impl_Tree_linksOk.l1] at h, fun _ _ _ r h => by simp [impl_Tree_linksOk.l2] at h⟩
 | k + 1 => by
  obtain ⟨ih0, ih1, ih2⟩ := impl_Tree_linksOk.mono_l k
  refine ⟨?_, ?_, ?_⟩
  · intro y0 y1 y2
    rw [impl_Tree_linksOk.l0, impl_Tree_linksOk.l0]
    exact LeO.ite (LeO.ite (ih1 _ _ _ _) (LeO.refl _)) (ih2 _ _ _)
  · intro y0 y1 y2 y3
    rw [impl_Tree_linksOk.l1, impl_Tree_linksOk.l1]
    exact LeO.ite (LeO.ite (LeO.bind (LeO.refl _) (fun _ => LeO.ite (LeO.ite (LeO.ite (LeO.ite (LeO.ite (LeO.refl _) (ih1 _ _ _ _)) (LeO.refl _)) (LeO.refl _)) (LeO.refl _)) (LeO.refl _))) (LeO.refl _)) (ih0 _ _ _)
  · intro y0 y1 y2
    rw [impl_Tree_linksOk.l2, impl_Tree_linksOk.l2]
    exact LeO.ite (LeO.ite (LeO.ite (LeO.refl _) (LeO.bind (impl_Tree_isAbove.mono _ _ _ _) (fun _ => LeO.ite (LeO.refl _) (ih2 _ _ _)))) (LeO.refl _)) (LeO.refl _)
theorem impl_Tree_linksOk.mono : ∀ a0 k, LeO (impl_Tree_linksOk.f k a0) (impl_Tree_linksOk.f (k + 1) a0) := fun a0 k => LeO.ite (LeO.ite ((impl_Tree_linksOk.mono_l k).1 _ _ _) (LeO.refl _)) (LeO.refl _)
/-- What the walk of linksOk holds: the receiver's cell, the row 'seen', all that was. -/
structure LinksW (w W : World) (g gs n cap : Nat) (A : Option Addr) (c m : Nat) (s : List Int) : Prop where
 cell : W.cell? ⟨g, 0, none⟩ = some (.slice A m c)
 row : Kd.R (Kd.int .i64) 3 W w.heap.size (fun k => k = gs) (.slice (some ⟨gs, 0, none⟩) n cap) s
 low : Below w.heap.size w W
section
variable {w W W2 : World} {g gs n cap : Nat} {A : Option Addr} {c m : Nat} {s : List Int}
theorem LinksW.below (h : LinksW w W g gs n cap A c m s) (hb : Below W.heap.size W W2) : LinksW w W2 g gs n cap A c m s := ⟨pw_cell_below hb h.cell, Kd.R_below h.row hb, below_step h.low hb⟩
theorem LinksW.drewN (h : LinksW w W g gs n cap A c m s) (k : Nat) : LinksW w (W.drewN k) g gs n cap A c m s := ⟨h.cell, Kd.R_drewN h.row k, pw_below_drewN h.low k⟩
theorem LinksW.put (h : LinksW w W g gs n cap A c m s) (hg : g < w.heap.size) (i x : Int) : LinksW w (W.setCell ⟨gs, i.toNat, none⟩ (.int .i64 x)) g gs n cap A c m (s.set i.toNat x) := by
 have hgs : w.heap.size ≤ gs := Kd.R_base h.row gs rfl
 exact ⟨(cell_far (p := ⟨gs, i.toNat, none⟩) (show g ≠ gs by omega) _).trans h.cell, Kd.R_putn h.row i x, below_set h.low hgs⟩
theorem LinksW.far (h : LinksW w W g gs n cap A c m s) (hg : g < w.heap.size) {gb : Nat} (hb : w.heap.size ≤ gb) (hne : gb ≠ gs) (j : Nat) (u : Value) : LinksW w (W.setCell ⟨gb, j, none⟩ u) g gs n cap A c m s :=
 ⟨(cell_far (p := ⟨gb, j, none⟩) (show g ≠ gb by omega) _).trans h.cell, Kd.R_far (p := ⟨gb, j, none⟩) h.row (fun k hk => by show k ≠ gb; omega) u, below_set h.low hb⟩
theorem LinksW.fill (h : LinksW w W g gs n cap A c m s) (hg : g < w.heap.size) {gb : Nat} (hb : w.heap.size ≤ gb) (hne : gb ≠ gs) (x : S45) (v2 v5 : Value) : LinksW w (fillN W gb x v2 v5) g gs n cap A c m s :=
 (((((h.far hg hb hne 0 _).far hg hb hne 1 _).far hg hb hne 2 _).far hg hb hne 3 _).far hg hb hne 4 _).far hg hb hne 5 _
end
set_option maxHeartbeats 8000000 in
set_option maxRecDepth 100000 in
theorem impl_Tree_linksOk.calls (k : Nat) (g : Nat) (xs : List S45) (r : Bool) (w0 w : World) (hI : IsS29 w0 w g xs) (hB : Below w0.heap.size w0 w) (h : impl_Tree_linksOk.f k xs = some r) :
 Calls Try.prog 42 #[.pointer (some ⟨g, 0, none⟩)] w fun e w' => e = .returned (.bool r) ∧ IsS29 w0 w' g xs ∧ Below w0.heap.size w0 w' ∧ KeepBut w w' g none := by
 have HI := Aside0.mk hI
 have HB0 := Aside0.mk hB
 suffices hx : Calls Try.prog 42 #[.pointer (some ⟨g, 0, none⟩)] w fun e w' => e = .returned (.bool r) ∧ Below w.heap.size w w' by
  refine hx.mono ?_
  rintro e w' ⟨rfl, hb⟩
  exact ⟨rfl, IsS29.below hI hb, below_step hB hb, KeepBut.of_below hb g none⟩
 obtain ⟨A, c, hblk, hg, hC0⟩ := hI
 have hc0 := cellS29_0 hblk
 have HC := Aside0.mk (Kd.C_below hC0 hB)
 have HG := Aside0.mk (blk_lt hblk)
 clear hB hblk hg hC0
 unfold impl_Tree_linksOk.f at h
 by_cases hn0 : 0 < xs.length
 · rw [if_pos hn0] at h
   by_cases hn1 : xs.length ≤ 500
   · rw [if_pos hn1] at h
     have HA := Aside0.mk h
     have HN0 := Aside0.mk hn0
     have HN1 := Aside0.mk hn1
     clear h hn0 hn1
     go_enter Try.func42, Try.ntmps42
     go_wp2_with (first | ((with_reducible refine gate_dst (N := 15) rfl ?_); refine Kd.R_make (w0 := w) (Kd.int .i64) w.heap.size 3 rfl (N := 15) rfl 37 _ _ rfl (xs.length : Int) rfl rfl Try.underlying37 (.int .i64 0) 8 info3 rfl (by decide) (by omega) 0 (ok := fun _ => True) (okp := fun _ => True) rfl (fun _ hk => hk) trivial (by omega) (by have := HN1.out; omega) (Below.refl _ _) (Nat.le_refl _) ?_; intro vs w1 ho hb hg_ hnew_; clear hg_ hnew_; rw [Int.toNat_natCast] at ho; obtain ⟨gs, cap, ev, _, _, _⟩ := Kd.R_form ho (by have := HN0.out; rw [List.length_replicate]; exact this); rw [List.length_replicate] at ev; subst ev; have HL := Aside0.mk (show LinksW w w1 g gs xs.length cap A c xs.length (List.replicate xs.length 0) from ⟨pw_cell_below hb hc0, Kd.R_mono (Kd.R_tight rfl ho) (fun k_ hk => by simpa [Value.ownBlock] using hk), hb⟩); have hc1 := HL.out.cell; clear ho hb))
     go_loopg [21] k (fun kq v21 w' => ∃ (i : Int) (s : List Int), v21 = .int .i64 i ∧ Aside0 (impl_Tree_linksOk.l0 kq i s xs = some r) ∧ Aside0 (kq ≤ k) ∧ Aside0 (LinksW w w' g gs xs.length cap A c xs.length s))
     case atStart => exact ⟨0, _, rfl, HA, ⟨Nat.le_refl _⟩, HL⟩
     case round =>
      clear HA HL hc1 hc0
      obtain ⟨i, s, rfl, HA, HK, HL⟩ := hrel
      cases gk with
      | zero => exact absurd HA.out (by simp [impl_Tree_linksOk.l0])
      | succ k1 =>
       have H := HA.out
       clear HA
       simp only [impl_Tree_linksOk.l0] at H
       by_cases c1 : i < (xs.length : Int)
       · rw [if_pos c1] at H
         by_cases c2 : 0 ≤ i
         · rw [if_pos c2] at H
           have HA := Aside0.mk H
           clear H
           have c1b : decide (i < (xs.length : Int)) = true := decide_eq_true c1
           obtain ⟨ad, A_2, c_2, A_5, c_5, e1, hx0, hx1, hx2, hx3, hx4, hx5, hl2, hi2, hl5, hi5⟩ := at_T45 HC.out i c2 c1
           subst e1
           replace hx0 := pw_cell_below HL.out.low hx0
           replace hx1 := pw_cell_below HL.out.low hx1
           replace hx2 := pw_cell_below HL.out.low hx2
           replace hx3 := pw_cell_below HL.out.low hx3
           replace hx4 := pw_cell_below HL.out.low hx4
           replace hx5 := pw_cell_below HL.out.low hx5
           have HI5 := Aside0.mk hi5
           clear hl2 hi2 hl5 hi5
           replace c2 := eq_true c2
           replace c1 := eq_true c1
           go_upto_region 5 with (first | ((with_reducible refine gate_dst (N := 5) rfl ?_); refine box_event ?hg (N := 5) ?hd (cs := #[.int .i64 0, .string (⟨#[]⟩ : ByteArray), .slice none 0 0, .string (⟨#[]⟩ : ByteArray), .int .i64 0, .slice none 0 0]) (t := 45) ?hr ?_; (case hd => rfl); (case hg => rfl); (case hr => first | (go_simp; done) | (go_simp; rfl)); intro gb hg w2 hbox hb; have HNE := Aside0.mk (show gb ≠ gs by have := Kd.R_lt HL.out.row gs rfl; omega); have HL2 := Aside0.mk (HL.out.below hb); have HGB := Aside0.mk (show w.heap.size ≤ gb by rw [hg]; exact below_size HL.out.low); have HBX := Aside0.mk hbox; have hz0 := blk_cell hbox 0; have hz1 := blk_cell hbox 1; have hz2 := blk_cell hbox 2; have hz3 := blk_cell hbox 3; have hz4 := blk_cell hbox 4; have hz5 := blk_cell hbox 5; have hf := blk_frozen hbox; clear hbox hb hg HL))
           have HB6 := Aside0.mk (fillN_blk (rd_T45 xs i) (.slice A_2 (rd_T45 xs i).f2.length c_2) (.slice A_5 (rd_T45 xs i).f5.length c_5) HBX.out)
           have HL := Aside0.mk (HL2.out.fill HG.out HGB.out HNE.out (rd_T45 xs i) (.slice A_2 (rd_T45 xs i).f2.length c_2) (.slice A_5 (rd_T45 xs i).f5.length c_5))
           show Code.wp _ _ _ _ (fillN w2 gb (rd_T45 xs i) (.slice A_2 (rd_T45 xs i).f2.length c_2) (.slice A_5 (rd_T45 xs i).f5.length c_5))
           generalize fillN w2 gb (rd_T45 xs i) (.slice A_2 (rd_T45 xs i).f2.length c_2) (.slice A_5 (rd_T45 xs i).f5.length c_5) = w3 at HB6 HL ⊢
           clear hz0 hz1 hz2 hz3 hz4 hz5 hf HBX HL2 hx0 hx1 hx2 hx3 hx4 hx5 HNE HGB
           have hz5 := blk_cell HB6.out 5
           go_wp2
           go_loopg [29] k1 (fun kq v29 w' => ∃ (j : Int) (s : List Int), v29 = .int .i64 j ∧ Aside0 (impl_Tree_linksOk.l1 kq i j s xs = some r) ∧ Aside0 (kq ≤ k1) ∧ Aside0 (LinksW w w' g gs xs.length cap (some ad) c xs.length s))
           case atStart => exact ⟨0, _, rfl, HA, ⟨Nat.le_refl _⟩, HL⟩
           case round =>
            clear HA HL hz5 HB6
            obtain ⟨j, s, rfl, HA, HK2, HL⟩ := hrel
            cases gk with
            | zero => exact absurd HA.out (by simp [impl_Tree_linksOk.l1])
            | succ k2 =>
             have H := HA.out
             clear HA
             simp only [impl_Tree_linksOk.l1] at H
             by_cases c3 : j < ((rd_T45 xs i).f5.length : Int)
             · rw [if_pos c3] at H
               by_cases c4 : 0 ≤ j
               · rw [if_pos c4] at H
                 obtain ⟨t, A1, H⟩ := Option.bind_eq_some_iff.mp H
                 replace A1 := Aside0.mk A1
                 obtain ⟨ak, e2, hy0⟩ := Kd.at_int HI5.out j c4 c3
                 subst e2
                 replace hy0 := pw_cell_below HL.out.low hy0
                 have hcg := HL.out.cell
                 have c3b : decide (j < ((rd_T45 xs i).f5.length : Int)) = true := decide_eq_true c3
                 replace c3 := eq_true c3
                 replace c4 := eq_true c4
                 obtain ⟨kid, hkid⟩ : ∃ q : Int, q = rd (rd_T45 xs i).f5 j := ⟨_, rfl⟩
                 rw [← hkid] at hy0 H A1
                 clear hkid
                 cases t with
                 | false =>
                  rw [if_neg (by decide)] at H
                  obtain rfl := Option.some.inj H
                  clear H
                  go_wp2_with (first | (go_at_call 64; (with_reducible refine (impl_Tree_isNode.quiet g _ c xs kid false _ hcg A1.out).mono ?_); rintro e w' ⟨rfl, ⟨nd, rfl⟩⟩))
                  go_ret
                  exact ⟨rfl, pw_below_drewN HL.out.low _⟩
                 | true =>
                  rw [if_pos rfl] at H
                  by_cases c5 : 0 ≤ kid
                  · rw [if_pos c5] at H
                    by_cases c6 : kid < (xs.length : Int)
                    · rw [if_pos c6] at H
                      obtain ⟨ad', A_6, c_6, A_7, c_7, e3, hw0, hw1, hw2, hw3, hw4, hw5, hl6, hi6, hl7, hi7⟩ := at_T45 HC.out kid c5 c6
                      injection e3 with e3
                      subst e3
                      replace hw4 := pw_cell_below HL.out.low hw4
                      clear hw0 hw1 hw2 hw3 hw5 hl6 hi6 hl7 hi7
                      have hs : wr.cell? ⟨gs, kid.toNat, none⟩ = some (.int .i64 (rd s kid)) := (Kd.R_celln 0 HL.out.row kid c5 c6).1
                      have hsf : wr.frozen? ⟨gs, kid.toNat, none⟩ = false := (Kd.R_celln 0 HL.out.row kid c5 c6).2
                      replace c5 := eq_true c5
                      replace c6 := eq_true c6
                      by_cases c7 : (rd_T45 xs kid).f4 = i
                      · rw [if_pos c7] at H
                        have c7b : ((rd_T45 xs kid).f4 == i) = true := beq_iff_eq.mpr c7
                        have c7c : ((rd_T45 xs kid).f4 != i) = false := bne_eq_false_iff_eq.mpr c7
                        clear c7
                        by_cases c8 : 0 < rd s kid
                        · rw [if_pos c8] at H
                          obtain rfl := Option.some.inj H
                          clear H
                          have c8b : decide (0 < rd s kid) = true := decide_eq_true c8
                          clear c8
                          go_wp2_with (first | (go_at_call 64; (with_reducible refine (impl_Tree_isNode.quiet g _ c xs kid true _ hcg A1.out).mono ?_); rintro e w' ⟨rfl, ⟨nd, rfl⟩⟩))
                          go_ret
                          exact ⟨rfl, pw_below_drewN HL.out.low _⟩
                        · rw [if_neg c8] at H
                          have HA := Aside0.mk H
                          clear H
                          have c8b : decide (0 < rd s kid) = false := decide_eq_false c8
                          clear c8
                          go_wp2_with (first | (go_at_call 64; (with_reducible refine (impl_Tree_isNode.quiet g _ c xs kid true _ hcg A1.out).mono ?_); rintro e w' ⟨rfl, ⟨nd, rfl⟩⟩))
                          go_roundg k2
                          case measure => have := HK.out; have := HK2.out; omega
                          case rel => exact ⟨_, _, rfl, HA, ⟨by have := HK2.out; omega⟩, ⟨LinksW.put (LinksW.drewN HL.out _) HG.out kid _⟩⟩
                      · rw [if_neg c7] at H
                        obtain rfl := Option.some.inj H
                        clear H
                        have c7b : ((rd_T45 xs kid).f4 == i) = false := beq_eq_false_iff_ne.mpr c7
                        have c7c : ((rd_T45 xs kid).f4 != i) = true := bne_iff_ne.mpr c7
                        clear c7
                        go_wp2_with (first | (go_at_call 64; (with_reducible refine (impl_Tree_isNode.quiet g _ c xs kid true _ hcg A1.out).mono ?_); rintro e w' ⟨rfl, ⟨nd, rfl⟩⟩))
                        go_ret
                        exact ⟨rfl, pw_below_drewN HL.out.low _⟩
                    · rw [if_neg c6] at H; cases H
                  · rw [if_neg c5] at H; cases H
               · rw [if_neg c4] at H; cases H
             · rw [if_neg c3] at H
               have HA := Aside0.mk H
               clear H
               have c3b : decide (j < ((rd_T45 xs i).f5.length : Int)) = false := decide_eq_false c3
               clear c3
               go_wp2
               go_roundg k2
               case measure => have := HK.out; have := HK2.out; omega
               case rel => exact ⟨_, _, rfl, HA, ⟨by have := HK.out; have := HK2.out; omega⟩, HL⟩
         · rw [if_neg c2] at H; cases H
       · rw [if_neg c1] at H
         have HA := Aside0.mk H
         clear H
         have c1b : decide (i < (xs.length : Int)) = false := decide_eq_false c1
         clear c1
         have hcg := HL.out.cell
         go_wp2
         go_loopg [69] k1 (fun kq v69 w' => ∃ (i : Int), v69 = .int .i64 i ∧ Aside0 (impl_Tree_linksOk.l2 kq i s xs = some r) ∧ Aside0 (kq ≤ k1) ∧ Aside0 (LinksW w w' g gs xs.length cap A c xs.length s))
         case atStart => exact ⟨0, rfl, HA, ⟨Nat.le_refl _⟩, HL⟩
         case round =>
          clear HA HL hcg c1b
          obtain ⟨i, rfl, HA, HK2, HL⟩ := hrel
          cases gk with
          | zero => exact absurd HA.out (by simp [impl_Tree_linksOk.l2])
          | succ k2 =>
           have H := HA.out
           clear HA
           simp only [impl_Tree_linksOk.l2] at H
           by_cases c1 : i < (xs.length : Int)
           · rw [if_pos c1] at H
             by_cases c2 : 0 ≤ i
             · rw [if_pos c2] at H
               have c1b : decide (i < (xs.length : Int)) = true := decide_eq_true c1
               obtain ⟨ad, A_2, c_2, A_5, c_5, e1, hx0, hx1, hx2, hx3, hx4, hx5, hl2, hi2, hl5, hi5⟩ := at_T45 HC.out i c2 c1
               subst e1
               replace hx0 := pw_cell_below HL.out.low hx0
               replace hx1 := pw_cell_below HL.out.low hx1
               replace hx2 := pw_cell_below HL.out.low hx2
               replace hx3 := pw_cell_below HL.out.low hx3
               replace hx4 := pw_cell_below HL.out.low hx4
               replace hx5 := pw_cell_below HL.out.low hx5
               clear hl2 hi2 hl5 hi5
               have C1 := Aside0.mk c1
               have C2 := Aside0.mk c2
               replace c2 := eq_true c2
               replace c1 := eq_true c1
               go_upto_region 16 with (first | ((with_reducible refine gate_dst (N := 9) rfl ?_); refine box_event ?hg (N := 9) ?hd (cs := #[.int .i64 0, .string (⟨#[]⟩ : ByteArray), .slice none 0 0, .string (⟨#[]⟩ : ByteArray), .int .i64 0, .slice none 0 0]) (t := 45) ?hr ?_; (case hd => rfl); (case hg => rfl); (case hr => first | (go_simp; done) | (go_simp; rfl)); intro gb hg w2 hbox hb; have HNE := Aside0.mk (show gb ≠ gs by have := Kd.R_lt HL.out.row gs rfl; omega); have HL2 := Aside0.mk (HL.out.below hb); have HGB := Aside0.mk (show w.heap.size ≤ gb by rw [hg]; exact below_size HL.out.low); have HBX := Aside0.mk hbox; have hz0 := blk_cell hbox 0; have hz1 := blk_cell hbox 1; have hz2 := blk_cell hbox 2; have hz3 := blk_cell hbox 3; have hz4 := blk_cell hbox 4; have hz5 := blk_cell hbox 5; have hf := blk_frozen hbox; clear hbox hb hg HL))
               have HB6 := Aside0.mk (fillN_blk (rd_T45 xs i) (.slice A_2 (rd_T45 xs i).f2.length c_2) (.slice A_5 (rd_T45 xs i).f5.length c_5) HBX.out)
               have HL := Aside0.mk (HL2.out.fill HG.out HGB.out HNE.out (rd_T45 xs i) (.slice A_2 (rd_T45 xs i).f2.length c_2) (.slice A_5 (rd_T45 xs i).f5.length c_5))
               show Code.wp _ _ _ _ (fillN w2 gb (rd_T45 xs i) (.slice A_2 (rd_T45 xs i).f2.length c_2) (.slice A_5 (rd_T45 xs i).f5.length c_5))
               generalize fillN w2 gb (rd_T45 xs i) (.slice A_2 (rd_T45 xs i).f2.length c_2) (.slice A_5 (rd_T45 xs i).f5.length c_5) = w3 at HB6 HL ⊢
               clear hz0 hz1 hz2 hz3 hz4 hz5 hf HBX HL2 hx0 hx1 hx2 hx3 hx4 hx5 HNE HGB
               have hz4 := blk_cell HB6.out 4
               have hcg := HL.out.cell
               have hs : w3.cell? ⟨gs, i.toNat, none⟩ = some (.int .i64 (rd s i)) := (Kd.R_celln 0 HL.out.row i C2.out C1.out).1
               have hCn := Kd.C_below HC.out HL.out.low
               cases eP : ((rd_T45 xs i).f4 == -1) == decide (0 < rd s i) with
               | true =>
                rw [if_pos eP] at H
                obtain rfl := Option.some.inj H
                clear H
                have eQ : decide (((rd_T45 xs i).f4 == -1) = decide (0 < rd s i)) = true := by simpa using eP
                go_quiet (fail)
                try go_wp2
                go_ret
                exact ⟨rfl, pw_below_drewN HL.out.low _⟩
               | false =>
                rw [if_neg (by rw [eP]; decide)] at H
                obtain ⟨t, A1, H⟩ := Option.bind_eq_some_iff.mp H
                replace A1 := Aside0.mk A1
                cases t with
                | true =>
                 rw [if_pos rfl] at H
                 obtain rfl := Option.some.inj H
                 clear H
                 have eQ : decide (((rd_T45 xs i).f4 == -1) = decide (0 < rd s i)) = false := by simpa using eP
                 go_quiet ((go_at_call 87; (with_reducible refine (impl_Tree_isAbove.quiet k2 g _ c xs i (rd_T45 xs i).f4 true _ (cell_at rfl hcg) (Kd.C_at rfl hCn) A1.out).mono ?_); rintro e w' ⟨rfl, ⟨nd, rfl⟩⟩; (first | exact ⟨rfl, _, rfl⟩ | exact ⟨rfl, _, World.drewN_drewN _ _ _⟩ | exact ⟨rfl, _, Eq.trans (World.drewN_drewN _ _ _) (congrArg (World.drewN _) (Nat.add_assoc _ _ _))⟩)))
                 try go_wp2
                 go_ret
                 exact ⟨rfl, pw_below_drewN HL.out.low _⟩
                | false =>
                 rw [if_neg (by decide)] at H
                 have HA := Aside0.mk H
                 clear H
                 have eQ : decide (((rd_T45 xs i).f4 == -1) = decide (0 < rd s i)) = false := by simpa using eP
                 go_quiet ((go_at_call 87; (with_reducible refine (impl_Tree_isAbove.quiet k2 g _ c xs i (rd_T45 xs i).f4 false _ (cell_at rfl hcg) (Kd.C_at rfl hCn) A1.out).mono ?_); rintro e w' ⟨rfl, ⟨nd, rfl⟩⟩; (first | exact ⟨rfl, _, rfl⟩ | exact ⟨rfl, _, World.drewN_drewN _ _ _⟩ | exact ⟨rfl, _, Eq.trans (World.drewN_drewN _ _ _) (congrArg (World.drewN _) (Nat.add_assoc _ _ _))⟩)))
                 try go_wp2
                 go_roundg k2
                 case measure => have := HK2.out; omega
                 case rel => exact ⟨_, rfl, HA, ⟨by have := HK2.out; omega⟩, ⟨LinksW.drewN HL.out _⟩⟩
             · rw [if_neg c2] at H; cases H
           · rw [if_neg c1] at H
             obtain rfl := Option.some.inj H
             clear H
             have c1b : decide (i < (xs.length : Int)) = false := decide_eq_false c1
             clear c1
             go_wp2
             go_ret
             exact ⟨rfl, HL.out.low⟩
   · rw [if_neg hn1] at h; cases h
 · rw [if_neg hn0] at h; cases h
def impl_TreeOk.l0 : Nat → Int → List S45 → Option Bool
 | 0, _, _ => none
 | k + 1, i, xs => if i < (xs.length : Int) then (if 0 ≤ i then ((impl_nodeOk.f k ((rd_T45 xs i).f0) ((rd_T45 xs i).f1) ((rd_T45 xs i).f2) ((rd_T45 xs i).f3) ((rd_T45 xs i).f4) ((rd_T45 xs i).f5) i).bind fun t => if t = true then impl_TreeOk.l0 k (wrap64 (i + 1)) xs else some false) else none) else impl_Tree_linksOk.f k xs
def impl_TreeOk.f (k : Nat) (xs : List S45) : Option Bool := (impl_inRange.f (xs.length : Int) 1 500).bind fun t => if t = true then impl_TreeOk.l0 k 0 xs else some false
theorem impl_TreeOk.mono_l : ∀ k, (∀ y0 y1, LeO (impl_TreeOk.l0 k y0 y1) (impl_TreeOk.l0 (k + 1) y0 y1))
 | 0 => fun _ _ r h => by simp [impl_TreeOk.l0] at h
 | k + 1 => by
  have ih := impl_TreeOk.mono_l k
  intro y0 y1
  rw [impl_TreeOk.l0, impl_TreeOk.l0]
  exact LeO.ite (LeO.ite (LeO.bind (impl_nodeOk.mono _ _ _ _ _ _ _ _) (fun _ => LeO.ite (ih _ _) (LeO.refl _))) (LeO.refl _)) (impl_Tree_linksOk.mono _ _)
theorem impl_TreeOk.mono : ∀ a0 k, LeO (impl_TreeOk.f k a0) (impl_TreeOk.f (k + 1) a0) := fun a0 k => LeO.bind (LeO.refl _) (fun _ => LeO.ite (impl_TreeOk.mono_l k _ _) (LeO.refl _))
set_option maxHeartbeats 8000000 in
set_option maxRecDepth 100000 in
theorem impl_TreeOk.calls (k : Nat) (A0_0 : Option Addr) (c0_0 : Nat) (l0_0 : List S45) (r : Bool) (w : World) (hr0_0 : Kd.C k45 w A0_0 l0_0.length l0_0) (hc0_0 : l0_0.length ≤ c0_0) (h : impl_TreeOk.f k l0_0 = some r) :
 Calls Try.prog 13 #[.agg #[.slice A0_0 l0_0.length c0_0]] w fun e w' => e = .returned (.bool r) ∧ Below w.heap.size w w' := by
 have HC := Aside0.mk hr0_0
 clear hr0_0 hc0_0
 unfold impl_TreeOk.f at h
 obtain ⟨t, A1, h⟩ := Option.bind_eq_some_iff.mp h
 replace A1 := Aside0.mk A1
 cases t with
 | false =>
  rw [if_neg (by decide)] at h
  obtain rfl := Option.some.inj h
  clear h
  go_enter Try.func13, Try.ntmps13
  go_wp2_with (first | (go_at_call 40; (with_reducible refine (impl_inRange.calls _ _ _ false _ A1.out).mono ?_); rintro e w' ⟨rfl, ⟨nd, rfl⟩⟩))
  go_ret
  exact ⟨rfl, by repeat (first | exact Below.refl _ _ | apply below_alloc | apply pw_below_drewN)⟩
 | true =>
  rw [if_pos rfl] at h
  have HA := Aside0.mk h
  clear h
  go_enter Try.func13, Try.ntmps13
  go_wp2_with (first
   | ((with_reducible refine gate_dst (N := 1) rfl ?_); refine box_event ?hg (N := 1) ?hd (cs := #[.slice A0_0 l0_0.length c0_0]) (t := 29) ?hr ?_; (case hd => rfl); (case hg => rfl); (case hr => first | (go_simp; done) | (go_simp; rfl)); intro gt hg w1 hbox hb; have HX := Aside0.mk (show BoxW w w1 gt A0_0 l0_0.length c0_0 from ⟨hbox, hb, by rw [hg]; exact Nat.le_refl _⟩); have hcb := HX.out.cell; clear hbox hb hg)
   | (go_at_call 40; (with_reducible refine (impl_inRange.calls _ _ _ true _ A1.out).mono ?_); rintro e w' ⟨rfl, ⟨nd, rfl⟩⟩; have HX2 := Aside0.mk (HX.out.drewN nd); clear HX))
  go_loopg [13] k (fun kq v13 w' => ∃ (i : Int), v13 = .int .i64 i ∧ Aside0 (impl_TreeOk.l0 kq i l0_0 = some r) ∧ Aside0 (kq ≤ k) ∧ Aside0 (BoxW w w' gt A0_0 l0_0.length c0_0))
  case atStart => exact ⟨0, rfl, HA, ⟨Nat.le_refl _⟩, HX2⟩
  case round =>
   clear HA HX2 hcb
   obtain ⟨i, rfl, HA, HK, HX⟩ := hrel
   cases gk with
   | zero => exact absurd HA.out (by simp [impl_TreeOk.l0])
   | succ k1 =>
    have H := HA.out
    clear HA
    simp only [impl_TreeOk.l0] at H
    by_cases c1 : i < (l0_0.length : Int)
    · rw [if_pos c1] at H
      by_cases c2 : 0 ≤ i
      · rw [if_pos c2] at H
        obtain ⟨t, A2, H⟩ := Option.bind_eq_some_iff.mp H
        replace A2 := Aside0.mk A2
        have c1b : decide (i < (l0_0.length : Int)) = true := decide_eq_true c1
        obtain ⟨ad, A_2, c_2, A_5, c_5, e1, hx0, hx1, hx2, hx3, hx4, hx5, hl2, hi2, hl5, hi5⟩ := at_T45 HC.out i c2 c1
        subst e1
        replace hx0 := pw_cell_below HX.out.low hx0
        replace hx1 := pw_cell_below HX.out.low hx1
        replace hx2 := pw_cell_below HX.out.low hx2
        replace hx3 := pw_cell_below HX.out.low hx3
        replace hx4 := pw_cell_below HX.out.low hx4
        replace hx5 := pw_cell_below HX.out.low hx5
        have HI2 := Aside0.mk hi2
        have HI5 := Aside0.mk hi5
        have HL2 := Aside0.mk hl2
        have HL5 := Aside0.mk hl5
        clear hl2 hi2 hl5 hi5
        replace c2 := eq_true c2
        replace c1 := eq_true c1
        go_upto_region 6 with (first | ((with_reducible refine gate_dst (N := 4) rfl ?_); refine box_event ?hg (N := 4) ?hd (cs := #[.int .i64 0, .string (⟨#[]⟩ : ByteArray), .slice none 0 0, .string (⟨#[]⟩ : ByteArray), .int .i64 0, .slice none 0 0]) (t := 45) ?hr ?_; (case hd => rfl); (case hg => rfl); (case hr => first | (go_simp; done) | (go_simp; rfl)); intro gb hg w2 hbox hb; have HNE := Aside0.mk (show gb ≠ gt by have := blk_lt HX.out.blk; omega); have HX2 := Aside0.mk (HX.out.below hb); have HGB := Aside0.mk (show w.heap.size ≤ gb by rw [hg]; exact below_size HX.out.low); have HBX := Aside0.mk hbox; have hz0 := blk_cell hbox 0; have hz1 := blk_cell hbox 1; have hz2 := blk_cell hbox 2; have hz3 := blk_cell hbox 3; have hz4 := blk_cell hbox 4; have hz5 := blk_cell hbox 5; have hf := blk_frozen hbox; clear hbox hb hg HX))
        have HB6 := Aside0.mk (fillN_blk (rd_T45 l0_0 i) (.slice A_2 (rd_T45 l0_0 i).f2.length c_2) (.slice A_5 (rd_T45 l0_0 i).f5.length c_5) HBX.out)
        have HX := Aside0.mk (HX2.out.fill HGB.out HNE.out (rd_T45 l0_0 i) (.slice A_2 (rd_T45 l0_0 i).f2.length c_2) (.slice A_5 (rd_T45 l0_0 i).f5.length c_5))
        show Code.wp _ _ _ _ (fillN w2 gb (rd_T45 l0_0 i) (.slice A_2 (rd_T45 l0_0 i).f2.length c_2) (.slice A_5 (rd_T45 l0_0 i).f5.length c_5))
        generalize fillN w2 gb (rd_T45 l0_0 i) (.slice A_2 (rd_T45 l0_0 i).f2.length c_2) (.slice A_5 (rd_T45 l0_0 i).f5.length c_5) = w3 at HB6 HX ⊢
        clear hz0 hz1 hz2 hz3 hz4 hz5 hf HBX HX2 hx0 hx1 hx2 hx3 hx4 hx5 HNE HGB
        have hz0 := blk_cell HB6.out 0
        have hz1 := blk_cell HB6.out 1
        have hz2 := blk_cell HB6.out 2
        have hz3 := blk_cell HB6.out 3
        have hz4 := blk_cell HB6.out 4
        have hz5 := blk_cell HB6.out 5
        have HJ2 := Aside0.mk (Kd.C_below HI2.out HX.out.low)
        have HJ5 := Aside0.mk (Kd.C_below HI5.out HX.out.low)
        cases t with
        | true =>
         rw [if_pos rfl] at H
         have HA := Aside0.mk H
         clear H
         go_wp2_with (first | (go_at_call 41; (with_reducible refine (impl_nodeOk.calls k1 _ _ _ _ _ _ _ _ _ _ i true _ HJ2.out HL2.out HJ5.out HL5.out A2.out).mono ?_); rintro e w4 ⟨rfl, hb⟩; have HX3 := Aside0.mk (HX.out.below hb); clear hb HX))
         go_roundg k1
         case measure => have := HK.out; omega
         case rel => exact ⟨_, rfl, HA, ⟨by have := HK.out; omega⟩, HX3⟩
        | false =>
         rw [if_neg (by decide)] at H
         obtain rfl := Option.some.inj H
         clear H
         go_wp2_with (first | (go_at_call 41; (with_reducible refine (impl_nodeOk.calls k1 _ _ _ _ _ _ _ _ _ _ i false _ HJ2.out HL2.out HJ5.out HL5.out A2.out).mono ?_); rintro e w4 ⟨rfl, hb⟩; have HX3 := Aside0.mk (HX.out.below hb); clear hb HX))
         go_ret
         exact ⟨rfl, HX3.out.low⟩
      · rw [if_neg c2] at H; cases H
    · rw [if_neg c1] at H
      have HA := Aside0.mk H
      clear H
      have c1b : decide (i < (l0_0.length : Int)) = false := decide_eq_false c1
      clear c1
      have HIS := Aside0.mk (show IsS29 w wr gt l0_0 from ⟨A0_0, c0_0, HX.out.blk, HX.out.ge, HC.out⟩)
      have hcb := HX.out.cell
      have HLO := Aside0.mk HX.out.low
      go_wp2_with (first | (go_at_call 42; (with_reducible refine (impl_Tree_linksOk.calls k1 gt l0_0 r w _ HIS.out HLO.out HA.out).mono ?_); rintro e w4 ⟨rfl, _, hb, _⟩))
      go_ret
      exact ⟨rfl, hb⟩
mutual
def impl_Tree_below.l0 : Nat → List Int → List Int → List (S45) → Option (List Int)
 | 0, _, _, _ => none
 | k + 1, x5, x6, x1000 => if (x6.length : Int) > 0 then (if 0 ≤ (wrap64 ((x6.length : Int) - 1)) then (if (wrap64 ((x6.length : Int) - 1)) < (x6.length : Int) then (if (wrap64 ((x6.length : Int) - 1)) ≤ (x6.length : Int) then (if x5.length < 17592186044416 then (if 0 ≤ (rd x6 (wrap64 ((x6.length : Int) - 1))) then (if (rd x6 (wrap64 ((x6.length : Int) - 1))) < (x1000.length : Int) then (impl_Tree_below.l1 k (x5 ++ [rd x6 (wrap64 ((x6.length : Int) - 1))]) (x6.take ((wrap64 ((x6.length : Int) - 1)) : Int).toNat) ((rd_T45 x1000 (rd x6 (wrap64 ((x6.length : Int) - 1)))).f5) (wrap64 ((((rd_T45 x1000 (rd x6 (wrap64 ((x6.length : Int) - 1)))).f5).length : Int) - 1)) x1000) else (none)) else (none)) else (none)) else (none)) else (none)) else (none)) else (some x5)
def impl_Tree_below.l1 : Nat → List Int → List Int → List Int → Int → List (S45) → Option (List Int)
 | 0, _, _, _, _, _ => none
 | k + 1, x5, x6, x8, x9, x1000 => if x9 ≥ 0 then (if 0 ≤ x9 then (if x9 < (x8.length : Int) then (if x6.length < 17592186044416 then (impl_Tree_below.l1 k x5 (x6 ++ [rd x8 x9]) x8 (wrap64 (x9 - 1)) x1000) else (none)) else (none)) else (none)) else (impl_Tree_below.l0 k x5 x6 x1000)
end
def impl_Tree_below.f (k : Nat) (s0_0 : List (S45)) (a1 : Int) : Option (List Int) := impl_Tree_below.l0 k ([] : List Int) (([a1] : List Int)) s0_0
theorem impl_Tree_below.mono_l : ∀ k, (∀ y0 y1 y2, LeO (impl_Tree_below.l0 k y0 y1 y2) (impl_Tree_below.l0 (k + 1) y0 y1 y2)) ∧ (∀ y0 y1 y2 y3 y4, LeO (impl_Tree_below.l1 k y0 y1 y2 y3 y4) (impl_Tree_below.l1 (k + 1) y0 y1 y2 y3 y4))
 | 0 => ⟨fun _ _ _ r h => by simp [impl_Tree_below.l0] at h, fun _ _ _ _ _ r h => by simp [impl_Tree_below.l1] at h⟩
 | k + 1 => by
  obtain ⟨ih0, ih1⟩ := impl_Tree_below.mono_l k
  refine ⟨?_, ?_⟩
  · intro y0 y1 y2
    unfold impl_Tree_below.l0
    repeat' first
    | (with_reducible exact ih0 _ _ _)
    | (with_reducible exact ih1 _ _ _ _ _)
    | (with_reducible exact LeO.refl _)
    | (with_reducible exact LeO.none _)
    | (with_reducible refine LeO.ite ?_ ?_)
    | (with_reducible refine LeO.bind ?_ (fun _ => ?_))
    | exact ih0 _ _ _
    | exact ih1 _ _ _ _ _
    | exact LeO.none _
    | refine LeO.ite ?_ ?_
    | refine LeO.bind ?_ (fun _ => ?_)
  · intro y0 y1 y2 y3 y4
    unfold impl_Tree_below.l1
    repeat' first
    | (with_reducible exact ih0 _ _ _)
    | (with_reducible exact ih1 _ _ _ _ _)
    | (with_reducible exact LeO.refl _)
    | (with_reducible exact LeO.none _)
    | (with_reducible refine LeO.ite ?_ ?_)
    | (with_reducible refine LeO.bind ?_ (fun _ => ?_))
    | exact ih0 _ _ _
    | exact ih1 _ _ _ _ _
    | exact LeO.none _
    | refine LeO.ite ?_ ?_
    | refine LeO.bind ?_ (fun _ => ?_)
theorem impl_Tree_below.mono : ∀ a0 a1 k, LeO (impl_Tree_below.f k a0 a1) (impl_Tree_below.f (k + 1) a0 a1) := by
 intro a0 a1 k
 obtain ⟨ih0, ih1⟩ := impl_Tree_below.mono_l k
 unfold impl_Tree_below.f
 repeat' first
  | (with_reducible exact ih0 _ _ _)
  | (with_reducible exact ih1 _ _ _ _ _)
  | (with_reducible exact LeO.refl _)
  | (with_reducible exact LeO.none _)
  | (with_reducible refine LeO.ite ?_ ?_)
  | (with_reducible refine LeO.bind ?_ (fun _ => ?_))
  | exact ih0 _ _ _
  | exact ih1 _ _ _ _ _
  | exact LeO.none _
  | refine LeO.ite ?_ ?_
  | refine LeO.bind ?_ (fun _ => ?_)
set_option maxHeartbeats 8000000 in
set_option maxRecDepth 100000 in
theorem impl_Tree_below.calls (k : Nat) (g : Nat) (s0_0 : List (S45)) (a1 : Int) (r : List Int) (w0 w : World) (hI : IsS29 w0 w g s0_0) (hB : Below w0.heap.size w0 w) (h : impl_Tree_below.f k s0_0 a1 = some r) :
 Calls Try.prog 65 #[.pointer (some ⟨g, 0, none⟩), .int .i64 a1] w fun e w' => ∃ v0_ : Value, e = .returned (v0_) ∧ Kd.R (Kd.int .i64) 3 w' w.heap.size (fun _ => True) v0_ r ∧ IsS29 w0 w' g s0_0 ∧ Below w0.heap.size w0 w' ∧ KeepBut w w' g none := by
 have HI0 := Aside0.mk hI
 have HK := Aside0.mk (KeepBut.refl w g none)
 have HL := Aside0.mk hB.size
 clear hI
 have HW0 := Aside0.mk hB.size
 have HB := Aside0.mk hB
 clear hB
 have H : (impl_Tree_below.l0 k ([] : List Int) (([a1] : List Int)) s0_0) = some r := h
 clear h
 obtain ⟨y101, hy101⟩ : ∃ y_ : List Int, y_ = (([a1] : List Int)) := ⟨_, rfl⟩
 replace H : (impl_Tree_below.l0 k ([] : List Int) y101 s0_0) = some r := by first | (rw [hy101]; with_reducible exact H) | (have H2_ := (Option.bind_some _ _).symm.trans H; rw [hy101]; with_reducible exact H2_) | (have H2_ := (Option.bind_some _ _).symm.trans H; with_reducible exact H2_) | with_reducible exact H | (rw [hy101]; exact H) | exact H
 have Ny101 := Aside0.mk hy101
 clear hy101
 have H' := Aside0.mk H
 clear H
 go_enter Try.func65, Try.ntmps65
 go_wp2_with (first | ((with_reducible refine gate_dst (N := 11) rfl ?_); refine Kd.R_lit (Kd.int .i64) _ 3 ?hg (N := 11) ?hd (xs := ([a1] : List Int)) (inner := [.int .i64 a1]) (ok := fun _ => True) (okp := fun _ => True) ?hr ?hp (fun _ hk => hk) trivial (Below.refl _ _) (Nat.le_refl _) (by simp) ?_; (case hd => rfl); (case hg => rfl); (case hr => first | (go_simp; done) | (go_simp; rfl)); (case hp => exact (Reps.one (show Kd.M (Kd.int .i64) _ _ _ a1 [.int .i64 a1] from rfl) (Reps.none _ _))); intro v102 w3 ho4 hb hg_ hnew_; clear hg_ hnew_; (first | rw [← Ny101.out] at ho4 | (simp only [Int.reduceToNat] at ho4; rw [← Ny101.out] at ho4)); have n0_ := Aside0.mk (Kd.R_lower ho4 (keep_size (w := w) (g := g) (row := none) (by repeat (first | exact HK.out | apply KeepBut.set_ | apply keep_drewN | apply keep_drew | apply keep_alloc)))); have n1_ := Aside0.mk (IsS29.below (by repeat (first | exact HI0.out | apply IsS29.alloc | apply IsS29.drewN | apply IsS29.drew)) hb); have n2_ := Aside0.mk (KeepBut.trans (by repeat (first | exact HK.out | apply KeepBut.set_ | apply keep_drewN | apply keep_drew | apply keep_alloc)) (KeepBut.of_below hb g none) (.inl rfl)); have n3_ := Aside0.mk (below_step (by repeat (first | exact HB.out | apply below_alloc | apply pw_below_drewN | apply below_drew1 | refine below_set ?_ (IsS29.ge HI0.out))) hb); clear HI0; clear HK; clear HB; have HO103 := n0_; have HI0 := n1_; have HK := n2_; have HB := n3_; clear n0_ n1_ n2_ n3_; clear hb ho4))
 go_loopg [5, 6] k (fun kq v5 v6 w' => ∃ (x5_1 : List Int) (x6_1 : List Int), Aside0 (impl_Tree_below.l0 kq x5_1 x6_1 s0_0 = some r) ∧ Aside0 (kq ≤ k) ∧ Aside0 (Kd.R (Kd.int .i64) 3 w' w.heap.size (fun k_ => some k_ ≠ (v6 : Value).ownBlock) v5 x5_1) ∧ Aside0 (Kd.R (Kd.int .i64) 3 w' w.heap.size (fun k_ => some k_ ≠ (v5 : Value).ownBlock) v6 x6_1) ∧ Aside0 (IsS29 w0 w' g s0_0) ∧ Aside0 (KeepBut w w' g none) ∧ Aside0 (Below w0.heap.size w0 w'))
 case atStart => exact ⟨(([] : List Int)), (y101), H', ⟨Nat.le_refl _⟩, ⟨by first | exact Kd.R_nil _ _ _ _ _ | exact Kd.N_nil _ _ _ _ _ | exact Kd.V_nil _ _ _ _ _ | exact Kd.Q_nil _ _ _ _ _ | exact Kd.S_nil _ _ _ _ _⟩, ⟨by (with_reducible repeat (first | apply Kd.R_alloc | apply Kd.R_drewN | apply Kd.R_drew)); exact Kd.R_mono HO103.out (fun _ hk => (by simp [Value.ownBlock]))⟩, ⟨by repeat (first | exact HI0.out | apply IsS29.alloc | apply IsS29.drewN | apply IsS29.drew)⟩, ⟨by repeat (first | exact HK.out | apply KeepBut.set_ | apply keep_drewN | apply keep_drew | apply keep_alloc)⟩, ⟨by repeat (first | exact HB.out | apply below_alloc | apply pw_below_drewN | apply below_drew1 | refine below_set ?_ (IsS29.ge HI0.out))⟩⟩
 case round =>
  clear H'
  try clear p2
  obtain ⟨x5_1, x6_1, HA, HK1, HO_5, HO_6, HI0, HK, HB⟩ := hrel
  cases gk with
  | zero => exact absurd HA.out (by simp [impl_Tree_below.l0])
  | succ k1 =>
   have H := HA.out
   clear HA
   simp only [impl_Tree_below.l0] at H
   by_cases c5 : (x6_1.length : Int) > 0
   · rw [if_pos c5] at H
     have c5b0 : decide (0 < (x6_1.length : Int)) = true := decide_eq_true c5
     have c5b1 : decide (0 < x6_1.length) = true := decide_eq_true (by omega)
     clear c5
     obtain ⟨ji6, hji6⟩ : ∃ j_ : Int, (wrap64 ((x6_1.length : Int) - 1)) = j_ := ⟨_, rfl⟩
     replace H : (if 0 ≤ (ji6) then (if (ji6) < (x6_1.length : Int) then (if (ji6) ≤ (x6_1.length : Int) then (if x5_1.length < 17592186044416 then (if 0 ≤ (rd x6_1 (ji6)) then (if (rd x6_1 (ji6)) < (s0_0.length : Int) then (impl_Tree_below.l1 k1 (x5_1 ++ [rd x6_1 (ji6)]) (x6_1.take ((ji6) : Int).toNat) ((rd_T45 s0_0 (rd x6_1 (ji6))).f5) (wrap64 ((((rd_T45 s0_0 (rd x6_1 (ji6))).f5).length : Int) - 1)) s0_0) else (none)) else (none)) else (none)) else (none)) else (none)) else (none)) = some r := by first | (rw [hji6] at H; exact H) | (simp only [hji6] at H ⊢; exact H)
     have hji6w : (IntKind.i64.wrap ((x6_1.length : Int) - 1)) = ji6 := (i64_w _).trans hji6
     by_cases c7 : 0 ≤ (ji6)
     · rw [if_pos c7] at H
       have c7b0 : decide (0 ≤ (ji6)) = true := decide_eq_true c7
       clear c7
       by_cases c8 : (ji6) < (x6_1.length : Int)
       · rw [if_pos c8] at H
         have c8b0 : decide ((ji6) < (x6_1.length : Int)) = true := decide_eq_true c8
         clear c8
         by_cases c9 : (ji6) ≤ (x6_1.length : Int)
         · rw [if_pos c9] at H
           have c9b0 := eq_true c9
           have c9b1 : decide ((ji6) ≤ (x6_1.length : Int)) = true := decide_eq_true c9
           clear c9
           obtain ⟨y105, hy105⟩ : ∃ y_ : List Int, y_ = (x6_1.take ((ji6) : Int).toNat) := ⟨_, rfl⟩
           replace H : (if x5_1.length < 17592186044416 then (if 0 ≤ (rd x6_1 (ji6)) then (if (rd x6_1 (ji6)) < (s0_0.length : Int) then (impl_Tree_below.l1 k1 (x5_1 ++ [rd x6_1 (ji6)]) y105 ((rd_T45 s0_0 (rd x6_1 (ji6))).f5) (wrap64 ((((rd_T45 s0_0 (rd x6_1 (ji6))).f5).length : Int) - 1)) s0_0) else (none)) else (none)) else (none)) = some r := by first | (rw [hy105]; with_reducible exact H) | (have H2_ := (Option.bind_some _ _).symm.trans H; rw [hy105]; with_reducible exact H2_) | (have H2_ := (Option.bind_some _ _).symm.trans H; with_reducible exact H2_) | with_reducible exact H | (rw [hy105]; exact H) | exact H
           have Ny105 := Aside0.mk hy105
           clear hy105
           by_cases c10 : x5_1.length < 17592186044416
           · rw [if_pos c10] at H
             have LMc10 := Aside0.mk c10
             clear c10
             obtain ⟨y108, hy108⟩ : ∃ y_ : List Int, y_ = (x5_1 ++ [rd x6_1 (ji6)]) := ⟨_, rfl⟩
             replace H : (if 0 ≤ (rd x6_1 (ji6)) then (if (rd x6_1 (ji6)) < (s0_0.length : Int) then (impl_Tree_below.l1 k1 y108 y105 ((rd_T45 s0_0 (rd x6_1 (ji6))).f5) (wrap64 ((((rd_T45 s0_0 (rd x6_1 (ji6))).f5).length : Int) - 1)) s0_0) else (none)) else (none)) = some r := by first | (rw [hy108]; with_reducible exact H) | (have H2_ := (Option.bind_some _ _).symm.trans H; rw [hy108]; with_reducible exact H2_) | (have H2_ := (Option.bind_some _ _).symm.trans H; with_reducible exact H2_) | with_reducible exact H | (rw [hy108]; exact H) | exact H
             have Ny108 := Aside0.mk hy108
             clear hy108
             by_cases c11 : 0 ≤ (rd x6_1 (ji6))
             · rw [if_pos c11] at H
               have c11b0 : decide (0 ≤ (rd x6_1 (ji6))) = true := decide_eq_true c11
               clear c11
               by_cases c12 : (rd x6_1 (ji6)) < (s0_0.length : Int)
               · rw [if_pos c12] at H
                 have c12b0 : decide ((rd x6_1 (ji6)) < (s0_0.length : Int)) = true := decide_eq_true c12
                 clear c12
                 have H' := Aside0.mk H
                 clear H
                 obtain ⟨Ao13, co13, eo13⟩ := Kd.R_slice HO_6.out
                 subst eo13
                 have p104 : 0 ≤ ((ji6) : Int) := of_decide_eq_true (by assumption)
                 have q104 : (ji6) < (x6_1.length : Int) := of_decide_eq_true (by assumption)
                 obtain ⟨ad104, e104, hx104_0⟩ := Kd.at_int (Kd.R_reads' HO_6.out).2.2 (ji6) p104 q104
                 cases e104
                 replace p104 := eq_true p104
                 replace q104 := eq_true q104
                 have q14 : ((ji6) : Int) ≤ ((x6_1.length : Int) : Int) := of_decide_eq_true (by assumption)
                 obtain ⟨i014, hi014, _, hsz14, _⟩ := info_parts info3
                 have hcut14 := cut_to (P := Try.prog) 37 3 .i64 Try.underlying37 hi014 (some ad104) x6_1.length co13 (ji6) (of_decide_eq_true (by assumption)) q14 (Kd.R_reads' HO_6.out).2.1
                 have hr14 := Kd.R_take (m := ((ji6) : Int).toNat) HO_6.out (by omega)
                 have hy14 : y105.length = ((ji6) : Int).toNat := (by rw [Ny105.out, List.length_take]; omega)
                 rw [← Ny105.out] at hr14
                 rw [← hy14] at hr14 hcut14
                 clear hy14 hi014 hsz14 HO_6
                 have HO107 := Aside0.mk hr14
                 clear hr14
                 replace q14 := eq_true q14
                 go_wp2_with (first | ((with_reducible refine gate_builtin (b := .append) (xs := #[.tmp 26, .tmp 28]) rfl ?_); at_builtin; refine Kd.R_append (Kd.int .i64) w.heap.size rfl (.tmp 26) (.tmp 28) 37 3 (.int .i64 0) 8 rfl Try.underlying37 info3 rfl (by decide) (by omega) u5 x5_1 (rd x6_1 (ji6)) [.int .i64 (rd x6_1 (ji6))] (fun k_ => some k_ ≠ (.slice (some ad104) y105.length co13 : Value).ownBlock) (fun _ => False) rfl rfl ?aP (fun _ hk => hk.elim) ?aF ?aO (Below.refl _ _) ?aS ?aL ?_; (case aP => exact rfl); (case aF => exact (fun k_ hk => Kd.fresh' (Kd.R_lt (by (with_reducible repeat (first | apply Kd.R_alloc | apply Kd.R_drewN | apply Kd.R_drew)); exact HO107.out)) k_ hk)); (case aO => exact (by (with_reducible repeat (first | apply Kd.R_alloc | apply Kd.R_drewN | apply Kd.R_drew)); exact HO_5.out)); (case aS => exact (keep_size (w := w) (g := g) (row := none) (by repeat (first | exact HK.out | apply KeepBut.set_ | apply keep_drewN | apply keep_drew | apply keep_alloc)))); (case aL => have := LMc10.out; omega); intro v109 w15 ho hb hg hat; rw [← Ny108.out] at ho; have n0_ := Aside0.mk (Kd.R_after (ok := (fun _ => True)) (by (with_reducible repeat (first | apply Kd.R_alloc | apply Kd.R_drewN | apply Kd.R_drew)); exact Kd.R_mono HO107.out (fun _ hk => ⟨trivial, hk⟩)) hg hat); have n1_ := Aside0.mk (IsS29.grown (by repeat (first | exact HI0.out | apply IsS29.alloc | apply IsS29.drewN | apply IsS29.drew)) hg (IsS29.own_ne HI0.out HO_5.out (by decide))); have n2_ := Aside0.mk (below_weaken (by repeat (first | exact HB.out | apply below_alloc | apply pw_below_drewN | apply below_drew1 | refine below_set ?_ (IsS29.ge HI0.out))) HL.out hb); have n3_ := Aside0.mk (KeepBut.trans (by repeat (first | exact HK.out | apply KeepBut.set_ | apply keep_drewN | apply keep_drew | apply keep_alloc)) (KeepBut.of_grown hg g) (Kd.R_base2 HO_5.out)); have n4_ := Aside0.mk (ho); clear HO107; clear HI0; clear HB; clear HK; clear HO_5; have HO107 := n0_; have HI0 := n1_; have HB := n2_; have HK := n3_; have HO110 := n4_; clear n0_ n1_ n2_ n3_ n4_; clear ho hb hg hat; obtain ⟨ASz16_0, cSz16_0, HGz16, hgz16, HSz16_0⟩ := HI0.out; have hcz16_0 := cellS29_0 HGz16; clear HGz16 hgz16; have p111 : 0 ≤ ((rd x6_1 (ji6)) : Int) := of_decide_eq_true (by assumption); have q111 : (rd x6_1 (ji6)) < (s0_0.length : Int) := of_decide_eq_true (by assumption); obtain ⟨ad111, A111_2, c111_2, A111_5, c111_5, e111, hx111_0, hx111_1, hx111_2, hx111_3, hx111_4, hx111_5, hl111_2, hi111_2, hl111_5, hi111_5⟩ := at_T45 HSz16_0 (rd x6_1 (ji6)) p111 q111; cases e111; replace hx111_0 := pw_cell_below HB.out hx111_0; replace hx111_1 := pw_cell_below HB.out hx111_1; replace hx111_2 := pw_cell_below HB.out hx111_2; replace hx111_3 := pw_cell_below HB.out hx111_3; replace hx111_4 := pw_cell_below HB.out hx111_4; replace hx111_5 := pw_cell_below HB.out hx111_5; have HR111_2 := Aside0.mk hi111_2; have HC111_2 := Aside0.mk hl111_2; clear hi111_2 hl111_2; have HR111_5 := Aside0.mk hi111_5; have HC111_5 := Aside0.mk hl111_5; clear hi111_5 hl111_5; replace p111 := eq_true p111; replace q111 := eq_true q111))
                 go_loopg [6, 9] k1 (fun kq v6 v9 w' => ∃ (x6_2 : List Int) (x9_2 : Int), v9 = .int .i64 x9_2 ∧ Aside0 (impl_Tree_below.l1 kq y108 x6_2 ((rd_T45 s0_0 (rd x6_1 (ji6))).f5) x9_2 s0_0 = some r) ∧ Aside0 (kq ≤ k1) ∧ Aside0 (Kd.R (Kd.int .i64) 3 w' w.heap.size (fun k_ => some k_ ≠ (v6 : Value).ownBlock) v109 y108) ∧ Aside0 (Kd.R (Kd.int .i64) 3 w' w.heap.size (fun k_ => some k_ ≠ (v109 : Value).ownBlock) v6 x6_2) ∧ Aside0 (IsS29 w0 w' g s0_0) ∧ Aside0 (KeepBut w w' g none) ∧ Aside0 (Below w0.heap.size w0 w'))
                 case atStart => exact ⟨(y105), (wrap64 ((((rd_T45 s0_0 (rd x6_1 (ji6))).f5).length : Int) - 1)), (by first | rfl | (simp; done) | (simp only [← hji6] <;> (first | rfl | simp)) | (simp [*]; done)), H', ⟨Nat.le_refl _⟩, ⟨by (with_reducible repeat (first | apply Kd.R_alloc | apply Kd.R_drewN | apply Kd.R_drew)); exact HO110.out⟩, ⟨by (with_reducible repeat (first | apply Kd.R_alloc | apply Kd.R_drewN | apply Kd.R_drew)); exact Kd.R_mono HO107.out (fun _ hk => hk.2)⟩, ⟨by repeat (first | exact HI0.out | apply IsS29.alloc | apply IsS29.drewN | apply IsS29.drew)⟩, ⟨by repeat (first | exact HK.out | apply KeepBut.set_ | apply keep_drewN | apply keep_drew | apply keep_alloc)⟩, ⟨by repeat (first | exact HB.out | apply below_alloc | apply pw_below_drewN | apply below_drew1 | refine below_set ?_ (IsS29.ge HI0.out))⟩⟩
                 case round =>
                  clear H'
                  try clear c1
                  try clear p1
                  try clear q1
                  try clear hx1
                  try clear p2
                  try clear c5
                  try clear c5b0
                  try clear c5b1
                  try clear c6
                  try clear p6
                  try clear c7
                  try clear c7b0
                  try clear c8
                  try clear c8b0
                  try clear c9
                  try clear c9b0
                  try clear c9b1
                  try clear c10
                  try clear p10
                  try clear q10
                  try clear hx10
                  try clear c11
                  try clear c11b0
                  try clear p11
                  try clear q11
                  try clear hx11
                  try clear c12
                  try clear c12b0
                  try clear q14
                  try clear hcz16_0
                  try clear hx104_0
                  try clear hx111_0
                  try clear hx111_1
                  try clear hx111_2
                  try clear hx111_3
                  try clear hx111_4
                  try clear hx111_5
                  try clear p104
                  try clear p111
                  try clear p2
                  try clear q104
                  try clear q111
                  try clear q14
                  obtain ⟨x6_2, x9_2, rfl, HA, HK2, HO_5, HO_6, HI0, HK, HB⟩ := hrel
                  cases gk with
                  | zero => exact absurd HA.out (by simp [impl_Tree_below.l1])
                  | succ k2 =>
                   have H := HA.out
                   clear HA
                   simp only [impl_Tree_below.l1] at H
                   by_cases c17 : x9_2 ≥ 0
                   · rw [if_pos c17] at H
                     have c17b0 : decide (0 ≤ x9_2) = true := decide_eq_true c17
                     clear c17
                     by_cases c18 : 0 ≤ x9_2
                     · rw [if_pos c18] at H
                       have c18b0 : decide (0 ≤ x9_2) = true := decide_eq_true c18
                       clear c18
                       by_cases c19 : x9_2 < (((rd_T45 s0_0 (rd x6_1 (ji6))).f5).length : Int)
                       · rw [if_pos c19] at H
                         have c19b0 : decide (x9_2 < (((rd_T45 s0_0 (rd x6_1 (ji6))).f5).length : Int)) = true := decide_eq_true c19
                         clear c19
                         by_cases c20 : x6_2.length < 17592186044416
                         · rw [if_pos c20] at H
                           have LMc20 := Aside0.mk c20
                           clear c20
                           obtain ⟨y113, hy113⟩ : ∃ y_ : List Int, y_ = (x6_2 ++ [rd ((rd_T45 s0_0 (rd x6_1 (ji6))).f5) x9_2]) := ⟨_, rfl⟩
                           replace H : (impl_Tree_below.l1 k2 y108 y113 ((rd_T45 s0_0 (rd x6_1 (ji6))).f5) (wrap64 (x9_2 - 1)) s0_0) = some r := by first | (rw [hy113]; with_reducible exact H) | (have H2_ := (Option.bind_some _ _).symm.trans H; rw [hy113]; with_reducible exact H2_) | (have H2_ := (Option.bind_some _ _).symm.trans H; with_reducible exact H2_) | with_reducible exact H | (rw [hy113]; exact H) | exact H
                           have Ny113 := Aside0.mk hy113
                           clear hy113
                           have H' := Aside0.mk H
                           clear H
                           have p112 : 0 ≤ (x9_2 : Int) := of_decide_eq_true (by assumption)
                           have q112 : x9_2 < (((rd_T45 s0_0 (rd x6_1 (ji6))).f5).length : Int) := of_decide_eq_true (by assumption)
                           obtain ⟨ad112, e112, hx112_0⟩ := Kd.at_int HR111_5.out x9_2 p112 q112
                           cases e112
                           replace hx112_0 := pw_cell_below HB.out hx112_0
                           replace p112 := eq_true p112
                           replace q112 := eq_true q112
                           go_wp2_with (first | ((with_reducible refine gate_builtin (b := .append) (xs := #[.tmp 45, .tmp 50]) rfl ?_); at_builtin; refine Kd.R_append (Kd.int .i64) w.heap.size rfl (.tmp 45) (.tmp 50) 37 3 (.int .i64 0) 8 rfl Try.underlying37 info3 rfl (by decide) (by omega) u6 x6_2 (rd ((rd_T45 s0_0 (rd x6_1 (ji6))).f5) x9_2) [.int .i64 (rd ((rd_T45 s0_0 (rd x6_1 (ji6))).f5) x9_2)] (fun k_ => some k_ ≠ (v109 : Value).ownBlock) (fun _ => False) rfl rfl ?aP (fun _ hk => hk.elim) ?aF ?aO (Below.refl _ _) ?aS ?aL ?_; (case aP => exact rfl); (case aF => exact (fun k_ hk => Kd.fresh' (Kd.R_lt (by (with_reducible repeat (first | apply Kd.R_alloc | apply Kd.R_drewN | apply Kd.R_drew)); exact HO_5.out)) k_ hk)); (case aO => exact (by (with_reducible repeat (first | apply Kd.R_alloc | apply Kd.R_drewN | apply Kd.R_drew)); exact HO_6.out)); (case aS => exact (keep_size (w := w) (g := g) (row := none) (by repeat (first | exact HK.out | apply KeepBut.set_ | apply keep_drewN | apply keep_drew | apply keep_alloc)))); (case aL => have := LMc20.out; omega); intro v114 w21 ho hb hg hat; rw [← Ny113.out] at ho; have n0_ := Aside0.mk (Kd.R_after (ok := (fun _ => True)) (by (with_reducible repeat (first | apply Kd.R_alloc | apply Kd.R_drewN | apply Kd.R_drew)); exact Kd.R_mono HO_5.out (fun _ hk => ⟨trivial, hk⟩)) hg hat); have n1_ := Aside0.mk (IsS29.grown (by repeat (first | exact HI0.out | apply IsS29.alloc | apply IsS29.drewN | apply IsS29.drew)) hg (IsS29.own_ne HI0.out HO_6.out (by decide))); have n2_ := Aside0.mk (below_weaken (by repeat (first | exact HB.out | apply below_alloc | apply pw_below_drewN | apply below_drew1 | refine below_set ?_ (IsS29.ge HI0.out))) HL.out hb); have n3_ := Aside0.mk (KeepBut.trans (by repeat (first | exact HK.out | apply KeepBut.set_ | apply keep_drewN | apply keep_drew | apply keep_alloc)) (KeepBut.of_grown hg g) (Kd.R_base2 HO_6.out)); have n4_ := Aside0.mk (ho); clear HO_5; clear HI0; clear HB; clear HK; clear HO_6; have HO_5 := n0_; have HI0 := n1_; have HB := n2_; have HK := n3_; have HO115 := n4_; clear n0_ n1_ n2_ n3_ n4_; clear ho hb hg hat))
                           go_roundg k2
                           case measure => have := HK1.out; have := HK2.out; omega
                           case rel => exact ⟨(y113), (wrap64 (x9_2 - 1)), (by first | rfl | (simp; done) | (simp [*]; done)), H', ⟨by have := HK1.out; have := HK2.out; omega⟩, ⟨by (with_reducible repeat (first | apply Kd.R_alloc | apply Kd.R_drewN | apply Kd.R_drew)); exact Kd.R_mono HO_5.out (fun _ hk => hk.2)⟩, ⟨by (with_reducible repeat (first | apply Kd.R_alloc | apply Kd.R_drewN | apply Kd.R_drew)); exact HO115.out⟩, ⟨by repeat (first | exact HI0.out | apply IsS29.alloc | apply IsS29.drewN | apply IsS29.drew)⟩, ⟨by repeat (first | exact HK.out | apply KeepBut.set_ | apply keep_drewN | apply keep_drew | apply keep_alloc)⟩, ⟨by repeat (first | exact HB.out | apply below_alloc | apply pw_below_drewN | apply below_drew1 | refine below_set ?_ (IsS29.ge HI0.out))⟩⟩
                         · rw [if_neg c20] at H
                           exact absurd H (by simp)
                       · rw [if_neg c19] at H
                         exact absurd H (by simp)
                     · rw [if_neg c18] at H
                       exact absurd H (by simp)
                   · rw [if_neg c17] at H
                     have c17b0 : decide (0 ≤ x9_2) = false := decide_eq_false c17
                     clear c17
                     have H' := Aside0.mk H
                     clear H
                     go_wp2
                     go_roundg k2
                     case measure => have := HK1.out; have := HK2.out; omega
                     case rel => exact ⟨(y108), (x6_2), H', ⟨by have := HK1.out; have := HK2.out; omega⟩, ⟨by (with_reducible repeat (first | apply Kd.R_alloc | apply Kd.R_drewN | apply Kd.R_drew)); exact HO_5.out⟩, ⟨by (with_reducible repeat (first | apply Kd.R_alloc | apply Kd.R_drewN | apply Kd.R_drew)); exact HO_6.out⟩, ⟨by repeat (first | exact HI0.out | apply IsS29.alloc | apply IsS29.drewN | apply IsS29.drew)⟩, ⟨by repeat (first | exact HK.out | apply KeepBut.set_ | apply keep_drewN | apply keep_drew | apply keep_alloc)⟩, ⟨by repeat (first | exact HB.out | apply below_alloc | apply pw_below_drewN | apply below_drew1 | refine below_set ?_ (IsS29.ge HI0.out))⟩⟩
               · rw [if_neg c12] at H
                 exact absurd H (by simp)
             · rw [if_neg c11] at H
               exact absurd H (by simp)
           · rw [if_neg c10] at H
             exact absurd H (by simp)
         · rw [if_neg c9] at H
           exact absurd H (by simp)
       · rw [if_neg c8] at H
         exact absurd H (by simp)
     · rw [if_neg c7] at H
       exact absurd H (by simp)
   · rw [if_neg c5] at H
     have c5b0 : decide (0 < (x6_1.length : Int)) = false := decide_eq_false c5
     have c5b1 : decide (0 < x6_1.length) = false := decide_eq_false (by omega)
     clear c5
     obtain rfl := Option.some.inj H
     obtain ⟨Ao22, co22, eo22⟩ := Kd.R_slice HO_6.out
     subst eo22
     go_wp2
     go_ret
     exact ⟨_, by first | rfl | (simp [*] <;> rfl), by (with_reducible repeat (first | apply Kd.R_alloc | apply Kd.R_drewN | apply Kd.R_drew)); exact Kd.R_mono HO_5.out (fun _ hk => trivial), by repeat (first | exact HI0.out | apply IsS29.alloc | apply IsS29.drewN | apply IsS29.drew), by repeat (first | exact HB.out | apply below_alloc | apply pw_below_drewN | apply below_drew1 | refine below_set ?_ (IsS29.ge HI0.out)), by repeat (first | exact HK.out | apply KeepBut.set_ | apply keep_drewN | apply keep_drew | apply keep_alloc)⟩
def impl_Attr_97.f (l0 : List S98) : Option (List S98) := if l0.length < 4398046511104 then some l0 else none
set_option maxHeartbeats 8000000 in
set_option maxRecDepth 100000 in
theorem impl_Attr_97.calls (A0 : Option Addr) (c0 : Nat) (l0 : List S98) (r : List S98) (w : World) (hr0 : Kd.C k98 w A0 l0.length l0) (hc0 : l0.length ≤ c0) (h : impl_Attr_97.f l0 = some r) :
 Calls Try.prog 97 #[.slice A0 l0.length c0] w fun e w' => ∃ v0_ : Value, e = .returned (v0_) ∧ Kd.R k98 98 w' w.heap.size (fun _ => True) v0_ r ∧ Below w.heap.size w w' := by
 have HR0 := Aside0.mk hr0
 have HC0 := Aside0.mk hc0
 clear hr0 hc0
 unfold impl_Attr_97.f at h
 have hl : l0.length < 4398046511104 := by
  by_cases g : l0.length < 4398046511104
  · exact g
  · rw [if_neg g] at h; cases h
 rw [if_pos hl] at h
 have e_ := Option.some.inj h
 clear h
 subst e_
 have LM := Aside0.mk hl
 clear hl
 have HB := Aside0.mk (Below.refl w.heap.size w)
 have q22 : ∀ (W : World) (a : Option Addr) (n c n' c' : Nat), (binOp .eql 43 (.slice a n c) (.slice none n' c')).run Try.prog W = .ok (.bool a.isNone) W := fun W a n c n' c' => Lib.run_eql_slice_nil W _ _ a n c n' c' Try.underlying43
 cases A0 with
 | none =>
  have h0 : l0 = [] := by
   cases l0 with
   | nil => rfl
   | cons x xs =>
    obtain ⟨ad, h1, _⟩ := HR0.out.2.2 (by simp)
    cases h1
  subst h0
  go_enter Try.func97, Try.ntmps97
  go_wp2
  go_ret
  exact ⟨_, rfl, Kd.R_nil _ _ _ _ _, Below.refl _ _⟩
 | some ad =>
  go_enter Try.func97, Try.ntmps97
  go_wp2_with (first | ((with_reducible refine gate_dst (N := 5) rfl ?_); refine Kd.R_lit k98 w.heap.size 98 ?hg (N := 5) ?hd (xs := ([] : List S98)) (inner := []) (ok := fun _ => True) (okp := fun _ => True) ?hr ?hp (fun _ hk => hk) trivial HB.out (Nat.le_refl _) (by simp) ?_; (case hd => rfl); (case hg => rfl); (case hr => first | (go_simp; done) | (go_simp; rfl)); (case hp => exact (Reps.none _ _)); intro v1 w1 ho1 hb1 hg1 hn1; have HO1 := Aside0.mk ho1; have n_ := Aside0.mk hb1; clear HB; have HB := n_; clear n_ ho1 hb1 hg1 hn1) | (at_builtin; refine Kd.R_append_rows k98 (w0 := w) w.heap.size rfl (.tmp 5) (.tmp 6) 43 98 (.agg #[(.string ⟨#[]⟩), (.string ⟨#[]⟩)]) 32 rfl Try.underlying43 info98 rfl (by decide) (by omega) v1 ([] : List S98) l0 _ _ _ (fun _ => True) (fun _ => False) rfl rfl ?aO ?aR (fun _ _ h => h) (fun _ h => h.elim) ?aF ?aB ?aS ?aL ?_; (case aR => repeat (first | exact (Kd.C_below HR0.out HB.out) | (with_reducible refine Kd.C_alloc ?_ _) | (with_reducible refine Kd.C_drewN ?_ _) | (with_reducible refine Kd.C_drew ?_))); (case aB => exact HB.out); (case aF => exact (fun _ _ => trivial)); (case aO => exact HO1.out); (case aS => exact (below_size HB.out)); (case aL => have := LM.out; simp only [List.length_nil]; omega); intro v2 w2 ho2 hb2 hg2 hat2; have HO2 := Aside0.mk ho2; have n_ := Aside0.mk hb2; clear HB; have HB := n_; clear n_ ho2 hb2 hg2 hat2))
  go_ret
  exact ⟨_, rfl, by simpa using HO2.out, HB.out⟩
def slices_Clone_int_int.f (l0 : List Int) : Option (List Int) := if l0.length < 17592186044416 then some l0 else none
set_option maxHeartbeats 8000000 in
set_option maxRecDepth 100000 in
theorem slices_Clone_int_int.calls (A0 : Option Addr) (c0 : Nat) (l0 : List Int) (r : List Int) (w : World) (hr0 : Kd.C (Kd.int .i64) w A0 l0.length l0) (hc0 : l0.length ≤ c0) (h : slices_Clone_int_int.f l0 = some r) :
 Calls Try.prog 116 #[.slice A0 l0.length c0] w fun e w' => ∃ v0_ : Value, e = .returned (v0_) ∧ Kd.R (Kd.int .i64) 3 w' w.heap.size (fun _ => True) v0_ r ∧ Below w.heap.size w w' := by
 have HR0 := Aside0.mk hr0
 have HC0 := Aside0.mk hc0
 clear hr0 hc0
 unfold slices_Clone_int_int.f at h
 have hl : l0.length < 17592186044416 := by
  by_cases g : l0.length < 17592186044416
  · exact g
  · rw [if_neg g] at h; cases h
 rw [if_pos hl] at h
 have e_ := Option.some.inj h
 clear h
 subst e_
 have LM := Aside0.mk hl
 clear hl
 have HB := Aside0.mk (Below.refl w.heap.size w)
 have q22 : ∀ (W : World) (a : Option Addr) (n c n' c' : Nat), (binOp .eql 37 (.slice a n c) (.slice none n' c')).run Try.prog W = .ok (.bool a.isNone) W := fun W a n c n' c' => Lib.run_eql_slice_nil W _ _ a n c n' c' Try.underlying37
 cases A0 with
 | none =>
  have h0 : l0 = [] := by
   cases l0 with
   | nil => rfl
   | cons x xs =>
    obtain ⟨ad, h1, _⟩ := HR0.out.2.2 (by simp)
    cases h1
  subst h0
  go_enter Try.func116, Try.ntmps116
  go_wp2
  go_ret
  exact ⟨_, rfl, Kd.R_nil _ _ _ _ _, Below.refl _ _⟩
 | some ad =>
  go_enter Try.func116, Try.ntmps116
  go_wp2_with (first | ((with_reducible refine gate_dst (N := 5) rfl ?_); refine Kd.R_lit (Kd.int .i64) w.heap.size 3 ?hg (N := 5) ?hd (xs := ([] : List Int)) (inner := []) (ok := fun _ => True) (okp := fun _ => True) ?hr ?hp (fun _ hk => hk) trivial HB.out (Nat.le_refl _) (by simp) ?_; (case hd => rfl); (case hg => rfl); (case hr => first | (go_simp; done) | (go_simp; rfl)); (case hp => exact (Reps.none _ _)); intro v1 w1 ho1 hb1 hg1 hn1; have HO1 := Aside0.mk ho1; have n_ := Aside0.mk hb1; clear HB; have HB := n_; clear n_ ho1 hb1 hg1 hn1) | (at_builtin; refine Kd.R_append_rows (Kd.int .i64) (w0 := w) w.heap.size rfl (.tmp 5) (.tmp 6) 37 3 (.int .i64 0) 8 rfl Try.underlying37 info3 rfl (by decide) (by omega) v1 ([] : List Int) l0 _ _ _ (fun _ => True) (fun _ => False) rfl rfl ?aO ?aR (fun _ _ h => h) (fun _ h => h.elim) ?aF ?aB ?aS ?aL ?_; (case aR => repeat (first | exact (Kd.C_below HR0.out HB.out) | (with_reducible refine Kd.C_alloc ?_ _) | (with_reducible refine Kd.C_drewN ?_ _) | (with_reducible refine Kd.C_drew ?_))); (case aB => exact HB.out); (case aF => exact (fun _ _ => trivial)); (case aO => exact HO1.out); (case aS => exact (below_size HB.out)); (case aL => have := LM.out; simp only [List.length_nil]; omega); intro v2 w2 ho2 hb2 hg2 hat2; have HO2 := Aside0.mk ho2; have n_ := Aside0.mk hb2; clear HB; have HB := n_; clear n_ ho2 hb2 hg2 hat2))
  go_ret
  exact ⟨_, rfl, by simpa using HO2.out, HB.out⟩
def impl_copyNode.f (a0_0 : Int) (a0_1 : ByteArray) (l0_2 : List (S98)) (a0_3 : ByteArray) (a0_4 : Int) (l0_5 : List Int) : Option (Int × ByteArray × (List (S98)) × ByteArray × Int × List Int) := (impl_Attr_97.f l0_2).bind fun t103 => ((slices_Clone_int_int.f l0_5).bind fun t106 => (some (a0_0, a0_1, t103, a0_3, a0_4, t106)))
set_option maxHeartbeats 8000000 in
set_option maxRecDepth 100000 in
theorem impl_copyNode.calls (a0_0 : Int) (a0_1 : ByteArray) (A0_2 : Option Addr) (c0_2 : Nat) (l0_2 : List (S98)) (a0_3 : ByteArray) (a0_4 : Int) (A0_5 : Option Addr) (c0_5 : Nat) (l0_5 : List Int) (r1 : Int) (r2 : ByteArray) (r3 : List (S98)) (r4 : ByteArray) (r5 : Int) (r6 : List Int) (w : World) (hr0_2 : Kd.C k98 w A0_2 l0_2.length l0_2) (hc0_2 : l0_2.length ≤ c0_2) (hr0_5 : Kd.C (Kd.int .i64) w A0_5 l0_5.length l0_5) (hc0_5 : l0_5.length ≤ c0_5) (h : impl_copyNode.f a0_0 a0_1 l0_2 a0_3 a0_4 l0_5 = some (r1, r2, r3, r4, r5, r6)) :
 Calls Try.prog 91 #[.agg #[.int .i64 a0_0, .string a0_1, .slice A0_2 l0_2.length c0_2, .string a0_3, .int .i64 a0_4, .slice A0_5 l0_5.length c0_5]] w fun e w' => ∃ v2_ v5_ : Value, e = .returned (.agg #[.int .i64 r1, .string r2, v2_, .string r4, .int .i64 r5, v5_]) ∧ Kd.R k98 98 w' w.heap.size (fun _ => True) v2_ r3 ∧ Kd.R (Kd.int .i64) 3 w' w.heap.size (fun _ => True) v5_ r6 ∧ Below w.heap.size w w' := by
 have hu45 := Try.underlying45
 have HR0_2 := Aside0.mk hr0_2
 have HC0_2 := Aside0.mk hc0_2
 clear hr0_2 hc0_2
 have HR0_5 := Aside0.mk hr0_5
 have HC0_5 := Aside0.mk hc0_5
 clear hr0_5 hc0_5
 have HB := Aside0.mk (Below.refl w.heap.size w)
 have H : ((impl_Attr_97.f l0_2).bind fun t103 => ((slices_Clone_int_int.f l0_5).bind fun t106 => (some (a0_0, a0_1, t103, a0_3, a0_4, t106)))) = some (r1, r2, r3, r4, r5, r6) := h
 clear h
 replace H := Option.bind_eq_some_iff.mp H
 obtain ⟨t103, A20, H⟩ := H
 replace H : ((slices_Clone_int_int.f l0_5).bind fun t106 => (some (a0_0, a0_1, t103, a0_3, a0_4, t106))) = some (r1, r2, r3, r4, r5, r6) := H
 have A2 := Aside0.mk A20
 clear A20
 replace H := Option.bind_eq_some_iff.mp H
 obtain ⟨t106, A30, H⟩ := H
 replace H : (some (a0_0, a0_1, t103, a0_3, a0_4, t106)) = some (r1, r2, r3, r4, r5, r6) := H
 have A3 := Aside0.mk A30
 clear A30
 simp only [Option.some.injEq, Prod.mk.injEq] at H
 obtain ⟨rfl, rfl, rfl, rfl, rfl, rfl⟩ := H
 go_enter Try.func91, Try.ntmps91
 go_wp2_with (first | ((with_reducible refine gate_dst (N := 1) rfl ?_); refine box_event ?hg (N := 1) ?hd (cs := #[.int .i64 a0_0, .string a0_1, .slice A0_2 l0_2.length c0_2, .string a0_3, .int .i64 a0_4, .slice A0_5 l0_5.length c0_5]) (t := 45) ?hr ?_; (case hd => rfl); (case hg => rfl); (case hr => first | (go_simp; done) | (go_simp; rfl)); intro gb101 hg w4 hbox hb; have n0_ := Aside0.mk (below_step (by repeat (first | (with_reducible first | exact HB.out | apply below_alloc | apply pw_below_drewN | apply below_drew1) | exact HB.out)) hb); have n1_ := Aside0.mk (hbox); have n2_ := Aside0.mk ((by rw [hg]; exact (below_size (by repeat (first | (with_reducible first | exact HB.out | apply below_alloc | apply pw_below_drewN | apply below_drew1) | exact HB.out))) : w.heap.size ≤ gb101)); have n3_ := n2_; clear HB; have HB := n0_; have BK101 := n1_; have GW101 := n2_; have GE101 := n3_; clear n0_ n1_ n2_ n3_; clear hb hbox hg) | ((with_reducible refine gate_dst (N := 2) rfl ?_); refine box_event ?hg (N := 2) ?hd (cs := #[.int .i64 0, .string (⟨#[]⟩ : ByteArray), .slice none 0 0, .string (⟨#[]⟩ : ByteArray), .int .i64 0, .slice none 0 0]) (t := 45) ?hr ?_; (case hd => rfl); (case hg => rfl); (case hr => first | (go_simp; done) | (go_simp; rfl)); intro gb102 hg w5 hbox hb; have n0_ := Aside0.mk (blk_below (g := gb101) (o := .cells #[.int .i64 a0_0, .string a0_1, .slice A0_2 l0_2.length c0_2, .string a0_3, .int .i64 a0_4, .slice A0_5 l0_5.length c0_5] 45 (0, 0)) (by (with_reducible repeat (first | refine blk_drewN ?_ _ | refine blk_drew ?_ | refine blk_alloc ?_ _)); exact BK101.out) hb); have n1_ := Aside0.mk (below_step (by repeat (first | (with_reducible first | exact HB.out | apply below_alloc | apply pw_below_drewN | apply below_drew1 | refine below_set ?_ GE101.out) | exact HB.out)) hb); have n2_ := Aside0.mk (hbox); have n3_ := Aside0.mk ((by rw [hg]; exact (below_size (by repeat (first | (with_reducible first | exact HB.out | apply below_alloc | apply pw_below_drewN | apply below_drew1 | refine below_set ?_ GE101.out) | exact HB.out))) : w.heap.size ≤ gb102)); have n4_ := n3_; have n5_ := Aside0.mk ((by rw [hg]; exact Nat.ne_of_lt (blk_lt (g := gb101) (o := .cells #[.int .i64 a0_0, .string a0_1, .slice A0_2 l0_2.length c0_2, .string a0_3, .int .i64 a0_4, .slice A0_5 l0_5.length c0_5] 45 (0, 0)) (by (with_reducible repeat (first | refine blk_drewN ?_ _ | refine blk_drew ?_ | refine blk_alloc ?_ _)); exact BK101.out)) : gb101 ≠ gb102)); have n6_ := Aside0.mk (Ne.symm n5_.out); clear BK101; clear HB; have BK101 := n0_; have HB := n1_; have BK102 := n2_; have GW102 := n3_; have GE102 := n4_; have NB101_102 := n5_; have NB102_101 := n6_; clear n0_ n1_ n2_ n3_ n4_ n5_ n6_; clear hb hbox hg; have hnb6 := NB101_102.out; have hnc6 := NB102_101.out; have hcz7_0 := blk_cell BK101.out 0; have hcz7_1 := blk_cell BK101.out 1; have hcz7_2 := blk_cell BK101.out 2; have hcz7_3 := blk_cell BK101.out 3; have hcz7_4 := blk_cell BK101.out 4; have hcz7_5 := blk_cell BK101.out 5; have hfz7_0 := blk_frozen BK101.out 0; have hfz7_1 := blk_frozen BK101.out 1; have hfz7_2 := blk_frozen BK101.out 2; have hfz7_3 := blk_frozen BK101.out 3; have hfz7_4 := blk_frozen BK101.out 4; have hfz7_5 := blk_frozen BK101.out 5) | ((with_reducible refine gate_callee (f := 97) rfl ?_); refine goesL_ (some 5) rfl rfl Try.func97 (by kernel_rfl) rfl #[.slice A0_2 l0_2.length c0_2] rfl (by (try simp only [List.map_toArray, List.map_cons, List.map_nil]); first | done | rfl | (simp only [List.length_drop, List.length_take]; rfl)) ?_; (with_reducible refine (impl_Attr_97.calls _ _ l0_2 t103 _ ?side1 ?side2 A2.out).mono ?_); (case side1 => repeat (first | exact (Kd.C_below HR0_2.out HB.out) | (with_reducible refine Kd.C_alloc ?_ _) | (with_reducible refine Kd.C_drewN ?_ _) | (with_reducible refine Kd.C_drew ?_))); (case side2 => exact HC0_2.out); rintro e w8 ⟨v104, rfl, ho0, hb⟩; refine ⟨_, rfl, ?_⟩; have n0_ := Aside0.mk (Kd.R_lower ho0 (below_size (by repeat (first | (with_reducible first | exact HB.out | apply below_alloc | apply pw_below_drewN | apply below_drew1 | refine below_set ?_ GE101.out | refine below_set ?_ GE102.out) | exact HB.out)))); have n1_ := Aside0.mk (blk_below (g := gb101) (o := .cells #[.int .i64 a0_0, .string a0_1, .slice A0_2 l0_2.length c0_2, .string a0_3, .int .i64 a0_4, .slice A0_5 l0_5.length c0_5] 45 (0, 0)) (by (with_reducible repeat (first | refine blk_drewN ?_ _ | refine blk_drew ?_ | refine blk_alloc ?_ _)); exact BK101.out) hb); have n2_ := Aside0.mk (blk_below (g := gb102) (o := .cells #[.int .i64 0, .string (⟨#[]⟩ : ByteArray), .slice none 0 0, .string (⟨#[]⟩ : ByteArray), .int .i64 0, .slice none 0 0] 45 (0, 0)) (by (with_reducible repeat (first | refine blk_drewN ?_ _ | refine blk_drew ?_ | refine blk_alloc ?_ _)); exact BK102.out) hb); have n3_ := Aside0.mk (below_step (by repeat (first | (with_reducible first | exact HB.out | apply below_alloc | apply pw_below_drewN | apply below_drew1 | refine below_set ?_ GE101.out | refine below_set ?_ GE102.out) | exact HB.out)) hb); clear BK101; clear BK102; clear HB; have HO105 := n0_; have BK101 := n1_; have BK102 := n2_; have HB := n3_; clear n0_ n1_ n2_ n3_; (try clear hb); (try clear hb2); (try clear hk); (try clear hi); (try clear ho0); obtain ⟨Ao9, co9, eo9⟩ := Kd.R_slice HO105.out; subst eo9; have hcz10_0 := blk_cell BK101.out 0; have hcz10_1 := blk_cell BK101.out 1; have hcz10_2 := blk_cell BK101.out 2; have hcz10_3 := blk_cell BK101.out 3; have hcz10_4 := blk_cell BK101.out 4; have hcz10_5 := blk_cell BK101.out 5; have hfz10_0 := blk_frozen BK101.out 0; have hfz10_1 := blk_frozen BK101.out 1; have hfz10_2 := blk_frozen BK101.out 2; have hfz10_3 := blk_frozen BK101.out 3; have hfz10_4 := blk_frozen BK101.out 4; have hfz10_5 := blk_frozen BK101.out 5) | ((with_reducible refine gate_callee (f := 116) rfl ?_); refine goesL_ (some 9) rfl rfl Try.func116 (by kernel_rfl) rfl #[.slice A0_5 l0_5.length c0_5] rfl (by (try simp only [List.map_toArray, List.map_cons, List.map_nil]); first | done | rfl | (simp only [List.length_drop, List.length_take]; rfl)) ?_; (with_reducible refine (slices_Clone_int_int.calls _ _ l0_5 t106 _ ?side1 ?side2 A3.out).mono ?_); (case side1 => exact Kd.C_below HR0_5.out (by repeat (first | (with_reducible first | exact HB.out | apply below_alloc | apply pw_below_drewN | apply below_drew1 | refine below_set ?_ GE101.out | refine below_set ?_ GE102.out) | exact HB.out))); (case side2 => exact HC0_5.out); rintro e w11 ⟨v107, rfl, ho0, hb⟩; refine ⟨_, rfl, ?_⟩; have n0_ := Aside0.mk (Kd.R_below (by (with_reducible repeat (first | apply Kd.R_alloc | apply Kd.R_drewN | apply Kd.R_drew)); exact (Kd.R_mono (Kd.R_far (p := ⟨gb101, 2, none⟩) (Kd.R_types HO105.out BK101.out (by decide)) (fun _ hk => hk.2) (.slice Ao9 t103.length co9)) (fun _ h_ => h_.1))) hb); have n1_ := Aside0.mk (Kd.R_lower ho0 (below_size (by repeat (first | (with_reducible first | exact HB.out | apply below_alloc | apply pw_below_drewN | apply below_drew1 | refine below_set ?_ GE101.out | refine below_set ?_ GE102.out) | exact HB.out)))); have n2_ := Aside0.mk (blk_below (g := gb101) (o := .cells #[.int .i64 a0_0, .string a0_1, .slice Ao9 t103.length co9, .string a0_3, .int .i64 a0_4, .slice A0_5 l0_5.length c0_5] 45 (0, 0)) (by (with_reducible repeat (first | refine blk_drewN ?_ _ | refine blk_drew ?_ | refine blk_alloc ?_ _)); refine blk_put (cs := #[.int .i64 a0_0, .string a0_1, .slice A0_2 l0_2.length c0_2, .string a0_3, .int .i64 a0_4, .slice A0_5 l0_5.length c0_5]) ?_ 2 _ rfl; (with_reducible repeat (first | refine blk_drewN ?_ _ | refine blk_drew ?_ | refine blk_alloc ?_ _)); exact BK101.out) hb); have n3_ := Aside0.mk (blk_below (g := gb102) (o := .cells #[.int .i64 0, .string (⟨#[]⟩ : ByteArray), .slice none 0 0, .string (⟨#[]⟩ : ByteArray), .int .i64 0, .slice none 0 0] 45 (0, 0)) (by (with_reducible repeat (first | refine blk_drewN ?_ _ | refine blk_drew ?_ | refine blk_alloc ?_ _)); refine blk_far ?_ NB102_101.out _; (with_reducible repeat (first | refine blk_drewN ?_ _ | refine blk_drew ?_ | refine blk_alloc ?_ _)); exact BK102.out) hb); have n4_ := Aside0.mk (below_step (by repeat (first | (with_reducible first | exact HB.out | apply below_alloc | apply pw_below_drewN | apply below_drew1 | refine below_set ?_ GE101.out | refine below_set ?_ GE102.out) | exact HB.out)) hb); clear HO105; clear BK101; clear BK102; clear HB; have HO105 := n0_; have HO108 := n1_; have BK101 := n2_; have BK102 := n3_; have HB := n4_; clear n0_ n1_ n2_ n3_ n4_; (try clear hb); (try clear hb2); (try clear hk); (try clear hi); (try clear ho0); obtain ⟨Ao12, co12, eo12⟩ := Kd.R_slice HO108.out; subst eo12; have hcz13_0 := blk_cell BK101.out 0; have hcz13_1 := blk_cell BK101.out 1; have hcz13_2 := blk_cell BK101.out 2; have hcz13_3 := blk_cell BK101.out 3; have hcz13_4 := blk_cell BK101.out 4; have hcz13_5 := blk_cell BK101.out 5; have hfz13_0 := blk_frozen BK101.out 0; have hfz13_1 := blk_frozen BK101.out 1; have hfz13_2 := blk_frozen BK101.out 2; have hfz13_3 := blk_frozen BK101.out 3; have hfz13_4 := blk_frozen BK101.out 4; have hfz13_5 := blk_frozen BK101.out 5; have hcz14_0 := blk_cell BK102.out 0; have hcz14_1 := blk_cell BK102.out 1; have hcz14_2 := blk_cell BK102.out 2; have hcz14_3 := blk_cell BK102.out 3; have hcz14_4 := blk_cell BK102.out 4; have hcz14_5 := blk_cell BK102.out 5; have hfz14_0 := blk_frozen BK102.out 0; have hfz14_1 := blk_frozen BK102.out 1; have hfz14_2 := blk_frozen BK102.out 2; have hfz14_3 := blk_frozen BK102.out 3; have hfz14_4 := blk_frozen BK102.out 4; have hfz14_5 := blk_frozen BK102.out 5))
 refine bodyPost_ret (results_cell_row rfl _ _ gb102 45 #[.int .i64 a0_0, .string a0_1, .slice Ao9 t103.length co9, .string a0_3, .int .i64 a0_4, .slice Ao12 t106.length co12] (0, 0) _ rfl (by (with_reducible repeat (first | refine blk_drewN ?_ _ | refine blk_drew ?_ | refine blk_alloc ?_ _)); refine blk_put (cs := #[.int .i64 a0_0, .string a0_1, .slice Ao9 t103.length co9, .string a0_3, .int .i64 a0_4, .slice none 0 0]) ?_ 5 _ rfl; (with_reducible repeat (first | refine blk_drewN ?_ _ | refine blk_drew ?_ | refine blk_alloc ?_ _)); refine blk_put (cs := #[.int .i64 a0_0, .string a0_1, .slice Ao9 t103.length co9, .string a0_3, .int .i64 0, .slice none 0 0]) ?_ 4 _ rfl; (with_reducible repeat (first | refine blk_drewN ?_ _ | refine blk_drew ?_ | refine blk_alloc ?_ _)); refine blk_put (cs := #[.int .i64 a0_0, .string a0_1, .slice Ao9 t103.length co9, .string (⟨#[]⟩ : ByteArray), .int .i64 0, .slice none 0 0]) ?_ 3 _ rfl; (with_reducible repeat (first | refine blk_drewN ?_ _ | refine blk_drew ?_ | refine blk_alloc ?_ _)); refine blk_put (cs := #[.int .i64 a0_0, .string a0_1, .slice none 0 0, .string (⟨#[]⟩ : ByteArray), .int .i64 0, .slice none 0 0]) ?_ 2 _ rfl; (with_reducible repeat (first | refine blk_drewN ?_ _ | refine blk_drew ?_ | refine blk_alloc ?_ _)); refine blk_put (cs := #[.int .i64 a0_0, .string (⟨#[]⟩ : ByteArray), .slice none 0 0, .string (⟨#[]⟩ : ByteArray), .int .i64 0, .slice none 0 0]) ?_ 1 _ rfl; (with_reducible repeat (first | refine blk_drewN ?_ _ | refine blk_drew ?_ | refine blk_alloc ?_ _)); refine blk_put (cs := #[.int .i64 0, .string (⟨#[]⟩ : ByteArray), .slice none 0 0, .string (⟨#[]⟩ : ByteArray), .int .i64 0, .slice none 0 0]) ?_ 0 _ rfl; (with_reducible repeat (first | refine blk_drewN ?_ _ | refine blk_drew ?_ | refine blk_alloc ?_ _)); refine blk_far ?_ NB102_101.out _; (with_reducible repeat (first | refine blk_drewN ?_ _ | refine blk_drew ?_ | refine blk_alloc ?_ _)); exact BK102.out) Try.underlying45 rfl (by kernel_rfl)) rfl ?_
 exact ⟨_, _, by first | rfl | (simp [*] <;> rfl), by (with_reducible repeat (first | apply Kd.R_alloc | apply Kd.R_drewN | apply Kd.R_drew)); exact Kd.R_mono (Kd.R_far (p := ⟨gb102, 5, none⟩) (Kd.R_far (p := ⟨gb102, 4, none⟩) (Kd.R_far (p := ⟨gb102, 3, none⟩) (Kd.R_far (p := ⟨gb102, 2, none⟩) (Kd.R_far (p := ⟨gb102, 1, none⟩) (Kd.R_far (p := ⟨gb102, 0, none⟩) (Kd.R_far (p := ⟨gb101, 5, none⟩) (Kd.R_types (Kd.R_types HO105.out BK101.out (by decide)) BK102.out (by decide)) (fun _ hk => hk.1.2) (.slice Ao12 t106.length co12)) (fun _ hk => hk.2) (.int .i64 a0_0)) (fun _ hk => hk.2) (.string a0_1)) (fun _ hk => hk.2) (.slice Ao9 t103.length co9)) (fun _ hk => hk.2) (.string a0_3)) (fun _ hk => hk.2) (.int .i64 a0_4)) (fun _ hk => hk.2) (.slice Ao12 t106.length co12)) (fun _ hk => trivial), by (with_reducible repeat (first | apply Kd.R_alloc | apply Kd.R_drewN | apply Kd.R_drew)); exact Kd.R_mono (Kd.R_far (p := ⟨gb102, 5, none⟩) (Kd.R_far (p := ⟨gb102, 4, none⟩) (Kd.R_far (p := ⟨gb102, 3, none⟩) (Kd.R_far (p := ⟨gb102, 2, none⟩) (Kd.R_far (p := ⟨gb102, 1, none⟩) (Kd.R_far (p := ⟨gb102, 0, none⟩) (Kd.R_far (p := ⟨gb101, 5, none⟩) (Kd.R_types (Kd.R_types HO108.out BK101.out (by decide)) BK102.out (by decide)) (fun _ hk => hk.1.2) (.slice Ao12 t106.length co12)) (fun _ hk => hk.2) (.int .i64 a0_0)) (fun _ hk => hk.2) (.string a0_1)) (fun _ hk => hk.2) (.slice Ao9 t103.length co9)) (fun _ hk => hk.2) (.string a0_3)) (fun _ hk => hk.2) (.int .i64 a0_4)) (fun _ hk => hk.2) (.slice Ao12 t106.length co12)) (fun _ hk => trivial), by repeat (first | (with_reducible first | exact HB.out | apply below_alloc | apply pw_below_drewN | apply below_drew1 | refine below_set ?_ GE101.out | refine below_set ?_ GE102.out) | exact HB.out)⟩
def impl_Tree_tidy.l0 : Nat → Int → List Int → List Int → Option (List Int)
 | 0, _, _, _ => none
 | k + 1, j, order, s => if j < (order.length : Int) then (if 0 ≤ j then (if 0 ≤ rd order j then (if rd order j < (s.length : Int) then impl_Tree_tidy.l0 k (wrap64 (j + 1)) order (s.set (rd order j).toNat j) else none) else none) else none) else some s
mutual
def impl_Tree_tidy.l1 : Nat → Int → List Int → List Int → List S45 → List S45 → Option (List S45)
 | 0, _, _, _, _, _ => none
 | k + 1, j, order, s, xs, outs => if j < (order.length : Int) then (if 0 ≤ j then (if 0 ≤ rd order j then (if rd order j < (xs.length : Int) then ((impl_copyNode.f (rd_T45 xs (rd order j)).f0 (rd_T45 xs (rd order j)).f1 (rd_T45 xs (rd order j)).f2 (rd_T45 xs (rd order j)).f3 (rd_T45 xs (rd order j)).f4 (rd_T45 xs (rd order j)).f5).bind fun b => impl_Tree_tidy.l2 k 0 j order s xs outs ⟨b.1, b.2.1, b.2.2.1, b.2.2.2.1, b.2.2.2.2.1, b.2.2.2.2.2⟩) else none) else none) else none) else some outs
def impl_Tree_tidy.l2 : Nat → Int → Int → List Int → List Int → List S45 → List S45 → S45 → Option (List S45)
 | 0, _, _, _, _, _, _, _ => none
 | k + 1, i, j, order, s, xs, outs, x => if i < (x.f5.length : Int) then (if 0 ≤ i then (if 0 ≤ rd x.f5 i then (if rd x.f5 i < (s.length : Int) then impl_Tree_tidy.l2 k (wrap64 (i + 1)) j order s xs outs ⟨x.f0, x.f1, x.f2, x.f3, x.f4, x.f5.set i.toNat (rd s (rd x.f5 i))⟩ else none) else none) else none) else (if outs.length < 1000000 then (if j = 0 then impl_Tree_tidy.l1 k (wrap64 (j + 1)) order s xs (outs ++ [⟨x.f0, x.f1, x.f2, x.f3, -1, x.f5⟩]) else (if 0 ≤ x.f4 then (if x.f4 < (s.length : Int) then impl_Tree_tidy.l1 k (wrap64 (j + 1)) order s xs (outs ++ [⟨x.f0, x.f1, x.f2, x.f3, rd s x.f4, x.f5⟩]) else none) else none)) else none)
end
def impl_Tree_tidy.f (k : Nat) (xs : List S45) : Option (List S45) := (impl_Tree_below.f k xs 0).bind fun order => if 0 < order.length then (if 0 < xs.length then (if xs.length ≤ 1000000 then ((impl_Tree_tidy.l0 k 0 order (List.replicate xs.length 0)).bind fun s => impl_Tree_tidy.l1 k 0 order s xs []) else none) else none) else none
theorem impl_Tree_tidy.mono_0 : ∀ k, (∀ y0 y1 y2, LeO (impl_Tree_tidy.l0 k y0 y1 y2) (impl_Tree_tidy.l0 (k + 1) y0 y1 y2))
 | 0 => fun _ _ _ r h => by simp [impl_Tree_tidy.l0] at h
 | k + 1 => by
  have ih := impl_Tree_tidy.mono_0 k
  intro y0 y1 y2
  rw [impl_Tree_tidy.l0, impl_Tree_tidy.l0]
  exact LeO.ite (LeO.ite (LeO.ite (LeO.ite (ih _ _ _) (LeO.refl _)) (LeO.refl _)) (LeO.refl _)) (LeO.refl _)
theorem impl_Tree_tidy.mono_l : ∀ k, (∀ y0 y1 y2 y3 y4, LeO (impl_Tree_tidy.l1 k y0 y1 y2 y3 y4) (impl_Tree_tidy.l1 (k + 1) y0 y1 y2 y3 y4)) ∧ (∀ y0 y1 y2 y3 y4 y5 y6, LeO (impl_Tree_tidy.l2 k y0 y1 y2 y3 y4 y5 y6) (impl_Tree_tidy.l2 (k + 1) y0 y1 y2 y3 y4 y5 y6))
 | 0 => ⟨fun _ _ _ _ _ r h => by simp [impl_Tree_tidy.l1] at h, fun _ _ _ _ _ _ _ r h => by simp [impl_Tree_tidy.l2] at h⟩
 | k + 1 => by
  obtain ⟨ih1, ih2⟩ := impl_Tree_tidy.mono_l k
  constructor
  · intro y0 y1 y2 y3 y4
    rw [impl_Tree_tidy.l1, impl_Tree_tidy.l1]
    exact LeO.ite (LeO.ite (LeO.ite (LeO.ite (LeO.bind (LeO.refl _) (fun _ => ih2 _ _ _ _ _ _ _)) (LeO.refl _)) (LeO.refl _)) (LeO.refl _)) (LeO.refl _)
  · intro y0 y1 y2 y3 y4 y5 y6
    rw [impl_Tree_tidy.l2, impl_Tree_tidy.l2]
    exact LeO.ite (LeO.ite (LeO.ite (LeO.ite (ih2 _ _ _ _ _ _ _) (LeO.refl _)) (LeO.refl _)) (LeO.refl _)) (LeO.ite (LeO.ite (ih1 _ _ _ _ _) (LeO.ite (LeO.ite (ih1 _ _ _ _ _) (LeO.refl _)) (LeO.refl _))) (LeO.refl _))
theorem impl_Tree_tidy.mono : ∀ a0 k, LeO (impl_Tree_tidy.f k a0) (impl_Tree_tidy.f (k + 1) a0) := fun a0 k => LeO.bind (impl_Tree_below.mono _ _ _) (fun _ => LeO.ite (LeO.ite (LeO.ite (LeO.bind (impl_Tree_tidy.mono_0 k _ _ _) (fun _ => (impl_Tree_tidy.mono_l k).1 _ _ _ _ _)) (LeO.refl _)) (LeO.refl _)) (LeO.refl _))
set_option maxHeartbeats 8000000 in
set_option maxRecDepth 100000 in
theorem impl_Tree_tidy.calls (k : Nat) (g : Nat) (xs : List S45) (r : List S45) (w0 w : World) (hI : IsS29 w0 w g xs) (hB : Below w0.heap.size w0 w) (h : impl_Tree_tidy.f k xs = some r) :
 Calls Try.prog 47 #[.pointer (some ⟨g, 0, none⟩)] w fun e w' => ∃ v0_ : Value, e = .returned (.agg #[v0_]) ∧ Kd.S k45 45 w' w.heap.size (fun _ => True) v0_ r ∧ IsS29 w0 w' g xs ∧ Below w0.heap.size w0 w' ∧ KeepBut w w' g none := by
 unfold impl_Tree_tidy.f at h
 obtain ⟨order, A1, h⟩ := Option.bind_eq_some_iff.mp h
 by_cases ho : 0 < order.length
 · rw [if_pos ho] at h
   by_cases hx1 : 0 < xs.length
   · rw [if_pos hx1] at h
     by_cases hx2 : xs.length ≤ 1000000
     · rw [if_pos hx2] at h
       obtain ⟨s0, AL, AH⟩ := Option.bind_eq_some_iff.mp h
       replace A1 := Aside0.mk A1
       replace AL := Aside0.mk AL
       replace AH := Aside0.mk AH
       have HO := Aside0.mk ho
       have HX1 := Aside0.mk hx1
       have HX2' := Aside0.mk hx2
       have HGW := Aside0.mk (show g < w.heap.size by obtain ⟨_, _, hb, _⟩ := hI; exact blk_lt hb)
       clear h ho hx1 hx2
       have HI := Aside0.mk hI
       have HB := Aside0.mk hB
       have HB0 := Aside0.mk hB
       clear hI hB
       go_enter Try.func47, Try.ntmps47
       go_wp2_with (first
        | ((with_reducible refine gate_dst (N := 2) rfl ?_); refine box_event ?hg (N := 2) ?hd (cs := #[.slice none 0 0]) (t := 29) ?hr ?_; (case hd => rfl); (case hg => rfl); (case hr => first | (go_simp; done) | (go_simp; rfl)); intro g2 hg w1 hbox hb; have HI1 := Aside0.mk (IsS29.below HI.out hb); have HB1 := Aside0.mk (below_step HB.out hb); have HW1 := Aside0.mk hb; have HX := Aside0.mk hbox; have HG2 := Aside0.mk (Nat.le_of_eq hg.symm); have HNE := Aside0.mk (show g2 ≠ g by have := HGW.out; omega); clear hbox hb hg HI HB)
        | (go_at_call 65; (with_reducible refine (impl_Tree_below.calls k g xs 0 order w0 _ HI1.out HB1.out A1.out).mono ?_); rintro e w2 ⟨vo, rfl, hr, hi, hb, hk⟩; have HX2 := Aside0.mk (hk.blk HX.out HNE.out (by simp)); have HB2 := Aside0.mk hb; have HKB := Aside0.mk hk; have HI2 := Aside0.mk hi; obtain ⟨A, c, hgb, hge, hC⟩ := hi; have hcg := cellS29_0 hgb; have HCG := Aside0.mk hcg; have HC := Aside0.mk (Kd.C_below hC hb); obtain ⟨go, co, evo, _, _, _⟩ := Kd.R_form hr HO.out; subst evo; have HR := Aside0.mk (Kd.R_reads' hr).2.2; clear hr hb hk HX hgb hge hC)
        | ((with_reducible refine gate_dst (N := 20) rfl ?_); refine Kd.R_make (w0 := w2) (Kd.int .i64) w2.heap.size 3 rfl (N := 20) rfl 37 _ _ rfl (xs.length : Int) rfl rfl Try.underlying37 (.int .i64 0) 8 info3 rfl (by decide) (by omega) 0 (ok := fun _ => True) (okp := fun _ => True) rfl (fun _ hk => hk) trivial (by omega) (by have := HX2'.out; omega) (Below.refl _ _) (Nat.le_refl _) ?_; intro vs w3 ho hb hg_ hnew_; clear hg_ hnew_; rw [Int.toNat_natCast] at ho; obtain ⟨gs, cap, ev, hrow⟩ := RowW.of ho hb (by have := HX1.out; rw [List.length_replicate]; exact this); rw [List.length_replicate] at ev hrow; subst ev; have HS := Aside0.mk hrow; clear ho hb hrow))
       go_loopg [23] k (fun kq v23 w' => ∃ (j : Int) (s : List Int), v23 = .int .i64 j ∧ Aside0 (impl_Tree_tidy.l0 kq j order s = some s0) ∧ Aside0 (kq ≤ k) ∧ Aside0 (RowW w2 w' gs xs.length cap s))
       case atStart => exact ⟨0, _, rfl, AL, ⟨Nat.le_refl _⟩, HS⟩
       case round =>
        clear AL HS hcg
        obtain ⟨j, s, rfl, HA, HK, HS⟩ := hrel
        cases gk with
        | zero => exact absurd HA.out (by simp [impl_Tree_tidy.l0])
        | succ k1 =>
         have H := HA.out
         clear HA
         simp only [impl_Tree_tidy.l0] at H
         by_cases c1 : j < (order.length : Int)
         · rw [if_pos c1] at H
           by_cases c2 : 0 ≤ j
           · rw [if_pos c2] at H
             by_cases c3 : 0 ≤ rd order j
             · rw [if_pos c3] at H
               by_cases c4 : rd order j < (s.length : Int)
               · rw [if_pos c4] at H
                 have HA := Aside0.mk H
                 clear H
                 have c4' : rd order j < (xs.length : Int) := by have := HS.out.len; omega
                 clear c4
                 have c1b : decide (j < (order.length : Int)) = true := decide_eq_true c1
                 obtain ⟨ak, e2, hy0⟩ := Kd.at_int HR.out j c2 c1
                 injection e2 with e2
                 subst e2
                 replace hy0 := pw_cell_below HS.out.low hy0
                 rw [add_plain] at hy0
                 obtain ⟨hs, hsf⟩ := HS.out.at_ (rd order j) c3 c4'
                 replace c1 := eq_true c1
                 replace c2 := eq_true c2
                 replace c3 := eq_true c3
                 replace c4' := eq_true c4'
                 go_wp2
                 go_roundg k1
                 case measure => have := HK.out; omega
                 case rel => exact ⟨_, _, rfl, HA, ⟨by have := HK.out; omega⟩, ⟨HS.out.put (rd order j) j⟩⟩
               · rw [if_neg c4] at H; cases H
             · rw [if_neg c3] at H; cases H
           · rw [if_neg c2] at H; cases H
         · rw [if_neg c1] at H
           obtain rfl := Option.some.inj H
           clear H
           have c1b : decide (j < (order.length : Int)) = false := decide_eq_false c1
           clear c1
           have HS5 := Aside0.mk (HS.out)
           have HC5 := Aside0.mk (Kd.C_below HC.out HS.out.low)
           have HR5 := Aside0.mk (Kd.C_below HR.out HS.out.low)
           have HP5 := Aside0.mk (Kd.R_reads' HS.out.row).2.2
           have HX5 := Aside0.mk (blk_below HX2.out HS.out.low)
           have HI5 := Aside0.mk (IsS29.below HI2.out HS.out.low)
           have hcg5 := pw_cell_below HS.out.low HCG.out
           have HCG5 := Aside0.mk hcg5
           clear HS
           generalize hwr : wr = w5 at HS5 HC5 HR5 HP5 HX5 HI5 hcg5 HCG5 ⊢
           clear hwr
           have hlen := HS5.out.len
           go_wp2_with (first | ((with_reducible refine gate_dst (N := 7) rfl ?_); refine box_event ?hg (N := 7) ?hd (cs := #[.slice none 0 0]) (t := 29) ?hr ?_; (case hd => rfl); (case hg => rfl); (case hr => first | (go_simp; done) | (go_simp; rfl)); intro gq hg w6 hbox hb; have HQ := Aside0.mk (show OutW w5 w6 gq (.slice none 0 0) [] from ⟨hbox, Kd.S_nil _ _ _ _ _, hb, Nat.le_of_eq hg.symm⟩); clear hbox hb hg))
           have HLEN := Aside0.mk hlen
           clear hlen
           go_loopg [35] k (fun kq v35 w' => ∃ (j : Int) (outs : List S45) (vo : Value), v35 = .int .i64 j ∧ Aside0 (impl_Tree_tidy.l1 kq j order s xs outs = some r) ∧ Aside0 (kq ≤ k) ∧ Aside0 (OutW w5 w' gq vo outs))
           case atStart => exact ⟨0, _, _, rfl, AH, ⟨Nat.le_refl _⟩, HQ⟩
           case round =>
            clear HQ hcg5
            obtain ⟨j, outs, vo, rfl, HA, HKJ, HQ⟩ := hrel
            cases gk with
            | zero => exact absurd HA.out (by simp [impl_Tree_tidy.l1])
            | succ k2 =>
             have H := HA.out
             clear HA
             simp only [impl_Tree_tidy.l1] at H
             have hcg := pw_cell_below HQ.out.low HCG5.out
             by_cases c1 : j < (order.length : Int)
             · rw [if_pos c1] at H
               by_cases c2 : 0 ≤ j
               · rw [if_pos c2] at H
                 by_cases c3 : 0 ≤ rd order j
                 · rw [if_pos c3] at H
                   by_cases c4 : rd order j < (xs.length : Int)
                   · rw [if_pos c4] at H
                     obtain ⟨⟨b0, b1, b2, b3, b4, b5⟩, AC, H⟩ := Option.bind_eq_some_iff.mp H
                     replace AC := Aside0.mk AC
                     have HA := Aside0.mk H
                     clear H
                     have c1b : decide (j < (order.length : Int)) = true := decide_eq_true c1
                     obtain ⟨ak, e2, hy0⟩ := Kd.at_int HR5.out j c2 c1
                     injection e2 with e2
                     subst e2
                     replace hy0 := pw_cell_below HQ.out.low hy0
                     rw [add_plain] at hy0
                     obtain ⟨ad, A_2, c_2, A_5, c_5, e1, hx0, hx1, hx2, hx3, hx4, hx5, hl2, hi2, hl5, hi5⟩ := at_T45 HC5.out (rd order j) c3 c4
                     subst e1
                     replace hx0 := pw_cell_below HQ.out.low hx0
                     replace hx1 := pw_cell_below HQ.out.low hx1
                     replace hx2 := pw_cell_below HQ.out.low hx2
                     replace hx3 := pw_cell_below HQ.out.low hx3
                     replace hx4 := pw_cell_below HQ.out.low hx4
                     replace hx5 := pw_cell_below HQ.out.low hx5
                     have HI2' := Aside0.mk (Kd.C_below hi2 HQ.out.low)
                     have HI5' := Aside0.mk (Kd.C_below hi5 HQ.out.low)
                     have HL2 := Aside0.mk hl2
                     have HL5 := Aside0.mk hl5
                     clear hl2 hi2 hl5 hi5
                     replace c1 := eq_true c1
                     replace c2 := eq_true c2
                     replace c3 := eq_true c3
                     replace c4 := eq_true c4
                     generalize hwB : wr = wB at HQ hcg hy0 hx0 hx1 hx2 hx3 hx4 hx5 HI2' HI5' ⊢
                     clear hwB
                     go_upto_region 13 with (first | (go_at_call 91; (with_reducible refine (impl_copyNode.calls _ _ _ _ _ _ _ _ _ _ b0 b1 b2 b3 b4 b5 _ HI2'.out HL2.out HI5'.out HL5.out AC.out).mono ?_); rintro e w7 ⟨v2, v5, rfl, hr2, hr5, hb⟩; obtain ⟨B2, d2, rfl⟩ := Kd.R_slice hr2; obtain ⟨B5, d5, rfl⟩ := Kd.R_slice hr5; have HR2 := Aside0.mk hr2; have HR5 := Aside0.mk hr5; have HB7 := Aside0.mk hb; clear hr2 hr5 hb) | ((with_reducible refine gate_dst (N := 10) rfl ?_); refine box_event ?hg (N := 10) ?hd (cs := #[.int .i64 0, .string (⟨#[]⟩ : ByteArray), .slice none 0 0, .string (⟨#[]⟩ : ByteArray), .int .i64 0, .slice none 0 0]) (t := 45) ?hr ?_; (case hd => rfl); (case hg => rfl); (case hr => first | (go_simp; done) | (go_simp; rfl)); intro gb hg w8 hbox hb; have HND := Aside0.mk (NodW.new (x := ⟨b0, b1, b2, b3, b4, b5⟩) HR2.out HR5.out HB7.out hb hg hbox); have hz0 := blk_cell hbox 0; have hz1 := blk_cell hbox 1; have hz2 := blk_cell hbox 2; have hz3 := blk_cell hbox 3; have hz4 := blk_cell hbox 4; have hz5 := blk_cell hbox 5; have hf := blk_frozen hbox; clear hbox hb hg))
                     show Code.wp _ _ _ _ (fillN w8 gb ⟨b0, b1, b2, b3, b4, b5⟩ (.slice B2 b2.length d2) (.slice B5 b5.length d5))
                     generalize fillN w8 gb ⟨b0, b1, b2, b3, b4, b5⟩ (.slice B2 b2.length d2) (.slice B5 b5.length d5) = wD at HND ⊢
                     clear hx0 hx1 hx2 hx3 hx4 hx5 hy0 hcg
                     obtain ⟨hq0, hq1, hq2, hq3, hq4, hq5⟩ := HND.out.cells
                     clear hz0 hz1 hz2 hz3 hz4 hz5 hf
                     go_wp2
                     go_loopg [51] k2 (fun kq v51 w' => ∃ (i : Int) (ks : List Int), v51 = .int .i64 i ∧ Aside0 (impl_Tree_tidy.l2 kq i j order s xs outs ⟨b0, b1, b2, b3, b4, ks⟩ = some r) ∧ Aside0 (kq ≤ k2) ∧ Aside0 (ks.length = b5.length) ∧ Aside0 (NodW wB w' gb ⟨b0, b1, b2, b3, b4, ks⟩ (.slice B2 b2.length d2) (.slice B5 b5.length d5)))
                     case atStart => exact ⟨0, _, rfl, HA, ⟨Nat.le_refl _⟩, ⟨rfl⟩, HND⟩
                     case round =>
                      clear HA HND hq0 hq1 hq2 hq3 hq4 hq5
                      obtain ⟨i, ks, rfl, HA, HK3, HLK, HND⟩ := hrel
                      cases gk with
                      | zero => exact absurd HA.out (by simp [impl_Tree_tidy.l2])
                      | succ k3 =>
                       have H := HA.out
                       clear HA
                       simp only [impl_Tree_tidy.l2] at H
                       obtain ⟨hq0, hq1, hq2, hq3, hq4, hq5⟩ := HND.out.cells
                       have HLOW := Aside0.mk (below_step HQ.out.low HND.out.low)
                       by_cases c5 : i < (ks.length : Int)
                       · rw [if_pos c5] at H
                         by_cases c6 : 0 ≤ i
                         · rw [if_pos c6] at H
                           by_cases c7 : 0 ≤ rd ks i
                           · rw [if_pos c7] at H
                             by_cases c8 : rd ks i < (s.length : Int)
                             · rw [if_pos c8] at H
                               have HA := Aside0.mk H
                               clear H
                               have c5l : i < (b5.length : Int) := by have := HLK.out; omega
                               have c5b : decide (i < (b5.length : Int)) = true := decide_eq_true c5l
                               obtain ⟨gk, cap5, ev5, _, _, _⟩ := Kd.R_form HND.out.r5 (by show 0 < ks.length; omega)
                               injection ev5 with ea5 en5 ec5
                               clear en5
                               subst ea5
                               subst ec5
                               obtain ⟨hk0, hkf⟩ := Kd.R_celln 0 HND.out.r5 i c6 c5l
                               replace hk0 : wr.cell? ⟨gk, i.toNat, none⟩ = some (.int .i64 (rd ks i)) := hk0
                               obtain ⟨as_, e9, hs0⟩ := Kd.at_int HP5.out (rd ks i) c7 c8
                               injection e9 with e9
                               subst e9
                               replace hs0 := pw_cell_below HLOW.out hs0
                               rw [add_plain] at hs0
                               have c8x : rd ks i < (xs.length : Int) := by have := HLEN.out; omega
                               clear c5
                               replace c8 := eq_true c8
                               replace c5l := eq_true c5l
                               replace c6 := eq_true c6
                               replace c7 := eq_true c7
                               replace c8x := eq_true c8x
                               go_wp2
                               go_region
                               all_goals go_wp2
                               go_roundg k3
                               case measure => have := HK.out; have := HKJ.out; have := HK3.out; omega
                               case rel => exact ⟨_, _, rfl, HA, ⟨by have := HK3.out; omega⟩, ⟨by rw [List.length_set]; exact HLK.out⟩, ⟨NodW.drewN (NodW.kid HND.out i (rd s (rd ks i))) 1⟩⟩
                             · rw [if_neg c8] at H; cases H
                           · rw [if_neg c7] at H; cases H
                         · rw [if_neg c6] at H; cases H
                       · rw [if_neg c5] at H
                         have c5b : decide (i < (b5.length : Int)) = false := decide_eq_false (by have := HLK.out; omega)
                         clear c5
                         have HE := Aside0.mk H
                         clear H
                         by_cases cN : outs.length < 1000000
                         · have HLN := Aside0.mk cN
                           by_cases cj : j = 0
                           · have H := HE.out
                             rw [if_pos cN, if_pos cj] at H
                             have HA := Aside0.mk H
                             clear H HE cN
                             have cjb : (j == 0) = true := beq_iff_eq.mpr cj
                             clear cj
                             have hfb := blk_frozen HND.out.blk
                             go_upto_region 21 with (fail)
                             have HNE2 := Aside0.mk (NodW.par HND.out (-1))
                             generalize wr.setCell ⟨gb, 4, none⟩ (.int .i64 (-1)) = wE at HNE2 ⊢
                             clear hq0 hq1 hq2 hq3 hq4 hq5 hfb
                             obtain ⟨hq0, hq1, hq2, hq3, hq4, hq5⟩ := HNE2.out.cells
                             have hqo := pw_cell_below HNE2.out.low HQ.out.cell
                             go_wp2_with (first | ((with_reducible refine gate_builtin (b := .append) (xs := #[.tmp 75, .tmp 77]) rfl ?_); at_builtin; refine Kd.S_append (w0 := w5) k45 w5.heap.size rfl (.tmp 75) (.tmp 77) 27 45 (.agg #[(.int .i64 0), (.string ⟨#[]⟩), (.slice none 0 0), (.string ⟨#[]⟩), (.int .i64 0), (.slice none 0 0)]) 96 rfl Try.underlying27 info45 rfl (by decide) (by omega) vo outs _ _ (fun k_ => k_ ≠ gq) (fun k_ => wB.heap.size ≤ k_ ∧ k_ < wE.heap.size) rfl rfl (NodW.elem HNE2.out HQ.out.low) (HQ.out.okp) (fun k_ hk => by have := HQ.out.lt; have := HNE2.out.low.size; omega) (HQ.out.apart HNE2.out.low) (below_step HQ.out.low HNE2.out.low) (below_step HQ.out.low HNE2.out.low).size (by have := HLN.out; omega) ?_; intro v1 w9 hS hlow hgw hat; obtain ⟨A1, c1', ev1⟩ := Kd.S_slice hS; rw [List.length_append, List.length_singleton] at ev1; subst ev1; have HQ2 := Aside0.mk (HQ.out.put HNE2.out.low hS hlow hgw); have hcq2 := (blk_cell (blk_grown (blk_below HQ.out.blk HNE2.out.low) hgw (fun e_ => (HQ.out.row |> Kd.S_R).1 gq e_.symm rfl)) 0).trans (show (#[vo] : Array Value)[0]? = some vo from rfl); have hfq2 := blk_frozen (blk_grown (blk_below HQ.out.blk HNE2.out.low) hgw (fun e_ => (HQ.out.row |> Kd.S_R).1 gq e_.symm rfl)); clear hS hlow hgw hat))
                             go_roundg k3
                             case measure => have := HK.out; have := HKJ.out; have := HK3.out; omega
                             case rel => exact ⟨_, _, _, rfl, HA, ⟨by have := HKJ.out; have := HK3.out; omega⟩, HQ2⟩
                           · have H := HE.out
                             rw [if_pos cN, if_neg cj] at H
                             by_cases cp0 : 0 ≤ b4
                             · rw [if_pos cp0] at H
                               by_cases cp1 : b4 < (s.length : Int)
                               · rw [if_pos cp1] at H
                                 have HA := Aside0.mk H
                                 clear H HE cN
                                 have cjb : (j == 0) = false := beq_eq_false_iff_ne.mpr cj
                                 clear cj
                                 have hfb := blk_frozen HND.out.blk
                                 obtain ⟨as_, e9, hs0⟩ := Kd.at_int HP5.out b4 cp0 cp1
                                 injection e9 with e9
                                 subst e9
                                 replace hs0 := pw_cell_below HLOW.out hs0
                                 rw [add_plain] at hs0
                                 replace cp0 := eq_true cp0
                                 replace cp1 := eq_true cp1
                                 go_upto_region 21 with (fail)
                                 have HNE2 := Aside0.mk (NodW.par HND.out (rd s b4))
                                 generalize wr.setCell ⟨gb, 4, none⟩ (.int .i64 (rd s b4)) = wE at HNE2 ⊢
                                 clear hq0 hq1 hq2 hq3 hq4 hq5 hfb hs0
                                 obtain ⟨hq0, hq1, hq2, hq3, hq4, hq5⟩ := HNE2.out.cells
                                 have hqo := pw_cell_below HNE2.out.low HQ.out.cell
                                 go_wp2_with (first | ((with_reducible refine gate_builtin (b := .append) (xs := #[.tmp 75, .tmp 77]) rfl ?_); at_builtin; refine Kd.S_append (w0 := w5) k45 w5.heap.size rfl (.tmp 75) (.tmp 77) 27 45 (.agg #[(.int .i64 0), (.string ⟨#[]⟩), (.slice none 0 0), (.string ⟨#[]⟩), (.int .i64 0), (.slice none 0 0)]) 96 rfl Try.underlying27 info45 rfl (by decide) (by omega) vo outs _ _ (fun k_ => k_ ≠ gq) (fun k_ => wB.heap.size ≤ k_ ∧ k_ < wE.heap.size) rfl rfl (NodW.elem HNE2.out HQ.out.low) (HQ.out.okp) (fun k_ hk => by have := HQ.out.lt; have := HNE2.out.low.size; omega) (HQ.out.apart HNE2.out.low) (below_step HQ.out.low HNE2.out.low) (below_step HQ.out.low HNE2.out.low).size (by have := HLN.out; omega) ?_; intro v1 w9 hS hlow hgw hat; obtain ⟨A1, c1', ev1⟩ := Kd.S_slice hS; rw [List.length_append, List.length_singleton] at ev1; subst ev1; have HQ2 := Aside0.mk (HQ.out.put HNE2.out.low hS hlow hgw); have hcq2 := (blk_cell (blk_grown (blk_below HQ.out.blk HNE2.out.low) hgw (fun e_ => (HQ.out.row |> Kd.S_R).1 gq e_.symm rfl)) 0).trans (show (#[vo] : Array Value)[0]? = some vo from rfl); have hfq2 := blk_frozen (blk_grown (blk_below HQ.out.blk HNE2.out.low) hgw (fun e_ => (HQ.out.row |> Kd.S_R).1 gq e_.symm rfl)); clear hS hlow hgw hat))
                                 go_roundg k3
                                 case measure => have := HK.out; have := HKJ.out; have := HK3.out; omega
                                 case rel => exact ⟨_, _, _, rfl, HA, ⟨by have := HKJ.out; have := HK3.out; omega⟩, HQ2⟩
                               · rw [if_neg cp1] at H; cases H
                             · rw [if_neg cp0] at H; cases H
                         · have H := HE.out
                           rw [if_neg cN] at H; cases H
                   · rw [if_neg c4] at H; cases H
                 · rw [if_neg c3] at H; cases H
               · rw [if_neg c2] at H; cases H
             · rw [if_neg c1] at H
               obtain rfl := Option.some.inj H
               clear H
               have c1b : decide (j < (order.length : Int)) = false := decide_eq_false c1
               clear c1
               have HQL := Aside0.mk HQ.out.low
               obtain ⟨Aq, cq, rfl⟩ := Kd.S_slice HQ.out.row
               have hcq := HQ.out.cell
               have hb2 := blk_below HX5.out HQL.out
               have hc2 := blk_cell hb2 0
               have hf2 := blk_frozen hb2
               have HBB := Aside0.mk hb2
               clear hb2
               go_wp2
               have HGE2 := HG2.out
               refine bodyPost_ret (results_cell_row rfl _ _ g2 29 #[.slice Aq outs.length cq] (0, 0) _ rfl (blk_put (cs := #[.slice none 0 0]) HBB.out 0 _ rfl) Try.underlying29 rfl (by kernel_rfl)) rfl ?_
               have hg5 : g2 < w5.heap.size := blk_lt HX5.out
               have hlow5 : Below w0.heap.size w0 w5 := below_step HB2.out HS5.out.low
               have hk5 : KeepBut w w5 g none := (KeepBut.trans (KeepBut.of_below HW1.out g none) HKB.out (.inl rfl)).trans (KeepBut.of_below HS5.out.low g none) (.inl rfl)
               refine ⟨_, rfl, ?_, ?_, ?_, ?_⟩
               · exact Kd.S_lower (Kd.S_mono (Kd.S_far (p := ⟨g2, 0, none⟩) (Kd.S_mono (Kd.S_bound HQ.out.row) (ok' := fun k_ => k_ ≠ g2) (fun k_ hk => by have := hk.2.1; omega)) (fun _ hk => hk) _) (fun _ _ => trivial)) hk5.1
               · exact IsS29.far (IsS29.below HI5.out HQL.out) (Ne.symm HNE.out) _
               · exact below_set (below_step hlow5 HQL.out) (Nat.le_trans (by have := HB1.out.size; have := HW1.out.size; have := HGW.out; exact Nat.le_trans (below_size (show Below w0.heap.size w0 w from HB0.out)) HGE2) (Nat.le_refl _))
               · exact keep_far (hk5.trans (KeepBut.of_below HQL.out g none) (.inl rfl)) HGE2 _
     · rw [if_neg hx2] at h; cases h
   · rw [if_neg hx1] at h; cases h
 · rw [if_neg ho] at h; cases h
def impl_TreeTidy.f (k : Nat) (l0_0 : List S45) : Option (List S45) := (impl_TreeOk.f k l0_0).bind fun b => if b = true then impl_Tree_tidy.f k l0_0 else some []
theorem impl_TreeTidy.mono : ∀ a0_0 k, LeO (impl_TreeTidy.f k a0_0) (impl_TreeTidy.f (k + 1) a0_0) := fun a0_0 k => LeO.bind (impl_TreeOk.mono a0_0 k) (fun _ => LeO.ite (impl_Tree_tidy.mono a0_0 k) (LeO.refl _))
set_option maxHeartbeats 4000000 in
set_option maxRecDepth 100000 in
theorem impl_TreeTidy.calls (k : Nat) (A0_0 : Option Addr) (c0_0 : Nat) (l0_0 : List S45) (r : List S45) (w : World) (hr0_0 : Kd.C k45 w A0_0 l0_0.length l0_0) (hc0_0 : l0_0.length ≤ c0_0) (h : impl_TreeTidy.f k l0_0 = some r) :
 Calls Try.prog 18 #[.agg #[.slice A0_0 l0_0.length c0_0]] w fun e w' => ∃ v0_ : Value, e = .returned (.agg #[v0_]) ∧ Kd.S k45 45 w' w.heap.size (fun _ => True) v0_ r ∧ Below w.heap.size w w' := by
 unfold impl_TreeTidy.f at h
 obtain ⟨b, A1, h⟩ := Option.bind_eq_some_iff.mp h
 have HA1 := Aside0.mk A1
 have HA := Aside0.mk h
 have HC := Aside0.mk hr0_0
 have HCC := Aside0.mk hc0_0
 clear h hr0_0 hc0_0 A1
 go_enter Try.func18, Try.ntmps18
 go_upto_region 1 with (first
  | ((with_reducible refine gate_dst (N := 1) rfl ?_); refine box_event ?hg (N := 1) ?hd (cs := #[.slice A0_0 l0_0.length c0_0]) (t := 29) ?hr ?_; (case hd => rfl); (case hg => rfl); (case hr => first | (go_simp; done) | (go_simp; rfl)); intro gt hg w1 hbox hb; have HX := Aside0.mk (show BoxW w w1 gt A0_0 l0_0.length c0_0 from ⟨hbox, hb, by rw [hg]; exact Nat.le_refl _⟩); clear hbox hb hg)
  | ((with_reducible refine gate_dst (N := 2) rfl ?_); refine box_event ?hg (N := 2) ?hd (cs := #[.slice none 0 0]) (t := 29) ?hr ?_; (case hd => rfl); (case hg => rfl); (case hr => first | (go_simp; done) | (go_simp; rfl)); intro gr hg w2 hbox hb; have HR := Aside0.mk hbox; have HX2 := Aside0.mk (HX.out.below hb); have HNE := Aside0.mk (show gr ≠ gt by have := blk_lt HX.out.blk; omega); have HLR := Aside0.mk (blk_lt hbox); have HGR := Aside0.mk (show w.heap.size ≤ gr by rw [hg]; exact HX.out.low.size); clear hbox hb hg))
 have hcg := HX2.out.cell
 cases b with
 | false =>
  have H := HA.out
  simp only [Bool.false_eq_true, if_false] at H
  obtain rfl := Option.some.inj H
  clear H HA
  go_wp2_with (first | (go_at_call 13; (with_reducible refine (impl_TreeOk.calls k A0_0 c0_0 l0_0 false w2 (Kd.C_below HC.out HX2.out.low) HCC.out HA1.out).mono ?_); rintro e w3 ⟨rfl, hb⟩; have HX3 := Aside0.mk (HX2.out.below hb); have HBB := Aside0.mk (blk_below HR.out hb); have hc2 := blk_cell HBB.out 0; have hf2 := blk_frozen HBB.out; clear hb))
  refine bodyPost_ret (results_cell_row rfl _ _ gr 29 #[.slice none 0 0] (0, 0) _ rfl (blk_put (cs := #[.slice none 0 0]) HBB.out 0 _ rfl) Try.underlying29 rfl (by kernel_rfl)) rfl ?_
  exact ⟨_, rfl, Kd.S_nil _ _ _ _ _, below_set HX3.out.low HGR.out⟩
 | true =>
  have H := HA.out
  rw [if_pos rfl] at H
  have HA2 := Aside0.mk H
  clear H HA
  go_wp2_with (first
   | (go_at_call 13; (with_reducible refine (impl_TreeOk.calls k A0_0 c0_0 l0_0 true w2 (Kd.C_below HC.out HX2.out.low) HCC.out HA1.out).mono ?_); rintro e w3 ⟨rfl, hb⟩; have HX3 := Aside0.mk (HX2.out.below hb); have HR3 := Aside0.mk (blk_below HR.out hb); have HIS := Aside0.mk (show IsS29 w w3 gt l0_0 from ⟨A0_0, c0_0, HX3.out.blk, HX3.out.ge, HC.out⟩); clear hb)
   | (go_at_call 47; (with_reducible refine (impl_Tree_tidy.calls k gt l0_0 r w w3 HIS.out HX3.out.low HA2.out).mono ?_); rintro e w4 ⟨v, rfl, hS, _, hl, hk⟩; obtain ⟨Aq, cq, rfl⟩ := Kd.S_slice hS; have HS := Aside0.mk hS; have HL := Aside0.mk hl; have HBB := Aside0.mk (hk.blk HR3.out HNE.out (by simp)); have hc2 := blk_cell HBB.out 0; have hf2 := blk_frozen HBB.out; clear hS hl hk))
  refine bodyPost_ret (results_cell_row rfl _ _ gr 29 #[.slice Aq r.length cq] (0, 0) _ rfl (blk_put (cs := #[.slice none 0 0]) HBB.out 0 _ rfl) Try.underlying29 rfl (by kernel_rfl)) rfl ?_
  refine ⟨_, rfl, ?_, below_set HL.out HGR.out⟩
  have h3 := blk_lt HR3.out
  exact Kd.S_lower (Kd.S_mono (Kd.S_far (p := ⟨gr, 0, none⟩) (Kd.S_mono (Kd.S_bound HS.out) (ok' := fun k_ => k_ ≠ gr) (fun k_ hk => by have := hk.2.1; omega)) (fun _ hk => hk) _) (fun _ _ => trivial)) HX3.out.low.size
def laws_markText.l0 : Nat → Int → ByteArray → Option (ByteArray)
 | 0, _, _ => none
 | k + 1, x0, x3 => if x0 > 0 then ((some (([(wrap64 (48 + (Int.tmod x0 10))) % 256] : List Int) : List Int)).bind fun y101 => (if (strOfNums y101).size + x3.size ≤ 9223372036854775807 then (laws_markText.l0 k (wrap64 (Int.tdiv x0 10)) ((strOfNums y101) ++ x3)) else (none))) else (if 1 + x3.size ≤ 9223372036854775807 then (some ((⟨#[109]⟩ : ByteArray) ++ x3)) else (none))
def laws_markText.f (k : Nat) (a0 : Int) : Option (ByteArray) := if a0 ≤ 0 then (some (⟨#[109, 48]⟩ : ByteArray)) else (laws_markText.l0 k a0 (⟨#[]⟩ : ByteArray))
theorem laws_markText.mono_l : ∀ k, (∀ y0 y1, LeO (laws_markText.l0 k y0 y1) (laws_markText.l0 (k + 1) y0 y1))
 | 0 => fun _ _ r h => by simp [laws_markText.l0] at h
 | k + 1 => by
  have ih0 := laws_markText.mono_l k
  · intro y0 y1
    unfold laws_markText.l0
    repeat' first
    | (with_reducible exact ih0 _ _)
    | (with_reducible exact LeO.refl _)
    | (with_reducible exact LeO.none _)
    | (with_reducible refine LeO.ite ?_ ?_)
    | (with_reducible refine LeO.bind ?_ (fun _ => ?_))
    | exact ih0 _ _
    | exact LeO.none _
    | refine LeO.ite ?_ ?_
    | refine LeO.bind ?_ (fun _ => ?_)
theorem laws_markText.mono : ∀ a0 k, LeO (laws_markText.f k a0) (laws_markText.f (k + 1) a0) := by
 intro a0 k
 have ih0 := laws_markText.mono_l k
 unfold laws_markText.f
 repeat' first
  | (with_reducible exact ih0 _ _)
  | (with_reducible exact LeO.refl _)
  | (with_reducible exact LeO.none _)
  | (with_reducible refine LeO.ite ?_ ?_)
  | (with_reducible refine LeO.bind ?_ (fun _ => ?_))
  | exact ih0 _ _
  | exact LeO.none _
  | refine LeO.ite ?_ ?_
  | refine LeO.bind ?_ (fun _ => ?_)
set_option maxHeartbeats 8000000 in
set_option maxRecDepth 100000 in
theorem laws_markText.calls (k : Nat) (a0 : Int) (r : ByteArray) (w : World) (h : laws_markText.f k a0 = some r) :
 Calls Try.prog 92 #[.int .i64 a0] w fun e w' => e = .returned (.string r) ∧ Below w.heap.size w w' := by
 have HB := Aside0.mk (Below.refl w.heap.size w)
 have H : (if a0 ≤ 0 then (some (⟨#[109, 48]⟩ : ByteArray)) else (laws_markText.l0 k a0 (⟨#[]⟩ : ByteArray))) = some r := h
 clear h
 by_cases c2 : a0 ≤ 0
 · rw [if_pos c2] at H
   have c2b0 : decide (a0 ≤ 0) = true := decide_eq_true c2
   clear c2
   obtain rfl := Option.some.inj H
   go_enter Try.func92, Try.ntmps92
   go_wp2
   go_ret
   exact ⟨by first | rfl | (simp [*] <;> rfl), by repeat (first | exact HB.out | apply below_alloc | apply pw_below_drewN | apply below_drew1)⟩
 · rw [if_neg c2] at H
   have c2b0 : decide (a0 ≤ 0) = false := decide_eq_false c2
   clear c2
   have H' := Aside0.mk H
   clear H
   go_enter Try.func92, Try.ntmps92
   go_wp2
   go_loopg [0, 3] k (fun kq v0 v3 w' => ∃ (x0_1 : Int) (x3_1 : ByteArray), v0 = .int .i64 x0_1 ∧ v3 = .string x3_1 ∧ Aside0 (laws_markText.l0 kq x0_1 x3_1 = some r) ∧ Aside0 (kq ≤ k) ∧ Aside0 (Below w.heap.size w w'))
   case atStart => exact ⟨(a0), ((⟨#[]⟩ : ByteArray)), (by first | rfl | (simp; done) | (simp [*]; done)), (by first | rfl | (simp; done) | (simp [*]; done)), H', ⟨Nat.le_refl _⟩, ⟨by repeat (first | exact HB.out | apply below_alloc | apply pw_below_drewN | apply below_drew1)⟩⟩
   case round =>
    clear H'
    try clear c2
    try clear c2b0
    try clear p2
    obtain ⟨x0_1, x3_1, rfl, rfl, HA, HK1, HB⟩ := hrel
    cases gk with
    | zero => exact absurd HA.out (by simp [laws_markText.l0])
    | succ k1 =>
     have H := HA.out
     clear HA
     simp only [laws_markText.l0] at H
     by_cases c3 : x0_1 > 0
     · rw [if_pos c3] at H
       have c3b0 : decide (0 < x0_1) = true := decide_eq_true c3
       clear c3
       obtain ⟨y101, hy101⟩ : ∃ y_ : List Int, y_ = (([(wrap64 (48 + (Int.tmod x0_1 10))) % 256] : List Int)) := ⟨_, rfl⟩
       replace H : (if (strOfNums y101).size + x3_1.size ≤ 9223372036854775807 then (laws_markText.l0 k1 (wrap64 (Int.tdiv x0_1 10)) ((strOfNums y101) ++ x3_1)) else (none)) = some r := by first | (rw [hy101]; with_reducible exact H) | (have H2_ := (Option.bind_some _ _).symm.trans H; rw [hy101]; with_reducible exact H2_) | (have H2_ := (Option.bind_some _ _).symm.trans H; with_reducible exact H2_) | with_reducible exact H | (rw [hy101]; exact H) | exact H
       have Ny101 := Aside0.mk hy101
       clear hy101
       by_cases c4 : (strOfNums y101).size + x3_1.size ≤ 9223372036854775807
       · rw [if_pos c4] at H
         have c4b0 := eq_true c4
         have c4b1 : decide ((strOfNums y101).size + x3_1.size ≤ 9223372036854775807) = true := decide_eq_true c4
         try have c4b2 : (9223372036854775807 < (strOfNums y101).size + x3_1.size) = False := eq_false (Nat.not_lt.2 c4)
         have H' := Aside0.mk H
         clear H
         go_wp2_with (first | ((with_reducible refine gate_dst (N := 12) rfl ?_); refine Kd.R_lit (Kd.int .u8) _ 5 ?hg (N := 12) ?hd (xs := ([(wrap64 (48 + (Int.tmod x0_1 10))) % 256] : List Int)) (inner := [.int .u8 ((wrap64 (48 + (Int.tmod x0_1 10))) % 256)]) (ok := fun _ => True) (okp := fun _ => True) ?hr ?hp (fun _ hk => hk) trivial (Below.refl _ _) (Nat.le_refl _) (by simp) ?_; (case hd => rfl); (case hg => rfl); (case hr => first | (go_simp; done) | (go_simp; rfl)); (case hp => exact (Reps.one (show Kd.M (Kd.int .u8) _ _ _ ((wrap64 (48 + (Int.tmod x0_1 10))) % 256) [.int .u8 ((wrap64 (48 + (Int.tmod x0_1 10))) % 256)] from rfl) (Reps.none _ _))); intro v102 w5 ho6 hb hg_ hnew_; clear hg_ hnew_; (first | rw [← Ny101.out] at ho6 | (simp only [Int.reduceToNat] at ho6; rw [← Ny101.out] at ho6)); have n0_ := Aside0.mk (Kd.R_lower ho6 (below_size (by repeat (first | exact HB.out | apply below_alloc | apply pw_below_drewN | apply below_drew1)))); have n1_ := Aside0.mk (below_step (by repeat (first | exact HB.out | apply below_alloc | apply pw_below_drewN | apply below_drew1)) hb); clear HB; have HO103 := n0_; have HB := n1_; clear n0_ n1_; clear hb ho6; have hcv7 := own_string (P := Try.prog) Try.underlying52 Try.underlying5 Try.underlying9 (Kd.own_of_R HO103.out)))
         go_roundg k1
         case measure => have := HK1.out; omega
         case rel => exact ⟨(wrap64 (Int.tdiv x0_1 10)), ((strOfNums y101) ++ x3_1), (by first | rfl | (simp; done) | (simp [*]; done)), (by first | rfl | (simp; done) | (simp [*]; done)), H', ⟨by have := HK1.out; omega⟩, ⟨by repeat (first | exact HB.out | apply below_alloc | apply pw_below_drewN | apply below_drew1)⟩⟩
       · rw [if_neg c4] at H
         exact absurd H (by simp)
     · rw [if_neg c3] at H
       have c3b0 : decide (0 < x0_1) = false := decide_eq_false c3
       clear c3
       by_cases c8 : 1 + x3_1.size ≤ 9223372036854775807
       · rw [if_pos c8] at H
         have c8b0 := eq_true c8
         have c8b1 : decide (1 + x3_1.size ≤ 9223372036854775807) = true := decide_eq_true c8
         try have c8b2 : (9223372036854775807 < 1 + x3_1.size) = False := eq_false (Nat.not_lt.2 c8)
         obtain rfl := Option.some.inj H
         go_wp2
         go_ret
         exact ⟨by first | rfl | (simp [*] <;> rfl), by repeat (first | exact HB.out | apply below_alloc | apply pw_below_drewN | apply below_drew1)⟩
       · rw [if_neg c8] at H
         exact absurd H (by simp)
def laws_markAttrS.l0 : Nat → List (S98) → Int → Int → Option (Int × (List (S98)))
 | 0, _, _, _ => none
 | k + 1, x0, x1, x5 => if x5 < (x0.length : Int) then ((laws_markText.f k x1).bind fun t101 => (if 0 ≤ x5 then ((some (x0.set (x5 : Int).toNat (⟨t101, (rd_T98 x0 x5).f1⟩ : S98) : List (S98))).bind fun y102 => ((laws_markText.f k (wrap64 (x1 + 1))).bind fun t103 => (laws_markAttrS.l0 k (y102.set (x5 : Int).toNat (⟨(rd_T98 y102 x5).f0, t103⟩ : S98)) (wrap64 ((wrap64 (x1 + 1)) + 1)) (wrap64 (x5 + 1))))) else (none))) else (some (x1, x0))
def laws_markAttrS.f (k : Nat) (l0 : List (S98)) (a1 : Int) : Option (Int × (List (S98))) := laws_markAttrS.l0 k l0 a1 0
theorem laws_markAttrS.mono_l : ∀ k, (∀ y0 y1 y2, LeO (laws_markAttrS.l0 k y0 y1 y2) (laws_markAttrS.l0 (k + 1) y0 y1 y2))
 | 0 => fun _ _ _ r h => by simp [laws_markAttrS.l0] at h
 | k + 1 => by
  have ih0 := laws_markAttrS.mono_l k
  · intro y0 y1 y2
    unfold laws_markAttrS.l0
    repeat' first
    | (with_reducible exact ih0 _ _ _)
    | (with_reducible exact laws_markText.mono _ _)
    | (with_reducible exact LeO.refl _)
    | (with_reducible exact LeO.none _)
    | (with_reducible refine LeO.ite ?_ ?_)
    | (with_reducible refine LeO.bind ?_ (fun _ => ?_))
    | exact ih0 _ _ _
    | exact laws_markText.mono _ _
    | exact LeO.none _
    | refine LeO.ite ?_ ?_
    | refine LeO.bind ?_ (fun _ => ?_)
theorem laws_markAttrS.mono : ∀ a0 a1 k, LeO (laws_markAttrS.f k a0 a1) (laws_markAttrS.f (k + 1) a0 a1) := by
 intro a0 a1 k
 have ih0 := laws_markAttrS.mono_l k
 unfold laws_markAttrS.f
 repeat' first
  | (with_reducible exact ih0 _ _ _)
  | (with_reducible exact laws_markText.mono _ _)
  | (with_reducible exact LeO.refl _)
  | (with_reducible exact LeO.none _)
  | (with_reducible refine LeO.ite ?_ ?_)
  | (with_reducible refine LeO.bind ?_ (fun _ => ?_))
  | exact ih0 _ _ _
  | exact laws_markText.mono _ _
  | exact LeO.none _
  | refine LeO.ite ?_ ?_
  | refine LeO.bind ?_ (fun _ => ?_)
set_option maxHeartbeats 8000000 in
set_option maxRecDepth 100000 in
theorem laws_markAttrS.calls (k : Nat) (P0_ : Nat → Prop) (u9000_ : Value) (l0 : List (S98)) (a1 : Int) (r1 : Int) (r2 : List (S98)) (w0 w : World) (hB : Below w0.heap.size w0 w) (ho0 : Kd.R k98 98 w w0.heap.size P0_ u9000_ l0) (h : laws_markAttrS.f k l0 a1 = some (r1, r2)) :
 Calls Try.prog 60 #[u9000_, .int .i64 a1] w fun e w' => e = .returned (.int .i64 r1) ∧ Kd.R k98 98 w' w0.heap.size (fun k_ => (P0_ k_ ∨ w.heap.size ≤ k_)) u9000_ r2 ∧ Below w0.heap.size w0 w' ∧ Kept w w' (fun k_ => P0_ k_) := by
 have HO0 := Aside0.mk (show Kd.R k98 98 w w0.heap.size (fun k_ => (P0_ k_ ∨ w.heap.size ≤ k_)) u9000_ l0 from Kd.R_mono ho0 (fun k_ hk => (.inl hk)))
 have HK := Aside0.mk (Kept.refl w (fun k_ => P0_ k_))
 have HW0 := Aside0.mk hB.size
 have HB := Aside0.mk hB
 clear hB
 have H : (laws_markAttrS.l0 k l0 a1 0) = some (r1, r2) := h
 clear h
 have H' := Aside0.mk H
 clear H
 go_enter Try.func60, Try.ntmps60
 go_wp2
 go_loopg [1, 5] k (fun kq v1 v5 w' => ∃ (x0_1 : List (S98)) (x1_1 : Int) (x5_1 : Int), v1 = .int .i64 x1_1 ∧ v5 = .int .i64 x5_1 ∧ Aside0 (laws_markAttrS.l0 kq x0_1 x1_1 x5_1 = some (r1, r2)) ∧ Aside0 (kq ≤ k) ∧ Aside0 (Kd.R k98 98 w' w0.heap.size (fun k_ => (P0_ k_ ∨ w.heap.size ≤ k_)) u9000_ x0_1) ∧ Aside0 (Kept w w' (fun k_ => P0_ k_)) ∧ Aside0 (Below w0.heap.size w0 w'))
 case atStart => exact ⟨(l0), (a1), (0), (by first | rfl | (simp; done) | (simp [*]; done)), (by first | rfl | (simp; done) | (simp [*]; done)), H', ⟨Nat.le_refl _⟩, ⟨by (with_reducible repeat (first | apply Kd.R_alloc | apply Kd.R_drewN | apply Kd.R_drew)); exact HO0.out⟩, ⟨by repeat (first | exact HK.out | apply Kept.alloc | apply Kept.drewN | apply Kept.drew)⟩, ⟨by repeat (first | exact HB.out | apply below_alloc | apply pw_below_drewN | apply below_drew1)⟩⟩
 case round =>
  clear H'
  try clear p2
  obtain ⟨x0_1, x1_1, x5_1, rfl, rfl, HA, HK1, HO_0, HK, HB⟩ := hrel
  cases gk with
  | zero => exact absurd HA.out (by simp [laws_markAttrS.l0])
  | succ k1 =>
   have H := HA.out
   clear HA
   simp only [laws_markAttrS.l0] at H
   by_cases c3 : x5_1 < (x0_1.length : Int)
   · rw [if_pos c3] at H
     have c3b0 : decide (x5_1 < (x0_1.length : Int)) = true := decide_eq_true c3
     clear c3
     replace H := Option.bind_eq_some_iff.mp H
     obtain ⟨t101, A40, H⟩ := H
     replace H : (if 0 ≤ x5_1 then ((some (x0_1.set (x5_1 : Int).toNat (⟨t101, (rd_T98 x0_1 x5_1).f1⟩ : S98) : List (S98))).bind fun y102 => ((laws_markText.f k1 (wrap64 (x1_1 + 1))).bind fun t103 => (laws_markAttrS.l0 k1 (y102.set (x5_1 : Int).toNat (⟨(rd_T98 y102 x5_1).f0, t103⟩ : S98)) (wrap64 ((wrap64 (x1_1 + 1)) + 1)) (wrap64 (x5_1 + 1))))) else (none)) = some (r1, r2) := H
     have A4 := Aside0.mk A40
     clear A40
     by_cases c5 : 0 ≤ x5_1
     · rw [if_pos c5] at H
       have c5b0 : decide (0 ≤ x5_1) = true := decide_eq_true c5
       clear c5
       obtain ⟨y102, hy102⟩ : ∃ y_ : List (S98), y_ = (x0_1.set (x5_1 : Int).toNat (⟨t101, (rd_T98 x0_1 x5_1).f1⟩ : S98)) := ⟨_, rfl⟩
       replace H : ((laws_markText.f k1 (wrap64 (x1_1 + 1))).bind fun t103 => (laws_markAttrS.l0 k1 (y102.set (x5_1 : Int).toNat (⟨(rd_T98 y102 x5_1).f0, t103⟩ : S98)) (wrap64 ((wrap64 (x1_1 + 1)) + 1)) (wrap64 (x5_1 + 1)))) = some (r1, r2) := by first | (rw [hy102]; with_reducible exact H) | (have H2_ := (Option.bind_some _ _).symm.trans H; rw [hy102]; with_reducible exact H2_) | (have H2_ := (Option.bind_some _ _).symm.trans H; with_reducible exact H2_) | with_reducible exact H | (rw [hy102]; exact H) | exact H
       have Ny102 := Aside0.mk hy102
       clear hy102
       replace H := Option.bind_eq_some_iff.mp H
       obtain ⟨t103, A70, H⟩ := H
       replace H : (laws_markAttrS.l0 k1 (y102.set (x5_1 : Int).toNat (⟨(rd_T98 y102 x5_1).f0, t103⟩ : S98)) (wrap64 ((wrap64 (x1_1 + 1)) + 1)) (wrap64 (x5_1 + 1))) = some (r1, r2) := H
       have A7 := Aside0.mk A70
       clear A70
       obtain ⟨y104, hy104⟩ : ∃ y_ : List (S98), y_ = (y102.set (x5_1 : Int).toNat (⟨(rd_T98 y102 x5_1).f0, t103⟩ : S98)) := ⟨_, rfl⟩
       replace H : (laws_markAttrS.l0 k1 y104 (wrap64 ((wrap64 (x1_1 + 1)) + 1)) (wrap64 (x5_1 + 1))) = some (r1, r2) := by first | (rw [hy104]; with_reducible exact H) | (have H2_ := (Option.bind_some _ _).symm.trans H; rw [hy104]; with_reducible exact H2_) | (have H2_ := (Option.bind_some _ _).symm.trans H; with_reducible exact H2_) | with_reducible exact H | (rw [hy104]; exact H) | exact H
       have Ny104 := Aside0.mk hy104
       clear hy104
       have H' := Aside0.mk H
       clear H
       obtain ⟨Ao9, co9, eo9⟩ := Kd.R_slice HO_0.out
       subst eo9
       go_wp2_with (first | ((with_reducible refine gate_callee (f := 92) rfl ?_); refine goesL_ (some 15) rfl rfl Try.func92 (by kernel_rfl) rfl #[.int .i64 x1_1] rfl (by (try simp only [List.map_toArray, List.map_cons, List.map_nil]); first | done | rfl | (simp only [List.length_drop, List.length_take]; rfl)) ?_; (with_reducible refine (laws_markText.calls k1 x1_1 t101 _ A4.out).mono ?_); rintro e w10 ⟨rfl, hb⟩; refine ⟨_, rfl, ?_⟩; have n0_ := Aside0.mk (Kd.R_below (by (with_reducible repeat (first | apply Kd.R_alloc | apply Kd.R_drewN | apply Kd.R_drew)); exact HO_0.out) hb); have n1_ := Aside0.mk (Kept.below (S := (fun k_ => P0_ k_)) (by repeat (first | exact HK.out | apply Kept.alloc | apply Kept.drewN | apply Kept.drew)) hb); have n2_ := Aside0.mk (below_step (by repeat (first | exact HB.out | apply below_alloc | apply pw_below_drewN | apply below_drew1)) hb); clear HO_0; clear HK; clear HB; have HO_0 := n0_; have HK := n1_; have HB := n2_; clear n0_ n1_ n2_; (try clear hb); (try clear hb2); (try clear hk); (try clear hi); have p6 : 0 ≤ (x5_1 : Int) := of_decide_eq_true (by assumption); have q6 : (x5_1 : Int) < ((x0_1.length : Int) : Int) := of_decide_eq_true (by assumption); obtain ⟨go6, co6, eo6, gb6, gl6, cl6, HG6⟩ := Kd.R_form HO_0.out (by omega); (first | cases eo6 | (injection eo6 with ea_ en_ ec_; (first | subst ea_ | (injection ea_ with ea_; subst ea_)); subst ec_; clear en_)); have GB6 := Aside0.mk gb6; have GG6 := Aside0.mk HG6; clear gb6 gl6 HG6; have HMgo6 := Aside0.mk (show (P0_ go6 ∨ w.heap.size ≤ go6) from (HO_0.out.1 _ rfl)); obtain ⟨ce6, hcl6, hM6, hcc6, hfr6⟩ := Kd.R_elem HO_0.out z98 (x5_1 : Int) p6 q6; obtain rfl := k98_openM hM6; have hx6_0 : w10.cell? ⟨go6, (x5_1 : Int).toNat * 2, none⟩ = some (.string ((rd_T98 x0_1 x5_1).f0)) := hcc6 0 _ rfl; have hx6_1 : w10.cell? ⟨go6, (x5_1 : Int).toNat * 2 + 1, none⟩ = some (.string ((rd_T98 x0_1 x5_1).f1)) := hcc6 1 _ rfl; have hf6_0 : w10.frozen? ⟨go6, (x5_1 : Int).toNat * 2, none⟩ = false := hfr6 0; have hf6_1 : w10.frozen? ⟨go6, (x5_1 : Int).toNat * 2 + 1, none⟩ = false := hfr6 1; clear hcl6 hcc6 hfr6 hM6; replace p6 := eq_true p6; replace q6 := eq_true q6; have HX11 := Aside0.mk (show Kd.R k98 98 w10 w0.heap.size (fun k_ => (P0_ k_ ∨ w.heap.size ≤ k_)) (.slice (some ⟨go6, 0, none⟩) x0_1.length co9) x0_1 from (by (with_reducible repeat (first | apply Kd.R_alloc | apply Kd.R_drewN | apply Kd.R_drew)); exact HO_0.out)); obtain ⟨ce11, hcl11, hM11, hcc11, hfr11⟩ := Kd.R_elem HX11.out z98 (x5_1 : Int) (of_decide_eq_true (by assumption)) (by have h_ : (x5_1 : Int) < ((x0_1.length : Int) : Int) := of_decide_eq_true (by assumption); first | exact h_ | (have e_ := (Kd.R_reads' HO_0.out).1; omega) | simpa using h_); obtain rfl := k98_openM hM11; have HP11 := Kd.R_seg HX11.out (x5_1 : Int) (of_decide_eq_true (by assumption)) (by have h_ : (x5_1 : Int) < ((x0_1.length : Int) : Int) := of_decide_eq_true (by assumption); first | exact h_ | (have e_ := (Kd.R_reads' HO_0.out).1; omega) | simpa using h_) (seg := [.string t101]) (j := 0) hcl11 hcc11 (show 1 ≤ 2 from by decide) (x' := (⟨t101, (rd_T98 x0_1 x5_1).f1⟩ : S98)) (k98_mkM _ _ _ (⟨t101, (rd_T98 x0_1 x5_1).f1⟩ : S98) ) (fun _ hk => hk); have hx11_0 := hcc11 0 _ rfl; (try simp only [show (k98).sz = 2 from rfl, Nat.mul_one, Nat.add_zero] at hx11_0); have hf11_0 := hfr11 0; (try simp only [show (k98).sz = 2 from rfl, Nat.mul_one, Nat.add_zero] at hf11_0); clear hcl11 hcc11 hfr11 hM11) | ((with_reducible refine gate_store (t := 9) (p := 17) rfl ?_); refine store_event (t := 9) (p := 17) (v := ?vo_w12) (w1 := (w10.setCell ⟨go6, (x5_1 : Int).toNat * 2, none⟩ (.string t101))) ?hg ?ho ?hn ?hr ?_; (case ho => rfl); (case hg => rfl); (case hn => rfl); (case hr => first | (go_simp; done) | (go_simp; rfl)); intro w12 hw; have hg : w10.grownBy w12 (some go6) := (by rw [hw]; exact HP11.2); have hp_ : Kd.R k98 98 w12 w0.heap.size (fun k_ => (P0_ k_ ∨ w.heap.size ≤ k_)) (.slice (some ⟨go6, 0, none⟩) x0_1.length co9) y102 := (by rw [hw, Ny102.out]; exact HP11.1); clear HP11; have n0_ := Aside0.mk (hp_); have n1_ := Aside0.mk ((by rw [hw]; exact below_set (HB.out) GB6.out : Below w0.heap.size w0 w12)); have n2_ := Aside0.mk (Kept.of_grown (S := (fun k_ => P0_ k_)) hg (by repeat (first | exact HK.out | apply Kept.alloc | apply Kept.drewN | apply Kept.drew)) (fun k_ e_ => (HO_0.out.1 k_ e_))); clear HO_0; clear HB; clear HK; have HO_0 := n0_; have HB := n1_; have HK := n2_; clear n0_ n1_ n2_; clear hg hw hp_) | ((with_reducible refine gate_callee (f := 92) rfl ?_); refine goesL_ (some 23) rfl rfl Try.func92 (by kernel_rfl) rfl #[.int .i64 (wrap64 (x1_1 + 1))] rfl (by (try simp only [List.map_toArray, List.map_cons, List.map_nil]); first | done | rfl | (simp only [List.length_drop, List.length_take]; rfl)) ?_; (with_reducible refine (laws_markText.calls k1 (wrap64 (x1_1 + 1)) t103 _ A7.out).mono ?_); rintro e w13 ⟨rfl, hb⟩; refine ⟨_, rfl, ?_⟩; have n0_ := Aside0.mk (Kd.R_below (by (with_reducible repeat (first | apply Kd.R_alloc | apply Kd.R_drewN | apply Kd.R_drew)); exact HO_0.out) hb); have n1_ := Aside0.mk (Kept.below (S := (fun k_ => P0_ k_)) (by repeat (first | exact HK.out | apply Kept.alloc | apply Kept.drewN | apply Kept.drew)) hb); have n2_ := Aside0.mk (below_step (by repeat (first | exact HB.out | apply below_alloc | apply pw_below_drewN | apply below_drew1)) hb); clear HO_0; clear HK; clear HB; have HO_0 := n0_; have HK := n1_; have HB := n2_; clear n0_ n1_ n2_; (try clear hb); (try clear hb2); (try clear hk); (try clear hi); have p8 : 0 ≤ (x5_1 : Int) := of_decide_eq_true (by assumption); have q8 : (x5_1 : Int) < ((x0_1.length : Int) : Int) := of_decide_eq_true (by assumption); obtain ⟨ce8, hcl8, hM8, hcc8, hfr8⟩ := Kd.R_elem HO_0.out z98 (x5_1 : Int) p8 q8; obtain rfl := k98_openM hM8; have hx8_0 : w13.cell? ⟨go6, (x5_1 : Int).toNat * 2, none⟩ = some (.string ((rd_T98 y102 x5_1).f0)) := hcc8 0 _ rfl; have hx8_1 : w13.cell? ⟨go6, (x5_1 : Int).toNat * 2 + 1, none⟩ = some (.string ((rd_T98 y102 x5_1).f1)) := hcc8 1 _ rfl; have hf8_0 : w13.frozen? ⟨go6, (x5_1 : Int).toNat * 2, none⟩ = false := hfr8 0; have hf8_1 : w13.frozen? ⟨go6, (x5_1 : Int).toNat * 2 + 1, none⟩ = false := hfr8 1; clear hcl8 hcc8 hfr8 hM8; replace p8 := eq_true p8; replace q8 := eq_true q8; have HX14 := Aside0.mk (show Kd.R k98 98 w13 w0.heap.size (fun k_ => (P0_ k_ ∨ w.heap.size ≤ k_)) (.slice (some ⟨go6, 0, none⟩) x0_1.length co9) y102 from (by (with_reducible repeat (first | apply Kd.R_alloc | apply Kd.R_drewN | apply Kd.R_drew)); exact HO_0.out)); obtain ⟨ce14, hcl14, hM14, hcc14, hfr14⟩ := Kd.R_elem HX14.out z98 (x5_1 : Int) (of_decide_eq_true (by assumption)) (by have h_ : (x5_1 : Int) < ((x0_1.length : Int) : Int) := of_decide_eq_true (by assumption); first | exact h_ | (have e_ := (Kd.R_reads' HO_0.out).1; omega) | simpa using h_); obtain rfl := k98_openM hM14; have HP14 := Kd.R_seg HX14.out (x5_1 : Int) (of_decide_eq_true (by assumption)) (by have h_ : (x5_1 : Int) < ((x0_1.length : Int) : Int) := of_decide_eq_true (by assumption); first | exact h_ | (have e_ := (Kd.R_reads' HO_0.out).1; omega) | simpa using h_) (seg := [.string t103]) (j := 1) hcl14 hcc14 (show 2 ≤ 2 from by decide) (x' := (⟨(rd_T98 y102 x5_1).f0, t103⟩ : S98)) (k98_mkM _ _ _ (⟨(rd_T98 y102 x5_1).f0, t103⟩ : S98) ) (fun _ hk => hk); have hx14_1 := hcc14 1 _ rfl; (try simp only [show (k98).sz = 2 from rfl, Nat.mul_one, Nat.add_zero] at hx14_1); have hf14_1 := hfr14 1; (try simp only [show (k98).sz = 2 from rfl, Nat.mul_one, Nat.add_zero] at hf14_1); clear hcl14 hcc14 hfr14 hM14) | ((with_reducible refine gate_store (t := 9) (p := 25) rfl ?_); refine store_event (t := 9) (p := 25) (v := ?vo_w15) (w1 := (w13.setCell ⟨go6, (x5_1 : Int).toNat * 2 + 1, none⟩ (.string t103))) ?hg ?ho ?hn ?hr ?_; (case ho => rfl); (case hg => rfl); (case hn => rfl); (case hr => first | (go_simp; done) | (go_simp; rfl)); intro w15 hw; have hg : w13.grownBy w15 (some go6) := (by rw [hw]; exact HP14.2); have hp_ : Kd.R k98 98 w15 w0.heap.size (fun k_ => (P0_ k_ ∨ w.heap.size ≤ k_)) (.slice (some ⟨go6, 0, none⟩) x0_1.length co9) y104 := (by rw [hw, Ny104.out]; exact HP14.1); clear HP14; have n0_ := Aside0.mk (hp_); have n1_ := Aside0.mk ((by rw [hw]; exact below_set (HB.out) GB6.out : Below w0.heap.size w0 w15)); have n2_ := Aside0.mk (Kept.of_grown (S := (fun k_ => P0_ k_)) hg (by repeat (first | exact HK.out | apply Kept.alloc | apply Kept.drewN | apply Kept.drew)) (fun k_ e_ => (HO_0.out.1 k_ e_))); clear HO_0; clear HB; clear HK; have HO_0 := n0_; have HB := n1_; have HK := n2_; clear n0_ n1_ n2_; clear hg hw hp_))
       go_roundg k1
       case measure => have := HK1.out; omega
       case rel => exact ⟨(y104), (wrap64 ((wrap64 (x1_1 + 1)) + 1)), (wrap64 (x5_1 + 1)), (by first | rfl | (simp; done) | (simp [*]; done)), (by first | rfl | (simp; done) | (simp [*]; done)), H', ⟨by have := HK1.out; omega⟩, ⟨by (with_reducible repeat (first | apply Kd.R_alloc | apply Kd.R_drewN | apply Kd.R_drew)); exact HO_0.out⟩, ⟨by repeat (first | exact HK.out | apply Kept.alloc | apply Kept.drewN | apply Kept.drew)⟩, ⟨by repeat (first | exact HB.out | apply below_alloc | apply pw_below_drewN | apply below_drew1)⟩⟩
     · rw [if_neg c5] at H
       exact absurd H (by simp)
   · rw [if_neg c3] at H
     have c3b0 : decide (x5_1 < (x0_1.length : Int)) = false := decide_eq_false c3
     clear c3
     simp only [Option.some.injEq, Prod.mk.injEq] at H
     obtain ⟨rfl, rfl⟩ := H
     obtain ⟨Ao16, co16, eo16⟩ := Kd.R_slice HO_0.out
     subst eo16
     go_wp2
     go_ret
     exact ⟨by first | rfl | (simp [*] <;> rfl), by (with_reducible repeat (first | apply Kd.R_alloc | apply Kd.R_drewN | apply Kd.R_drew)); exact HO_0.out, by repeat (first | exact HB.out | apply below_alloc | apply pw_below_drewN | apply below_drew1), by repeat (first | exact HK.out | apply Kept.alloc | apply Kept.drewN | apply Kept.drew)⟩
def laws_markIntS.l0 : Nat → List Int → Int → Int → Option (Int × List Int)
 | 0, _, _, _ => none
 | k + 1, x0, x1, x5 => if x5 < (x0.length : Int) then (if 0 ≤ x5 then (laws_markIntS.l0 k (x0.set (x5 : Int).toNat x1) (wrap64 (x1 + 1)) (wrap64 (x5 + 1))) else (none)) else (some (x1, x0))
def laws_markIntS.f (k : Nat) (l0 : List Int) (a1 : Int) : Option (Int × List Int) := laws_markIntS.l0 k l0 a1 0
theorem laws_markIntS.mono_l : ∀ k, (∀ y0 y1 y2, LeO (laws_markIntS.l0 k y0 y1 y2) (laws_markIntS.l0 (k + 1) y0 y1 y2))
 | 0 => fun _ _ _ r h => by simp [laws_markIntS.l0] at h
 | k + 1 => by
  have ih0 := laws_markIntS.mono_l k
  · intro y0 y1 y2
    unfold laws_markIntS.l0
    repeat' first
    | (with_reducible exact ih0 _ _ _)
    | (with_reducible exact LeO.refl _)
    | (with_reducible exact LeO.none _)
    | (with_reducible refine LeO.ite ?_ ?_)
    | (with_reducible refine LeO.bind ?_ (fun _ => ?_))
    | exact ih0 _ _ _
    | exact LeO.none _
    | refine LeO.ite ?_ ?_
    | refine LeO.bind ?_ (fun _ => ?_)
theorem laws_markIntS.mono : ∀ a0 a1 k, LeO (laws_markIntS.f k a0 a1) (laws_markIntS.f (k + 1) a0 a1) := by
 intro a0 a1 k
 have ih0 := laws_markIntS.mono_l k
 unfold laws_markIntS.f
 repeat' first
  | (with_reducible exact ih0 _ _ _)
  | (with_reducible exact LeO.refl _)
  | (with_reducible exact LeO.none _)
  | (with_reducible refine LeO.ite ?_ ?_)
  | (with_reducible refine LeO.bind ?_ (fun _ => ?_))
  | exact ih0 _ _ _
  | exact LeO.none _
  | refine LeO.ite ?_ ?_
  | refine LeO.bind ?_ (fun _ => ?_)
set_option maxHeartbeats 8000000 in
set_option maxRecDepth 100000 in
theorem laws_markIntS.calls (k : Nat) (P0_ : Nat → Prop) (u9000_ : Value) (l0 : List Int) (a1 : Int) (r1 : Int) (r2 : List Int) (w0 w : World) (hB : Below w0.heap.size w0 w) (ho0 : Kd.R (Kd.int .i64) 3 w w0.heap.size P0_ u9000_ l0) (h : laws_markIntS.f k l0 a1 = some (r1, r2)) :
 Calls Try.prog 61 #[u9000_, .int .i64 a1] w fun e w' => e = .returned (.int .i64 r1) ∧ Kd.R (Kd.int .i64) 3 w' w0.heap.size (fun k_ => (P0_ k_ ∨ w.heap.size ≤ k_)) u9000_ r2 ∧ Below w0.heap.size w0 w' ∧ Kept w w' (fun k_ => P0_ k_) := by
 have HO0 := Aside0.mk (show Kd.R (Kd.int .i64) 3 w w0.heap.size (fun k_ => (P0_ k_ ∨ w.heap.size ≤ k_)) u9000_ l0 from Kd.R_mono ho0 (fun k_ hk => (.inl hk)))
 have HK := Aside0.mk (Kept.refl w (fun k_ => P0_ k_))
 have HW0 := Aside0.mk hB.size
 have HB := Aside0.mk hB
 clear hB
 have H : (laws_markIntS.l0 k l0 a1 0) = some (r1, r2) := h
 clear h
 have H' := Aside0.mk H
 clear H
 go_enter Try.func61, Try.ntmps61
 go_wp2
 go_loopg [1, 5] k (fun kq v1 v5 w' => ∃ (x0_1 : List Int) (x1_1 : Int) (x5_1 : Int), v1 = .int .i64 x1_1 ∧ v5 = .int .i64 x5_1 ∧ Aside0 (laws_markIntS.l0 kq x0_1 x1_1 x5_1 = some (r1, r2)) ∧ Aside0 (kq ≤ k) ∧ Aside0 (Kd.R (Kd.int .i64) 3 w' w0.heap.size (fun k_ => (P0_ k_ ∨ w.heap.size ≤ k_)) u9000_ x0_1) ∧ Aside0 (Kept w w' (fun k_ => P0_ k_)) ∧ Aside0 (Below w0.heap.size w0 w'))
 case atStart => exact ⟨(l0), (a1), (0), (by first | rfl | (simp; done) | (simp [*]; done)), (by first | rfl | (simp; done) | (simp [*]; done)), H', ⟨Nat.le_refl _⟩, ⟨by (with_reducible repeat (first | apply Kd.R_alloc | apply Kd.R_drewN | apply Kd.R_drew)); exact HO0.out⟩, ⟨by repeat (first | exact HK.out | apply Kept.alloc | apply Kept.drewN | apply Kept.drew)⟩, ⟨by repeat (first | exact HB.out | apply below_alloc | apply pw_below_drewN | apply below_drew1)⟩⟩
 case round =>
  clear H'
  try clear p2
  obtain ⟨x0_1, x1_1, x5_1, rfl, rfl, HA, HK1, HO_0, HK, HB⟩ := hrel
  cases gk with
  | zero => exact absurd HA.out (by simp [laws_markIntS.l0])
  | succ k1 =>
   have H := HA.out
   clear HA
   simp only [laws_markIntS.l0] at H
   by_cases c3 : x5_1 < (x0_1.length : Int)
   · rw [if_pos c3] at H
     have c3b0 : decide (x5_1 < (x0_1.length : Int)) = true := decide_eq_true c3
     clear c3
     by_cases c4 : 0 ≤ x5_1
     · rw [if_pos c4] at H
       have c4b0 : decide (0 ≤ x5_1) = true := decide_eq_true c4
       clear c4
       obtain ⟨y101, hy101⟩ : ∃ y_ : List Int, y_ = (x0_1.set (x5_1 : Int).toNat x1_1) := ⟨_, rfl⟩
       replace H : (laws_markIntS.l0 k1 y101 (wrap64 (x1_1 + 1)) (wrap64 (x5_1 + 1))) = some (r1, r2) := by first | (rw [hy101]; with_reducible exact H) | (have H2_ := (Option.bind_some _ _).symm.trans H; rw [hy101]; with_reducible exact H2_) | (have H2_ := (Option.bind_some _ _).symm.trans H; with_reducible exact H2_) | with_reducible exact H | (rw [hy101]; exact H) | exact H
       have Ny101 := Aside0.mk hy101
       clear hy101
       have H' := Aside0.mk H
       clear H
       obtain ⟨Ao6, co6, eo6⟩ := Kd.R_slice HO_0.out
       subst eo6
       have p5 : 0 ≤ (x5_1 : Int) := of_decide_eq_true (by assumption)
       have q5 : (x5_1 : Int) < ((x0_1.length : Int) : Int) := of_decide_eq_true (by assumption)
       obtain ⟨go5, co5, eo5, gb5, gl5, cl5, HG5⟩ := Kd.R_form HO_0.out (by omega)
       (first | cases eo5 | (injection eo5 with ea_ en_ ec_; (first | subst ea_ | (injection ea_ with ea_; subst ea_)); subst ec_; clear en_))
       have GB5 := Aside0.mk gb5
       have GG5 := Aside0.mk HG5
       clear gb5 gl5 HG5
       have HMgo5 := Aside0.mk (show (P0_ go5 ∨ w.heap.size ≤ go5) from (HO_0.out.1 _ rfl))
       obtain ⟨hx5_0, hf5_0⟩ := Kd.R_celln 0 HO_0.out (x5_1 : Int) p5 q5
       replace p5 := eq_true p5
       replace q5 := eq_true q5
       have HP7 := Kd.R_putg HO_0.out (x5_1 : Int) x1_1
       go_wp2_with (first | ((with_reducible refine gate_store (t := 3) (p := 15) rfl ?_); refine store_event (t := 3) (p := 15) (v := ?vo_w8) (w1 := (wr.setCell ⟨go5, (x5_1 : Int).toNat, none⟩ (.int .i64 x1_1))) ?hg ?ho ?hn ?hr ?_; (case ho => rfl); (case hg => rfl); (case hn => rfl); (case hr => first | (go_simp; done) | (go_simp; rfl)); intro w8 hw; have hg : wr.grownBy w8 (some go5) := (by rw [hw]; exact HP7.2); have hp_ : Kd.R (Kd.int .i64) 3 w8 w0.heap.size (fun k_ => (P0_ k_ ∨ w.heap.size ≤ k_)) (.slice (some ⟨go5, 0, none⟩) x0_1.length co6) y101 := (by rw [hw, Ny101.out]; exact HP7.1); clear HP7; have n0_ := Aside0.mk (hp_); have n1_ := Aside0.mk ((by rw [hw]; exact below_set (HB.out) GB5.out : Below w0.heap.size w0 w8)); have n2_ := Aside0.mk (Kept.of_grown (S := (fun k_ => P0_ k_)) hg (by repeat (first | exact HK.out | apply Kept.alloc | apply Kept.drewN | apply Kept.drew)) (fun k_ e_ => (HO_0.out.1 k_ e_))); clear HO_0; clear HB; clear HK; have HO_0 := n0_; have HB := n1_; have HK := n2_; clear n0_ n1_ n2_; clear hg hw hp_))
       go_roundg k1
       case measure => have := HK1.out; omega
       case rel => exact ⟨(y101), (wrap64 (x1_1 + 1)), (wrap64 (x5_1 + 1)), (by first | rfl | (simp; done) | (simp [*]; done)), (by first | rfl | (simp; done) | (simp [*]; done)), H', ⟨by have := HK1.out; omega⟩, ⟨by (with_reducible repeat (first | apply Kd.R_alloc | apply Kd.R_drewN | apply Kd.R_drew)); exact HO_0.out⟩, ⟨by repeat (first | exact HK.out | apply Kept.alloc | apply Kept.drewN | apply Kept.drew)⟩, ⟨by repeat (first | exact HB.out | apply below_alloc | apply pw_below_drewN | apply below_drew1)⟩⟩
     · rw [if_neg c4] at H
       exact absurd H (by simp)
   · rw [if_neg c3] at H
     have c3b0 : decide (x5_1 < (x0_1.length : Int)) = false := decide_eq_false c3
     clear c3
     simp only [Option.some.injEq, Prod.mk.injEq] at H
     obtain ⟨rfl, rfl⟩ := H
     obtain ⟨Ao9, co9, eo9⟩ := Kd.R_slice HO_0.out
     subst eo9
     go_wp2
     go_ret
     exact ⟨by first | rfl | (simp [*] <;> rfl), by (with_reducible repeat (first | apply Kd.R_alloc | apply Kd.R_drewN | apply Kd.R_drew)); exact HO_0.out, by repeat (first | exact HB.out | apply below_alloc | apply pw_below_drewN | apply below_drew1), by repeat (first | exact HK.out | apply Kept.alloc | apply Kept.drewN | apply Kept.drew)⟩
def laws_markNodeS.l0 : Nat → List S45 → Int → Int → Option (Int × List S45)
 | 0, _, _, _ => none
 | k + 1, x0, x1, x5 => if x5 < (x0.length : Int) then (if 0 ≤ x5 then ((laws_markText.f k (wrap64 (x1 + 1))).bind fun s1 => ((laws_markAttrS.f k ((rd_T45 x0 x5).f2) (wrap64 ((wrap64 (x1 + 1)) + 1))).bind fun b2 => ((laws_markText.f k b2.1).bind fun s3 => ((laws_markIntS.f k ((rd_T45 x0 x5).f5) (wrap64 ((wrap64 (b2.1 + 1)) + 1))).bind fun b5 => laws_markNodeS.l0 k (x0.set x5.toNat ⟨x1, s1, b2.2, s3, wrap64 (b2.1 + 1), b5.2⟩) b5.1 (wrap64 (x5 + 1)))))) else none) else some (x1, x0)
def laws_markNodeS.f (k : Nat) (l0 : List S45) (a1 : Int) : Option (Int × List S45) := laws_markNodeS.l0 k l0 a1 0
theorem laws_markNodeS.mono_l : ∀ k, (∀ y0 y1 y2, LeO (laws_markNodeS.l0 k y0 y1 y2) (laws_markNodeS.l0 (k + 1) y0 y1 y2))
 | 0 => fun _ _ _ r h => by simp [laws_markNodeS.l0] at h
 | k + 1 => by
  have ih := laws_markNodeS.mono_l k
  intro y0 y1 y2
  rw [laws_markNodeS.l0, laws_markNodeS.l0]
  exact LeO.ite (LeO.ite (LeO.bind (laws_markText.mono _ _) (fun _ => LeO.bind (laws_markAttrS.mono _ _ _) (fun _ => LeO.bind (laws_markText.mono _ _) (fun _ => LeO.bind (laws_markIntS.mono _ _ _) (fun _ => ih _ _ _))))) (LeO.refl _)) (LeO.refl _)
theorem laws_markNodeS.mono : ∀ a0 a1 k, LeO (laws_markNodeS.f k a0 a1) (laws_markNodeS.f (k + 1) a0 a1) := fun a0 a1 k => laws_markNodeS.mono_l k a0 a1 0
/-- Element i of the row of nodes lent: its cells are node x's, its inner rows v2 and v5. -/
structure NodeHeld (w0 w W : World) (P0 : Nat → Prop) (g n co : Nat) (xs : List S45) (i : Int) (oki : Nat → Prop) (x : S45) (v2 v5 : Value) : Prop where
 h0 : 0 ≤ i
 h1 : i < n
 low : Below w0.heap.size w0 W
 kept : Kept w W P0
 oki_ : ∀ k, oki k → (P0 k ∨ w.heap.size ≤ k) ∧ k ≠ g
 gb : w0.heap.size ≤ g ∧ (P0 g ∨ w.heap.size ≤ g)
 hole : Kd.H k45 45 W w0.heap.size (fun k => P0 k ∨ w.heap.size ≤ k) (.slice (some ⟨g, 0, none⟩) n co) xs i oki [.int .i64 x.f0, .string x.f1, v2, .string x.f3, .int .i64 x.f4, v5]
 r2 : Kd.R k98 98 W w0.heap.size oki v2 x.f2
 r5 : Kd.R (Kd.int .i64) 3 W w0.heap.size oki v5 x.f5
section
variable {w0 w W W2 : World} {P0 : Nat → Prop} {g n co : Nat} {xs : List S45} {i : Int} {oki : Nat → Prop} {x : S45} {v2 v5 : Value}
theorem NodeHeld.start (hb : Below w0.heap.size w0 W) (hk : Kept w W P0) (h : Kd.S k45 45 W w0.heap.size (fun k => P0 k ∨ w.heap.size ≤ k) (.slice (some ⟨g, 0, none⟩) n co) xs) (h0 : 0 ≤ i) (h1 : i < n) : ∃ oki v2 v5, NodeHeld w0 w W P0 g n co xs i oki (rd_T45 xs i) v2 v5 := by
 obtain ⟨oki, c, hcl, hM, hcc, hfr, hoki, hH⟩ := Kd.S_elem h z45 i h0 h1
 obtain ⟨v2, v5, rfl, g2, g5⟩ := k45_openM hM
 have hR := Kd.S_R h
 exact ⟨oki, v2, v5, h0, h1, hb, hk, hoki, ⟨Kd.R_base hR g rfl, hR.1 g rfl⟩, hH, g2, g5⟩
theorem NodeHeld.back (h : NodeHeld w0 w W P0 g n co xs i oki x v2 v5) : Kd.S k45 45 W w0.heap.size (fun k => P0 k ∨ w.heap.size ≤ k) (.slice (some ⟨g, 0, none⟩) n co) (xs.set i.toNat x) :=
 Kd.H_back h.hole (k45_mkM W w0.heap.size oki x h.r2 h.r5) (fun _ hk => hk)
theorem NodeHeld.below (h : NodeHeld w0 w W P0 g n co xs i oki x v2 v5) (hb : Below W.heap.size W W2) : NodeHeld w0 w W2 P0 g n co xs i oki x v2 v5 :=
 ⟨h.h0, h.h1, below_step h.low hb, h.kept.below hb, h.oki_, h.gb, Kd.H_below h.hole hb, Kd.R_below h.r2 hb, Kd.R_below h.r5 hb⟩
/-- Cells of the element: there, and not frozen. -/
theorem NodeHeld.cell (h : NodeHeld w0 w W P0 g n co xs i oki x v2 v5) (j : Nat) (u : Value) (hu : ([.int .i64 x.f0, .string x.f1, v2, .string x.f3, .int .i64 x.f4, v5] : List Value)[j]? = some u) : W.cell? ⟨g, i.toNat * 6 + j, none⟩ = some u := by
 obtain ⟨rows, _, hraw, hcl, hco, hcc, hback⟩ := Kd.H_raw h.hole h.h0 h.h1
 exact hcc j u hu
theorem NodeHeld.free (h : NodeHeld w0 w W P0 g n co xs i oki x v2 v5) (j : Nat) : W.frozen? ⟨g, i.toNat * 6 + j, none⟩ = false := by
 obtain ⟨_, _, _, _, hfr⟩ := Kd.R_elem (Kd.S_R h.back) z45 i h.h0 h.h1
 exact hfr j
/-- A cell of the element's own is written. -/
theorem NodeHeld.put (h : NodeHeld w0 w W P0 g n co xs i oki x v2 v5) (j : Nat) (u : Value) (hj : j < 6) (h1 : u.oneCell' = true) {x' : S45} (e2 : x'.f2 = x.f2) (e5 : x'.f5 = x.f5)
 (he : ([.int .i64 x.f0, .string x.f1, v2, .string x.f3, .int .i64 x.f4, v5] : List Value).take j ++ [u] ++ ([.int .i64 x.f0, .string x.f1, v2, .string x.f3, .int .i64 x.f4, v5] : List Value).drop (j + 1) = [.int .i64 x'.f0, .string x'.f1, v2, .string x'.f3, .int .i64 x'.f4, v5]) :
 NodeHeld w0 w (W.setCell ⟨g, i.toNat * 6 + j, none⟩ u) P0 g n co xs i oki x' v2 v5 := by
 obtain ⟨g1, g2⟩ := Kd.H_seg h.hole h.h0 h.h1 (seg := [u]) (j := j) (by show j + 1 ≤ 6; omega) (fun q hq => by rw [List.mem_singleton.1 hq]; exact h1)
 rw [show ([u] : List Value).length = 1 from rfl, he] at g1
 refine ⟨h.h0, h.h1, below_set h.low h.gb.1, Kept.setCell h.kept h.gb.2 _, h.oki_, h.gb, g1, ?_, ?_⟩
 · rw [e2]; exact Kd.R_far (p := ⟨g, i.toNat * 6 + j, none⟩) h.r2 (fun k hk => (h.oki_ k hk).2) u
 · rw [e5]; exact Kd.R_far (p := ⟨g, i.toNat * 6 + j, none⟩) h.r5 (fun k hk => (h.oki_ k hk).2) u
theorem NodeHeld.apart (h : NodeHeld w0 w W P0 g n co xs i oki x v2 v5) {k : Nat} (h2 : some k = v2.ownBlock) (h5 : some k = v5.ownBlock) : False := by
 obtain ⟨c2, e2⟩ := Kd.R_typed h.r2 k h2.symm
 obtain ⟨c5, e5⟩ := Kd.R_typed h.r5 k h5.symm
 rw [e2] at e5
 injection e5 with e5
 injection e5 with _ e5
 exact absurd e5 (by decide)
theorem NodeHeld.attrs (h : NodeHeld w0 w W P0 g n co xs i oki x v2 v5) {ys : List S98} (hy : Kd.R k98 98 W2 w0.heap.size (fun k => some k = v2.ownBlock ∨ W.heap.size ≤ k) v2 ys) (hb : Below w0.heap.size w0 W2) (hk : Kept W W2 (fun k => some k = v2.ownBlock)) : NodeHeld w0 w W2 P0 g n co xs i oki ⟨x.f0, x.f1, ys, x.f3, x.f4, x.f5⟩ v2 v5 :=
 ⟨h.h0, h.h1, hb, h.kept.then_ hk (fun k hs => (h.oki_ k (h.r2.1 k hs.symm)).1), h.oki_, h.gb, Kd.H_step h.hole (fun k _ hn hlt => hk.2 k hlt (fun e => hn (h.r2.1 k e.symm))), Kd.R_reok rfl hy (fun k e => h.r2.1 k e), Kd.R_reok rfl (Kd.R_kept (Kd.R_tight rfl h.r5) hk (fun k h5 h2 => h.apart h2 h5)) (fun k e => h.r5.1 k e)⟩
theorem NodeHeld.kids (h : NodeHeld w0 w W P0 g n co xs i oki x v2 v5) {ys : List Int} (hy : Kd.R (Kd.int .i64) 3 W2 w0.heap.size (fun k => some k = v5.ownBlock ∨ W.heap.size ≤ k) v5 ys) (hb : Below w0.heap.size w0 W2) (hk : Kept W W2 (fun k => some k = v5.ownBlock)) : NodeHeld w0 w W2 P0 g n co xs i oki ⟨x.f0, x.f1, x.f2, x.f3, x.f4, ys⟩ v2 v5 :=
 ⟨h.h0, h.h1, hb, h.kept.then_ hk (fun k hs => (h.oki_ k (h.r5.1 k hs.symm)).1), h.oki_, h.gb, Kd.H_step h.hole (fun k _ hn hlt => hk.2 k hlt (fun e => hn (h.r5.1 k e.symm))), Kd.R_reok rfl (Kd.R_kept (Kd.R_tight rfl h.r2) hk (fun k h2 h5 => h.apart h2 h5)) (fun k e => h.r2.1 k e), Kd.R_reok rfl hy (fun k e => h.r5.1 k e)⟩
end
set_option maxHeartbeats 8000000 in
set_option maxRecDepth 100000 in
theorem laws_markNodeS.calls (k : Nat) (P0_ : Nat → Prop) (u9000_ : Value) (l0 : List S45) (a1 : Int) (r1 : Int) (r2 : List S45) (w0 w : World) (hB : Below w0.heap.size w0 w) (ho0 : Kd.S k45 45 w w0.heap.size P0_ u9000_ l0) (h : laws_markNodeS.f k l0 a1 = some (r1, r2)) :
 Calls Try.prog 48 #[u9000_, .int .i64 a1] w fun e w' => e = .returned (.int .i64 r1) ∧ Kd.S k45 45 w' w0.heap.size (fun k_ => (P0_ k_ ∨ w.heap.size ≤ k_)) u9000_ r2 ∧ Below w0.heap.size w0 w' ∧ Kept w w' (fun k_ => P0_ k_) := by
 obtain ⟨Ao, co, eo⟩ := Kd.S_slice ho0
 subst eo
 have HO0 := Aside0.mk (show Kd.S k45 45 w w0.heap.size (fun k_ => (P0_ k_ ∨ w.heap.size ≤ k_)) _ l0 from Kd.S_mono ho0 (fun k_ hk => (.inl hk)))
 have HK := Aside0.mk (Kept.refl w (fun k_ => P0_ k_))
 have HB := Aside0.mk hB
 clear hB ho0
 have H' := Aside0.mk (show (laws_markNodeS.l0 k l0 a1 0) = some (r1, r2) from h)
 clear h
 go_enter Try.func48, Try.ntmps48
 go_wp2
 go_loopg [1, 5] k (fun kq v1 v5 w' => ∃ (x0_1 : List S45) (x1_1 : Int) (x5_1 : Int), v1 = .int .i64 x1_1 ∧ v5 = .int .i64 x5_1 ∧ Aside0 (laws_markNodeS.l0 kq x0_1 x1_1 x5_1 = some (r1, r2)) ∧ Aside0 (kq ≤ k) ∧ Aside0 (x0_1.length = l0.length) ∧ Aside0 (Kd.S k45 45 w' w0.heap.size (fun k_ => (P0_ k_ ∨ w.heap.size ≤ k_)) (.slice Ao l0.length co) x0_1) ∧ Aside0 (Kept w w' (fun k_ => P0_ k_)) ∧ Aside0 (Below w0.heap.size w0 w'))
 case atStart => exact ⟨l0, a1, 0, rfl, rfl, H', ⟨Nat.le_refl _⟩, ⟨rfl⟩, HO0, HK, HB⟩
 case round =>
  clear H' HO0 HK HB
  obtain ⟨x0_1, x1_1, x5_1, rfl, rfl, HA, HK1, HL, HO, HK, HB⟩ := hrel
  cases gk with
  | zero => exact absurd HA.out (by simp [laws_markNodeS.l0])
  | succ k1 =>
   have H := HA.out
   clear HA
   simp only [laws_markNodeS.l0] at H
   by_cases c3 : x5_1 < (x0_1.length : Int)
   · rw [if_pos c3] at H
     have c3l : x5_1 < (l0.length : Int) := by have := HL.out; omega
     have c3b0 : decide (x5_1 < (l0.length : Int)) = true := decide_eq_true c3l
     by_cases c4 : 0 ≤ x5_1
     · rw [if_pos c4] at H
       have c4b0 : decide (0 ≤ x5_1) = true := decide_eq_true c4
       replace H := Option.bind_eq_some_iff.mp H
       obtain ⟨s1, A1, H⟩ := H
       replace H := Option.bind_eq_some_iff.mp H
       obtain ⟨⟨n2, y2⟩, A2, H⟩ := H
       replace H := Option.bind_eq_some_iff.mp H
       obtain ⟨s3, A3, H⟩ := H
       replace H := Option.bind_eq_some_iff.mp H
       obtain ⟨⟨n5, y5⟩, A5, H⟩ := H
       replace A1 := Aside0.mk A1
       replace A2 := Aside0.mk A2
       replace A3 := Aside0.mk A3
       replace A5 := Aside0.mk A5
       have H' := Aside0.mk H
       clear H
       obtain ⟨g, c1, eo1, gb, gl, cl⟩ := Kd.S_form HO.out (by have := HL.out; omega)
       injection eo1 with ea en ec
       clear en
       subst ea
       subst ec
       obtain ⟨oki, v2, v5, NH0⟩ := NodeHeld.start HB.out HK.out HO.out c4 c3l
       have NH := Aside0.mk NH0
       clear NH0 HB HK HO cl gl gb c3
       replace c3l := eq_true c3l
       replace c4 := eq_true c4
       have hc0 : wr.cell? ⟨g, x5_1.toNat * 6, none⟩ = some _ := NH.out.cell 0 _ rfl
       have hf0 : wr.frozen? ⟨g, x5_1.toNat * 6, none⟩ = false := NH.out.free 0
       go_wp2_with (first
        | (go_at_call 92; (with_reducible refine (laws_markText.calls k1 (wrap64 (x1_1 + 1)) s1 _ A1.out).mono ?_); rintro e wA ⟨rfl, hb⟩; have NH1 := Aside0.mk ((NH.out.put 0 (.int .i64 x1_1) (by omega) rfl (x' := ⟨x1_1, (rd_T45 x0_1 x5_1).f1, (rd_T45 x0_1 x5_1).f2, (rd_T45 x0_1 x5_1).f3, (rd_T45 x0_1 x5_1).f4, (rd_T45 x0_1 x5_1).f5⟩) rfl rfl rfl).below hb); clear hb hc0 hf0 NH; have hc1 := NH1.out.cell 1 _ rfl; have hf1 := NH1.out.free 1; have NH1b := Aside0.mk (NH1.out.put 1 (.string s1) (by omega) rfl (x' := ⟨x1_1, s1, (rd_T45 x0_1 x5_1).f2, (rd_T45 x0_1 x5_1).f3, (rd_T45 x0_1 x5_1).f4, (rd_T45 x0_1 x5_1).f5⟩) rfl rfl rfl); have hc2 := NH1.out.cell 2 _ rfl; have hc2b := NH1b.out.cell 2 _ rfl)
        | (go_at_call 60; (with_reducible refine (laws_markAttrS.calls k1 (fun k_ => some k_ = v2.ownBlock) v2 _ _ n2 y2 w0 _ NH1b.out.low (Kd.R_tight rfl NH1b.out.r2) A2.out).mono ?_); rintro e wB ⟨rfl, hy, hb, hk⟩; have NH2 := Aside0.mk (NH1b.out.attrs hy hb hk); clear hy hb hk hc1 hf1 hc2 hc2b NH1 NH1b)
        | (go_at_call 92; (with_reducible refine (laws_markText.calls k1 n2 s3 _ A3.out).mono ?_); rintro e wC ⟨rfl, hb⟩; have NH3 := Aside0.mk (NH2.out.below hb); clear hb NH2; have hc3 := NH3.out.cell 3 _ rfl; have hf3 := NH3.out.free 3; have hc4 := NH3.out.cell 4 _ rfl; have hf4 := NH3.out.free 4; have hc5 := NH3.out.cell 5 _ rfl; have NH3b := Aside0.mk (NH3.out.put 3 (.string s3) (by omega) rfl (x' := ⟨x1_1, s1, y2, s3, (rd_T45 x0_1 x5_1).f4, (rd_T45 x0_1 x5_1).f5⟩) rfl rfl rfl); have hc4b := NH3b.out.cell 4 _ rfl; have hf4b := NH3b.out.free 4; have NH4 := Aside0.mk (NH3b.out.put 4 (.int .i64 (wrap64 (n2 + 1))) (by omega) rfl (x' := ⟨x1_1, s1, y2, s3, wrap64 (n2 + 1), (rd_T45 x0_1 x5_1).f5⟩) rfl rfl rfl); have hc5b := NH4.out.cell 5 _ rfl)
        | (go_at_call 61; (with_reducible refine (laws_markIntS.calls k1 (fun k_ => some k_ = v5.ownBlock) v5 _ _ n5 y5 w0 _ NH4.out.low (Kd.R_tight rfl NH4.out.r5) A5.out).mono ?_); rintro e wD ⟨rfl, hy, hb, hk⟩; have NH5 := Aside0.mk (NH4.out.kids hy hb hk); clear hy hb hk hc3 hf3 hc4 hf4 hc5 hc4b hf4b hc5b NH3 NH3b NH4))
       go_roundg k1
       case measure => have := HK1.out; omega
       case rel => exact ⟨_, n5, (wrap64 (x5_1 + 1)), (by first | rfl | (simp; done) | (simp [*]; done)), (by first | rfl | (simp; done) | (simp [*]; done)), H', ⟨by have := HK1.out; omega⟩, ⟨by rw [List.length_set]; exact HL.out⟩, ⟨NH5.out.back⟩, ⟨NH5.out.kept⟩, ⟨NH5.out.low⟩⟩
     · rw [if_neg c4] at H
       exact absurd H (by simp)
   · rw [if_neg c3] at H
     have c3b0 : decide (x5_1 < (l0.length : Int)) = false := decide_eq_false (by have := HL.out; omega)
     clear c3
     simp only [Option.some.injEq, Prod.mk.injEq] at H
     obtain ⟨rfl, rfl⟩ := H
     go_wp2
     go_ret
     exact ⟨by first | rfl | simp, HO.out, HB.out, HK.out⟩
def laws_markTree.f (k : Nat) (l0_0 : List S45) (a1 : Int) : Option (Int × List S45) := laws_markNodeS.f k l0_0 a1
theorem laws_markTree.mono : ∀ a0 a1 k, LeO (laws_markTree.f k a0 a1) (laws_markTree.f (k + 1) a0 a1) := fun a0 a1 k => laws_markNodeS.mono a0 a1 k
set_option maxHeartbeats 8000000 in
set_option maxRecDepth 100000 in
theorem laws_markTree.calls (k : Nat) (P0_0_ : Nat → Prop) (u9000_ : Value) (l0_0 : List S45) (a1 : Int) (r1 : Int) (r2 : List S45) (w0 w : World) (hB : Below w0.heap.size w0 w) (ho0_0 : Kd.S k45 45 w w0.heap.size P0_0_ u9000_ l0_0) (h : laws_markTree.f k l0_0 a1 = some (r1, r2)) :
 Calls Try.prog 19 #[.agg #[u9000_], .int .i64 a1] w fun e w' => e = .returned (.int .i64 r1) ∧ Kd.S k45 45 w' w0.heap.size (fun k_ => (P0_0_ k_ ∨ w.heap.size ≤ k_)) u9000_ r2 ∧ Below w0.heap.size w0 w' ∧ Kept w w' (fun k_ => P0_0_ k_) := by
 have HO := Aside0.mk ho0_0
 have HB := Aside0.mk hB
 have H := Aside0.mk (show laws_markNodeS.f k l0_0 a1 = some (r1, r2) from h)
 clear ho0_0 hB h
 have hu := Try.underlying29
 go_enter Try.func19, Try.ntmps19
 go_wp2_with (first | (go_at_call 48; (with_reducible refine (laws_markNodeS.calls k P0_0_ u9000_ l0_0 a1 r1 r2 w0 _ (below_alloc HB.out _) (Kd.S_alloc HO.out _) H.out).mono ?_); rintro e w' ⟨rfl, ho, hb, hk⟩; have HO2 := Aside0.mk ho; have HB2 := Aside0.mk hb; have HK2 := Aside0.mk hk; clear ho hb hk))
 go_ret
 exact ⟨rfl, Kd.S_mono HO2.out (fun k_ hk => hk.elim .inl (fun hk => .inr (Nat.le_trans (below_alloc (Below.refl w.heap.size w) _).size hk))), HB2.out, (Kept.alloc (Kept.refl w _) _).then_ HK2.out (fun _ hk => .inl hk)⟩
def laws_heldAttrS.l0 : Nat → List (S98) → Int → Int → Option (Int)
 | 0, _, _, _ => none
 | k + 1, x0, x1, x5 => if x5 < (x0.length : Int) then (if 0 ≤ x5 then ((laws_markText.f k x1).bind fun t102 => (if ((rd_T98 x0 x5).f0).toList = t102.toList then ((laws_markText.f k (wrap64 (x1 + 1))).bind fun t104 => (if ((rd_T98 x0 x5).f1).toList = t104.toList then (laws_heldAttrS.l0 k x0 (wrap64 ((wrap64 (x1 + 1)) + 1)) (wrap64 (x5 + 1))) else (some (-1)))) else (some (-1)))) else (none)) else (some x1)
def laws_heldAttrS.f (k : Nat) (l0 : List (S98)) (a1 : Int) : Option (Int) := laws_heldAttrS.l0 k l0 a1 0
theorem laws_heldAttrS.mono_l : ∀ k, (∀ y0 y1 y2, LeO (laws_heldAttrS.l0 k y0 y1 y2) (laws_heldAttrS.l0 (k + 1) y0 y1 y2))
 | 0 => fun _ _ _ r h => by simp [laws_heldAttrS.l0] at h
 | k + 1 => by
  have ih0 := laws_heldAttrS.mono_l k
  · intro y0 y1 y2
    unfold laws_heldAttrS.l0
    repeat' first
    | (with_reducible exact ih0 _ _ _)
    | (with_reducible exact laws_markText.mono _ _)
    | (with_reducible exact LeO.refl _)
    | (with_reducible exact LeO.none _)
    | (with_reducible refine LeO.ite ?_ ?_)
    | (with_reducible refine LeO.bind ?_ (fun _ => ?_))
    | exact ih0 _ _ _
    | exact laws_markText.mono _ _
    | exact LeO.none _
    | refine LeO.ite ?_ ?_
    | refine LeO.bind ?_ (fun _ => ?_)
theorem laws_heldAttrS.mono : ∀ a0 a1 k, LeO (laws_heldAttrS.f k a0 a1) (laws_heldAttrS.f (k + 1) a0 a1) := by
 intro a0 a1 k
 have ih0 := laws_heldAttrS.mono_l k
 unfold laws_heldAttrS.f
 repeat' first
  | (with_reducible exact ih0 _ _ _)
  | (with_reducible exact laws_markText.mono _ _)
  | (with_reducible exact LeO.refl _)
  | (with_reducible exact LeO.none _)
  | (with_reducible refine LeO.ite ?_ ?_)
  | (with_reducible refine LeO.bind ?_ (fun _ => ?_))
  | exact ih0 _ _ _
  | exact laws_markText.mono _ _
  | exact LeO.none _
  | refine LeO.ite ?_ ?_
  | refine LeO.bind ?_ (fun _ => ?_)
def laws_heldAttrS.T4 : Bool × List (List Nat × List Nat) := (true, [([], []), ([], []), ([0, 1], [0, 1]), ([2], [2]), ([3], [3]), ([], []), ([5], [5]), ([4, 6], [4, 6])])
def laws_heldAttrS.B4 : List Nat := [0, 0, 3, 7, 15, 0, 32, 127]
theorem laws_heldAttrS.tab4 : rtab .any (opsOf Try.f93 4) = laws_heldAttrS.T4 := by kernel_rfl
theorem laws_heldAttrS.bits4 : waitsOk laws_heldAttrS.T4.2 laws_heldAttrS.B4 = true := by kernel_rfl
def laws_heldAttrS.T7 : Bool × List (List Nat × List Nat) := (true, [([], []), ([], []), ([0, 1], [0, 1]), ([2], [2]), ([3], [3]), ([], []), ([5], [5]), ([4, 6], [4, 6])])
def laws_heldAttrS.B7 : List Nat := [0, 0, 3, 7, 15, 0, 32, 127]
theorem laws_heldAttrS.tab7 : rtab .any (opsOf Try.f93 7) = laws_heldAttrS.T7 := by kernel_rfl
theorem laws_heldAttrS.bits7 : waitsOk laws_heldAttrS.T7.2 laws_heldAttrS.B7 = true := by kernel_rfl
set_option maxHeartbeats 8000000 in
set_option maxRecDepth 100000 in
theorem laws_heldAttrS.calls (k : Nat) (A0 : Option Addr) (c0 : Nat) (l0 : List (S98)) (a1 : Int) (r : Int) (w : World) (hr0 : Kd.C k98 w A0 l0.length l0) (hc0 : l0.length ≤ c0) (h : laws_heldAttrS.f k l0 a1 = some r) :
 Calls Try.prog 93 #[.slice A0 l0.length c0, .int .i64 a1] w fun e w' => e = .returned (.int .i64 r) ∧ Below w.heap.size w w' := by
 have HR0 := Aside0.mk hr0
 have HC0 := Aside0.mk hc0
 clear hr0 hc0
 have HB := Aside0.mk (Below.refl w.heap.size w)
 have H : (laws_heldAttrS.l0 k l0 a1 0) = some r := h
 clear h
 have H' := Aside0.mk H
 clear H
 go_enter Try.func93, Try.ntmps93
 go_wp2
 go_loopg [1, 5] k (fun kq v1 v5 w' => ∃ (x1_1 : Int) (x5_1 : Int), v1 = .int .i64 x1_1 ∧ v5 = .int .i64 x5_1 ∧ Aside0 (laws_heldAttrS.l0 kq l0 x1_1 x5_1 = some r) ∧ Aside0 (kq ≤ k) ∧ Aside0 (Below w.heap.size w w'))
 case atStart => exact ⟨(a1), (0), (by first | rfl | (simp; done) | (simp [*]; done)), (by first | rfl | (simp; done) | (simp [*]; done)), H', ⟨Nat.le_refl _⟩, ⟨by repeat (first | exact HB.out | apply below_alloc | apply pw_below_drewN | apply below_drew1)⟩⟩
 case round =>
  clear H'
  try clear p2
  obtain ⟨x1_1, x5_1, rfl, rfl, HA, HK1, HB⟩ := hrel
  cases gk with
  | zero => exact absurd HA.out (by simp [laws_heldAttrS.l0])
  | succ k1 =>
   have H := HA.out
   clear HA
   simp only [laws_heldAttrS.l0] at H
   by_cases c3 : x5_1 < (l0.length : Int)
   · rw [if_pos c3] at H
     have c3b0 : decide (x5_1 < (l0.length : Int)) = true := decide_eq_true c3
     clear c3
     by_cases c4 : 0 ≤ x5_1
     · rw [if_pos c4] at H
       have c4b0 : decide (0 ≤ x5_1) = true := decide_eq_true c4
       clear c4
       replace H := Option.bind_eq_some_iff.mp H
       obtain ⟨t102, A50, H⟩ := H
       replace H : (if ((rd_T98 l0 x5_1).f0).toList = t102.toList then ((laws_markText.f k1 (wrap64 (x1_1 + 1))).bind fun t104 => (if ((rd_T98 l0 x5_1).f1).toList = t104.toList then (laws_heldAttrS.l0 k1 l0 (wrap64 ((wrap64 (x1_1 + 1)) + 1)) (wrap64 (x5_1 + 1))) else (some (-1)))) else (some (-1))) = some r := H
       have A5 := Aside0.mk A50
       clear A50
       by_cases c6 : ((rd_T98 l0 x5_1).f0).toList = t102.toList
       · rw [if_pos c6] at H
         have c6b0 : (((rd_T98 l0 x5_1).f0).toList == t102.toList) = true := beq_iff_eq.mpr c6
         have c6b1 : (((rd_T98 l0 x5_1).f0).toList != t102.toList) = false := bne_eq_false_iff_eq.mpr c6
         clear c6
         replace H := Option.bind_eq_some_iff.mp H
         obtain ⟨t104, A70, H⟩ := H
         replace H : (if ((rd_T98 l0 x5_1).f1).toList = t104.toList then (laws_heldAttrS.l0 k1 l0 (wrap64 ((wrap64 (x1_1 + 1)) + 1)) (wrap64 (x5_1 + 1))) else (some (-1))) = some r := H
         have A7 := Aside0.mk A70
         clear A70
         by_cases c8 : ((rd_T98 l0 x5_1).f1).toList = t104.toList
         · rw [if_pos c8] at H
           have c8b0 : (((rd_T98 l0 x5_1).f1).toList == t104.toList) = true := beq_iff_eq.mpr c8
           have c8b1 : (((rd_T98 l0 x5_1).f1).toList != t104.toList) = false := bne_eq_false_iff_eq.mpr c8
           clear c8
           have H' := Aside0.mk H
           clear H
           try go_wp2
           have n0_ := Aside0.mk (below_drew1 HB.out)
           clear HB
           have HB := n0_
           clear n0_
           have p101 : 0 ≤ (x5_1 : Int) := of_decide_eq_true (by assumption)
           have q101 : x5_1 < (l0.length : Int) := of_decide_eq_true (by assumption)
           obtain ⟨ad101, e101, hx101_0, hx101_1⟩ := at_T98 HR0.out x5_1 p101 q101
           have hw101_1 := hx101_1
           have hw101_0 := hx101_0
           cases e101
           replace hx101_0 := pw_cell_below HB.out hx101_0
           replace hx101_1 := pw_cell_below HB.out hx101_1
           replace p101 := eq_true p101
           replace q101 := eq_true q101
           refine start_ (n := 8) (S := fun w' => w'.cell? (ad101.add ((x5_1).toNat * 2)) = some (.string ((rd_T98 l0 x5_1).f0)) ∧ w'.cell? ⟨(ad101.add ((x5_1).toNat * 2)).block, (ad101.add ((x5_1).toNat * 2)).off + 1, none⟩ = some (.string ((rd_T98 l0 x5_1).f1))) (ds := []) #[false, false, false, false, false, false, false, false] (by kernel_rfl) rfl rfl ⟨(pw_cell_below HB.out hw101_0), (pw_cell_below HB.out hw101_1)⟩ (fun hHeld => ?_); refine with_tabW laws_heldAttrS.tab4 laws_heldAttrS.bits4 (fun HT_ HW_ => ?_)
           generalize wr.drew = w9 at HB hx101_0 hx101_1 hHeld ⊢
           refine pure_ (i := 0) (N := some 12) (v := ?_) (a' := ?_) #[true, false, false, false, false, false, false, false] rfl rfl (any_of HT_.out (by kernel_rfl)) (fun _ _ _ h => h) (Or.inl ⟨by rfl, ?_⟩) ?_ ?_
           rotate_left
           · intro w'
             go_simp
             with_reducible rfl
           rotate_left
           · simp only [Act.put, List.setIfInBounds_toArray, List.set_cons_zero, List.set_cons_succ, i64_w, i32_w]
             rfl
           refine pure_ (i := 1) (N := some 13) (v := ?_) (a' := ?_) #[true, true, false, false, false, false, false, false] rfl rfl (any_of HT_.out (by kernel_rfl)) (fun _ _ _ h => h) (Or.inl ⟨by rfl, ?_⟩) ?_ ?_
           rotate_left
           · intro w'
             go_simp
             with_reducible rfl
           rotate_left
           · simp only [Act.put, List.setIfInBounds_toArray, List.set_cons_zero, List.set_cons_succ, i64_w, i32_w]
             rfl
           refine pure_ (i := 2) (N := some 14) (v := ?_) (a' := ?_) #[true, true, true, false, false, false, false, false] rfl rfl (any_of HT_.out (by kernel_rfl)) (fun _ _ _ h => h) (Or.inl ⟨by rfl, ?_⟩) ?_ ?_
           rotate_left
           · intro w'
             go_simp
             with_reducible rfl
           rotate_left
           · simp only [Act.put, List.setIfInBounds_toArray, List.set_cons_zero, List.set_cons_succ, i64_w, i32_w]
             rfl
           refine pure_ (i := 3) (N := some 15) (v := ?_) (a' := ?_) #[true, true, true, true, false, false, false, false] rfl rfl (any_of HT_.out (by kernel_rfl)) (fun _ _ _ h => h) (Or.inl ⟨by rfl, ?_⟩) ?_ ?_
           rotate_left
           · intro w'
             go_simp
             with_reducible rfl
           rotate_left
           · simp only [Act.put, List.setIfInBounds_toArray, List.set_cons_zero, List.set_cons_succ, i64_w, i32_w]
             rfl
           refine pure_ (i := 5) (N := some 17) (v := ?_) (a' := ?_) #[true, true, true, true, false, true, false, false] rfl rfl (any_of HT_.out (by kernel_rfl)) (fun _ _ _ h => h) (Or.inl ⟨by rfl, ?_⟩) ?_ ?_
           rotate_left
           · intro w'
             go_simp
             with_reducible rfl
           rotate_left
           · simp only [Act.put, List.setIfInBounds_toArray, List.set_cons_zero, List.set_cons_succ, i64_w, i32_w]
             rfl
           refine take_ (i := 4) (N := some 16) (v := ?_) (a' := ?_) #[true, true, true, true, true, true, false, false] rfl rfl (take_ofW HT_.out HW_.out (by kernel_rfl)) (fun _ _ _ h => h) (Or.inl ⟨by rfl, ?_⟩) hHeld ?_ ?_
           rotate_left
           · rintro w' ⟨s0, s1⟩
             go_simp
             with_reducible rfl
           rotate_left
           · simp only [Act.put, List.setIfInBounds_toArray, List.set_cons_zero, List.set_cons_succ, i64_w, i32_w]
             rfl
           refine one_ (i := 6) (N := some 18) #[true, true, true, true, true, true, true, false] rfl rfl (one_of HT_.out (by kernel_rfl)) (by decide) (fun K hK => ?_)
           refine goes_ Try.func92 (by kernel_rfl) rfl #[.int .i64 x1_1] (by rfl) rfl rfl (by (try simp only [List.map_toArray, List.map_cons, List.map_nil]); first | done | rfl | (simp only [List.length_drop, List.length_take]; rfl)) ?_
           with_reducible refine (laws_markText.calls k1 x1_1 t102 _ A5.out).mono ?_
           rintro e w10 ⟨rfl, hb⟩
           refine ⟨_, rfl, ?_⟩
           have n0_ := Aside0.mk (below_step (by repeat (first | exact HB.out | apply below_alloc | apply pw_below_drewN | apply below_drew1)) hb)
           clear HB
           have HB := n0_
           clear n0_
           (try clear hb)
           (try clear hb2)
           (try clear hk)
           (try clear hi)
           refine hK.out _ _ ⟨(pw_cell_below HB.out hw101_0), (pw_cell_below HB.out hw101_1)⟩ (fun hHeld => ?_)
           clear hK K
           refine norm_ (a' := ?_) ?_ ?_
           rotate_left
           · show Act.put _ (some 18) _ = _
             simp only [Act.put, List.setIfInBounds_toArray, List.set_cons_zero, List.set_cons_succ, i64_w, i32_w]
             rfl
           refine pure_ (i := 7) (N := some 19) (v := ?_) (a' := ?_) #[true, true, true, true, true, true, true, true] rfl rfl (any_of HT_.out (by kernel_rfl)) (fun _ _ _ h => h) (Or.inl ⟨by rfl, ?_⟩) ?_ ?_
           rotate_left
           · intro w'
             go_simp
             with_reducible rfl
           rotate_left
           · simp only [Act.put, List.setIfInBounds_toArray, List.set_cons_zero, List.set_cons_succ, i64_w, i32_w]
             rfl
           refine done_ (done_of HT_.out (by kernel_rfl)) ?_
           try go_wp2
           have n0_ := Aside0.mk (below_drew1 HB.out)
           clear HB
           have HB := n0_
           clear n0_
           have p103 : 0 ≤ (x5_1 : Int) := of_decide_eq_true (by assumption)
           have q103 : x5_1 < (l0.length : Int) := of_decide_eq_true (by assumption)
           obtain ⟨ad103, e103, hx103_0, hx103_1⟩ := at_T98 HR0.out x5_1 p103 q103
           have hw103_1 := hx103_1
           have hw103_0 := hx103_0
           obtain rfl : ad101 = ad103 := (by injection e103)
           replace hx103_0 := pw_cell_below HB.out hx103_0
           replace hx103_1 := pw_cell_below HB.out hx103_1
           replace p103 := eq_true p103
           replace q103 := eq_true q103
           refine start_ (n := 8) (S := fun w' => w'.cell? (ad101.add ((x5_1).toNat * 2)) = some (.string ((rd_T98 l0 x5_1).f0)) ∧ w'.cell? ⟨(ad101.add ((x5_1).toNat * 2)).block, (ad101.add ((x5_1).toNat * 2)).off + 1, none⟩ = some (.string ((rd_T98 l0 x5_1).f1))) (ds := []) #[false, false, false, false, false, false, false, false] (by kernel_rfl) rfl rfl ⟨(pw_cell_below HB.out hw103_0), (pw_cell_below HB.out hw103_1)⟩ (fun hHeld => ?_); refine with_tabW laws_heldAttrS.tab7 laws_heldAttrS.bits7 (fun HT_ HW_ => ?_)
           generalize w10.drew = w11 at HB hx103_0 hx103_1 hHeld ⊢
           refine pure_ (i := 0) (N := some 22) (v := ?_) (a' := ?_) #[true, false, false, false, false, false, false, false] rfl rfl (any_of HT_.out (by kernel_rfl)) (fun _ _ _ h => h) (Or.inl ⟨by rfl, ?_⟩) ?_ ?_
           rotate_left
           · intro w'
             go_simp
             with_reducible rfl
           rotate_left
           · simp only [Act.put, List.setIfInBounds_toArray, List.set_cons_zero, List.set_cons_succ, i64_w, i32_w]
             rfl
           refine pure_ (i := 1) (N := some 23) (v := ?_) (a' := ?_) #[true, true, false, false, false, false, false, false] rfl rfl (any_of HT_.out (by kernel_rfl)) (fun _ _ _ h => h) (Or.inl ⟨by rfl, ?_⟩) ?_ ?_
           rotate_left
           · intro w'
             go_simp
             with_reducible rfl
           rotate_left
           · simp only [Act.put, List.setIfInBounds_toArray, List.set_cons_zero, List.set_cons_succ, i64_w, i32_w]
             rfl
           refine pure_ (i := 2) (N := some 24) (v := ?_) (a' := ?_) #[true, true, true, false, false, false, false, false] rfl rfl (any_of HT_.out (by kernel_rfl)) (fun _ _ _ h => h) (Or.inl ⟨by rfl, ?_⟩) ?_ ?_
           rotate_left
           · intro w'
             go_simp
             with_reducible rfl
           rotate_left
           · simp only [Act.put, List.setIfInBounds_toArray, List.set_cons_zero, List.set_cons_succ, i64_w, i32_w]
             rfl
           refine pure_ (i := 3) (N := some 25) (v := ?_) (a' := ?_) #[true, true, true, true, false, false, false, false] rfl rfl (any_of HT_.out (by kernel_rfl)) (fun _ _ _ h => h) (Or.inl ⟨by rfl, ?_⟩) ?_ ?_
           rotate_left
           · intro w'
             go_simp
             with_reducible rfl
           rotate_left
           · simp only [Act.put, List.setIfInBounds_toArray, List.set_cons_zero, List.set_cons_succ, i64_w, i32_w]
             rfl
           refine pure_ (i := 5) (N := some 27) (v := ?_) (a' := ?_) #[true, true, true, true, false, true, false, false] rfl rfl (any_of HT_.out (by kernel_rfl)) (fun _ _ _ h => h) (Or.inl ⟨by rfl, ?_⟩) ?_ ?_
           rotate_left
           · intro w'
             go_simp
             with_reducible rfl
           rotate_left
           · simp only [Act.put, List.setIfInBounds_toArray, List.set_cons_zero, List.set_cons_succ, i64_w, i32_w]
             rfl
           refine take_ (i := 4) (N := some 26) (v := ?_) (a' := ?_) #[true, true, true, true, true, true, false, false] rfl rfl (take_ofW HT_.out HW_.out (by kernel_rfl)) (fun _ _ _ h => h) (Or.inl ⟨by rfl, ?_⟩) hHeld ?_ ?_
           rotate_left
           · rintro w' ⟨s0, s1⟩
             go_simp
             with_reducible rfl
           rotate_left
           · simp only [Act.put, List.setIfInBounds_toArray, List.set_cons_zero, List.set_cons_succ, i64_w, i32_w]
             rfl
           refine one_ (i := 6) (N := some 28) #[true, true, true, true, true, true, true, false] rfl rfl (one_of HT_.out (by kernel_rfl)) (by decide) (fun K hK => ?_)
           refine goes_ Try.func92 (by kernel_rfl) rfl #[.int .i64 (wrap64 (x1_1 + 1))] (by rfl) rfl rfl (by (try simp only [List.map_toArray, List.map_cons, List.map_nil]); first | done | rfl | (simp only [List.length_drop, List.length_take]; rfl)) ?_
           with_reducible refine (laws_markText.calls k1 (wrap64 (x1_1 + 1)) t104 _ A7.out).mono ?_
           rintro e w12 ⟨rfl, hb⟩
           refine ⟨_, rfl, ?_⟩
           have n0_ := Aside0.mk (below_step (by repeat (first | exact HB.out | apply below_alloc | apply pw_below_drewN | apply below_drew1)) hb)
           clear HB
           have HB := n0_
           clear n0_
           (try clear hb)
           (try clear hb2)
           (try clear hk)
           (try clear hi)
           refine hK.out _ _ ⟨(pw_cell_below HB.out hw103_0), (pw_cell_below HB.out hw103_1)⟩ (fun hHeld => ?_)
           clear hK K
           refine norm_ (a' := ?_) ?_ ?_
           rotate_left
           · show Act.put _ (some 28) _ = _
             simp only [Act.put, List.setIfInBounds_toArray, List.set_cons_zero, List.set_cons_succ, i64_w, i32_w]
             rfl
           refine pure_ (i := 7) (N := some 29) (v := ?_) (a' := ?_) #[true, true, true, true, true, true, true, true] rfl rfl (any_of HT_.out (by kernel_rfl)) (fun _ _ _ h => h) (Or.inl ⟨by rfl, ?_⟩) ?_ ?_
           rotate_left
           · intro w'
             go_simp
             with_reducible rfl
           rotate_left
           · simp only [Act.put, List.setIfInBounds_toArray, List.set_cons_zero, List.set_cons_succ, i64_w, i32_w]
             rfl
           refine done_ (done_of HT_.out (by kernel_rfl)) ?_
           try go_wp2
           go_roundg k1
           case measure => have := HK1.out; omega
           case rel => exact ⟨(wrap64 ((wrap64 (x1_1 + 1)) + 1)), (wrap64 (x5_1 + 1)), (by first | rfl | (simp; done) | (simp [*]; done)), (by first | rfl | (simp; done) | (simp [*]; done)), H', ⟨by have := HK1.out; omega⟩, ⟨by repeat (first | exact HB.out | apply below_alloc | apply pw_below_drewN | apply below_drew1)⟩⟩
         · rw [if_neg c8] at H
           have c8b0 : (((rd_T98 l0 x5_1).f1).toList == t104.toList) = false := beq_eq_false_iff_ne.mpr c8
           have c8b1 : (((rd_T98 l0 x5_1).f1).toList != t104.toList) = true := bne_iff_ne.mpr c8
           obtain rfl := Option.some.inj H
           try go_wp2
           have n0_ := Aside0.mk (below_drew1 HB.out)
           clear HB
           have HB := n0_
           clear n0_
           have p101 : 0 ≤ (x5_1 : Int) := of_decide_eq_true (by assumption)
           have q101 : x5_1 < (l0.length : Int) := of_decide_eq_true (by assumption)
           obtain ⟨ad101, e101, hx101_0, hx101_1⟩ := at_T98 HR0.out x5_1 p101 q101
           have hw101_1 := hx101_1
           have hw101_0 := hx101_0
           cases e101
           replace hx101_0 := pw_cell_below HB.out hx101_0
           replace hx101_1 := pw_cell_below HB.out hx101_1
           replace p101 := eq_true p101
           replace q101 := eq_true q101
           refine start_ (n := 8) (S := fun w' => w'.cell? (ad101.add ((x5_1).toNat * 2)) = some (.string ((rd_T98 l0 x5_1).f0)) ∧ w'.cell? ⟨(ad101.add ((x5_1).toNat * 2)).block, (ad101.add ((x5_1).toNat * 2)).off + 1, none⟩ = some (.string ((rd_T98 l0 x5_1).f1))) (ds := []) #[false, false, false, false, false, false, false, false] (by kernel_rfl) rfl rfl ⟨(pw_cell_below HB.out hw101_0), (pw_cell_below HB.out hw101_1)⟩ (fun hHeld => ?_); refine with_tabW laws_heldAttrS.tab4 laws_heldAttrS.bits4 (fun HT_ HW_ => ?_)
           generalize wr.drew = w13 at HB hx101_0 hx101_1 hHeld ⊢
           refine pure_ (i := 0) (N := some 12) (v := ?_) (a' := ?_) #[true, false, false, false, false, false, false, false] rfl rfl (any_of HT_.out (by kernel_rfl)) (fun _ _ _ h => h) (Or.inl ⟨by rfl, ?_⟩) ?_ ?_
           rotate_left
           · intro w'
             go_simp
             with_reducible rfl
           rotate_left
           · simp only [Act.put, List.setIfInBounds_toArray, List.set_cons_zero, List.set_cons_succ, i64_w, i32_w]
             rfl
           refine pure_ (i := 1) (N := some 13) (v := ?_) (a' := ?_) #[true, true, false, false, false, false, false, false] rfl rfl (any_of HT_.out (by kernel_rfl)) (fun _ _ _ h => h) (Or.inl ⟨by rfl, ?_⟩) ?_ ?_
           rotate_left
           · intro w'
             go_simp
             with_reducible rfl
           rotate_left
           · simp only [Act.put, List.setIfInBounds_toArray, List.set_cons_zero, List.set_cons_succ, i64_w, i32_w]
             rfl
           refine pure_ (i := 2) (N := some 14) (v := ?_) (a' := ?_) #[true, true, true, false, false, false, false, false] rfl rfl (any_of HT_.out (by kernel_rfl)) (fun _ _ _ h => h) (Or.inl ⟨by rfl, ?_⟩) ?_ ?_
           rotate_left
           · intro w'
             go_simp
             with_reducible rfl
           rotate_left
           · simp only [Act.put, List.setIfInBounds_toArray, List.set_cons_zero, List.set_cons_succ, i64_w, i32_w]
             rfl
           refine pure_ (i := 3) (N := some 15) (v := ?_) (a' := ?_) #[true, true, true, true, false, false, false, false] rfl rfl (any_of HT_.out (by kernel_rfl)) (fun _ _ _ h => h) (Or.inl ⟨by rfl, ?_⟩) ?_ ?_
           rotate_left
           · intro w'
             go_simp
             with_reducible rfl
           rotate_left
           · simp only [Act.put, List.setIfInBounds_toArray, List.set_cons_zero, List.set_cons_succ, i64_w, i32_w]
             rfl
           refine pure_ (i := 5) (N := some 17) (v := ?_) (a' := ?_) #[true, true, true, true, false, true, false, false] rfl rfl (any_of HT_.out (by kernel_rfl)) (fun _ _ _ h => h) (Or.inl ⟨by rfl, ?_⟩) ?_ ?_
           rotate_left
           · intro w'
             go_simp
             with_reducible rfl
           rotate_left
           · simp only [Act.put, List.setIfInBounds_toArray, List.set_cons_zero, List.set_cons_succ, i64_w, i32_w]
             rfl
           refine take_ (i := 4) (N := some 16) (v := ?_) (a' := ?_) #[true, true, true, true, true, true, false, false] rfl rfl (take_ofW HT_.out HW_.out (by kernel_rfl)) (fun _ _ _ h => h) (Or.inl ⟨by rfl, ?_⟩) hHeld ?_ ?_
           rotate_left
           · rintro w' ⟨s0, s1⟩
             go_simp
             with_reducible rfl
           rotate_left
           · simp only [Act.put, List.setIfInBounds_toArray, List.set_cons_zero, List.set_cons_succ, i64_w, i32_w]
             rfl
           refine one_ (i := 6) (N := some 18) #[true, true, true, true, true, true, true, false] rfl rfl (one_of HT_.out (by kernel_rfl)) (by decide) (fun K hK => ?_)
           refine goes_ Try.func92 (by kernel_rfl) rfl #[.int .i64 x1_1] (by rfl) rfl rfl (by (try simp only [List.map_toArray, List.map_cons, List.map_nil]); first | done | rfl | (simp only [List.length_drop, List.length_take]; rfl)) ?_
           with_reducible refine (laws_markText.calls k1 x1_1 t102 _ A5.out).mono ?_
           rintro e w14 ⟨rfl, hb⟩
           refine ⟨_, rfl, ?_⟩
           have n0_ := Aside0.mk (below_step (by repeat (first | exact HB.out | apply below_alloc | apply pw_below_drewN | apply below_drew1)) hb)
           clear HB
           have HB := n0_
           clear n0_
           (try clear hb)
           (try clear hb2)
           (try clear hk)
           (try clear hi)
           refine hK.out _ _ ⟨(pw_cell_below HB.out hw101_0), (pw_cell_below HB.out hw101_1)⟩ (fun hHeld => ?_)
           clear hK K
           refine norm_ (a' := ?_) ?_ ?_
           rotate_left
           · show Act.put _ (some 18) _ = _
             simp only [Act.put, List.setIfInBounds_toArray, List.set_cons_zero, List.set_cons_succ, i64_w, i32_w]
             rfl
           refine pure_ (i := 7) (N := some 19) (v := ?_) (a' := ?_) #[true, true, true, true, true, true, true, true] rfl rfl (any_of HT_.out (by kernel_rfl)) (fun _ _ _ h => h) (Or.inl ⟨by rfl, ?_⟩) ?_ ?_
           rotate_left
           · intro w'
             go_simp
             with_reducible rfl
           rotate_left
           · simp only [Act.put, List.setIfInBounds_toArray, List.set_cons_zero, List.set_cons_succ, i64_w, i32_w]
             rfl
           refine done_ (done_of HT_.out (by kernel_rfl)) ?_
           try go_wp2
           have n0_ := Aside0.mk (below_drew1 HB.out)
           clear HB
           have HB := n0_
           clear n0_
           have p103 : 0 ≤ (x5_1 : Int) := of_decide_eq_true (by assumption)
           have q103 : x5_1 < (l0.length : Int) := of_decide_eq_true (by assumption)
           obtain ⟨ad103, e103, hx103_0, hx103_1⟩ := at_T98 HR0.out x5_1 p103 q103
           have hw103_1 := hx103_1
           have hw103_0 := hx103_0
           obtain rfl : ad101 = ad103 := (by injection e103)
           replace hx103_0 := pw_cell_below HB.out hx103_0
           replace hx103_1 := pw_cell_below HB.out hx103_1
           replace p103 := eq_true p103
           replace q103 := eq_true q103
           refine start_ (n := 8) (S := fun w' => w'.cell? (ad101.add ((x5_1).toNat * 2)) = some (.string ((rd_T98 l0 x5_1).f0)) ∧ w'.cell? ⟨(ad101.add ((x5_1).toNat * 2)).block, (ad101.add ((x5_1).toNat * 2)).off + 1, none⟩ = some (.string ((rd_T98 l0 x5_1).f1))) (ds := []) #[false, false, false, false, false, false, false, false] (by kernel_rfl) rfl rfl ⟨(pw_cell_below HB.out hw103_0), (pw_cell_below HB.out hw103_1)⟩ (fun hHeld => ?_); refine with_tabW laws_heldAttrS.tab7 laws_heldAttrS.bits7 (fun HT_ HW_ => ?_)
           generalize w14.drew = w15 at HB hx103_0 hx103_1 hHeld ⊢
           refine pure_ (i := 0) (N := some 22) (v := ?_) (a' := ?_) #[true, false, false, false, false, false, false, false] rfl rfl (any_of HT_.out (by kernel_rfl)) (fun _ _ _ h => h) (Or.inl ⟨by rfl, ?_⟩) ?_ ?_
           rotate_left
           · intro w'
             go_simp
             with_reducible rfl
           rotate_left
           · simp only [Act.put, List.setIfInBounds_toArray, List.set_cons_zero, List.set_cons_succ, i64_w, i32_w]
             rfl
           refine pure_ (i := 1) (N := some 23) (v := ?_) (a' := ?_) #[true, true, false, false, false, false, false, false] rfl rfl (any_of HT_.out (by kernel_rfl)) (fun _ _ _ h => h) (Or.inl ⟨by rfl, ?_⟩) ?_ ?_
           rotate_left
           · intro w'
             go_simp
             with_reducible rfl
           rotate_left
           · simp only [Act.put, List.setIfInBounds_toArray, List.set_cons_zero, List.set_cons_succ, i64_w, i32_w]
             rfl
           refine pure_ (i := 2) (N := some 24) (v := ?_) (a' := ?_) #[true, true, true, false, false, false, false, false] rfl rfl (any_of HT_.out (by kernel_rfl)) (fun _ _ _ h => h) (Or.inl ⟨by rfl, ?_⟩) ?_ ?_
           rotate_left
           · intro w'
             go_simp
             with_reducible rfl
           rotate_left
           · simp only [Act.put, List.setIfInBounds_toArray, List.set_cons_zero, List.set_cons_succ, i64_w, i32_w]
             rfl
           refine pure_ (i := 3) (N := some 25) (v := ?_) (a' := ?_) #[true, true, true, true, false, false, false, false] rfl rfl (any_of HT_.out (by kernel_rfl)) (fun _ _ _ h => h) (Or.inl ⟨by rfl, ?_⟩) ?_ ?_
           rotate_left
           · intro w'
             go_simp
             with_reducible rfl
           rotate_left
           · simp only [Act.put, List.setIfInBounds_toArray, List.set_cons_zero, List.set_cons_succ, i64_w, i32_w]
             rfl
           refine pure_ (i := 5) (N := some 27) (v := ?_) (a' := ?_) #[true, true, true, true, false, true, false, false] rfl rfl (any_of HT_.out (by kernel_rfl)) (fun _ _ _ h => h) (Or.inl ⟨by rfl, ?_⟩) ?_ ?_
           rotate_left
           · intro w'
             go_simp
             with_reducible rfl
           rotate_left
           · simp only [Act.put, List.setIfInBounds_toArray, List.set_cons_zero, List.set_cons_succ, i64_w, i32_w]
             rfl
           refine take_ (i := 4) (N := some 26) (v := ?_) (a' := ?_) #[true, true, true, true, true, true, false, false] rfl rfl (take_ofW HT_.out HW_.out (by kernel_rfl)) (fun _ _ _ h => h) (Or.inl ⟨by rfl, ?_⟩) hHeld ?_ ?_
           rotate_left
           · rintro w' ⟨s0, s1⟩
             go_simp
             with_reducible rfl
           rotate_left
           · simp only [Act.put, List.setIfInBounds_toArray, List.set_cons_zero, List.set_cons_succ, i64_w, i32_w]
             rfl
           refine one_ (i := 6) (N := some 28) #[true, true, true, true, true, true, true, false] rfl rfl (one_of HT_.out (by kernel_rfl)) (by decide) (fun K hK => ?_)
           refine goes_ Try.func92 (by kernel_rfl) rfl #[.int .i64 (wrap64 (x1_1 + 1))] (by rfl) rfl rfl (by (try simp only [List.map_toArray, List.map_cons, List.map_nil]); first | done | rfl | (simp only [List.length_drop, List.length_take]; rfl)) ?_
           with_reducible refine (laws_markText.calls k1 (wrap64 (x1_1 + 1)) t104 _ A7.out).mono ?_
           rintro e w16 ⟨rfl, hb⟩
           refine ⟨_, rfl, ?_⟩
           have n0_ := Aside0.mk (below_step (by repeat (first | exact HB.out | apply below_alloc | apply pw_below_drewN | apply below_drew1)) hb)
           clear HB
           have HB := n0_
           clear n0_
           (try clear hb)
           (try clear hb2)
           (try clear hk)
           (try clear hi)
           refine hK.out _ _ ⟨(pw_cell_below HB.out hw103_0), (pw_cell_below HB.out hw103_1)⟩ (fun hHeld => ?_)
           clear hK K
           refine norm_ (a' := ?_) ?_ ?_
           rotate_left
           · show Act.put _ (some 28) _ = _
             simp only [Act.put, List.setIfInBounds_toArray, List.set_cons_zero, List.set_cons_succ, i64_w, i32_w]
             rfl
           refine pure_ (i := 7) (N := some 29) (v := ?_) (a' := ?_) #[true, true, true, true, true, true, true, true] rfl rfl (any_of HT_.out (by kernel_rfl)) (fun _ _ _ h => h) (Or.inl ⟨by rfl, ?_⟩) ?_ ?_
           rotate_left
           · intro w'
             go_simp
             with_reducible rfl
           rotate_left
           · simp only [Act.put, List.setIfInBounds_toArray, List.set_cons_zero, List.set_cons_succ, i64_w, i32_w]
             rfl
           refine done_ (done_of HT_.out (by kernel_rfl)) ?_
           try go_wp2
           go_ret
           exact ⟨by first | rfl | (simp [*] <;> rfl), by repeat (first | exact HB.out | apply below_alloc | apply pw_below_drewN | apply below_drew1)⟩
       · rw [if_neg c6] at H
         have c6b0 : (((rd_T98 l0 x5_1).f0).toList == t102.toList) = false := beq_eq_false_iff_ne.mpr c6
         have c6b1 : (((rd_T98 l0 x5_1).f0).toList != t102.toList) = true := bne_iff_ne.mpr c6
         obtain rfl := Option.some.inj H
         try go_wp2
         have n0_ := Aside0.mk (below_drew1 HB.out)
         clear HB
         have HB := n0_
         clear n0_
         have p101 : 0 ≤ (x5_1 : Int) := of_decide_eq_true (by assumption)
         have q101 : x5_1 < (l0.length : Int) := of_decide_eq_true (by assumption)
         obtain ⟨ad101, e101, hx101_0, hx101_1⟩ := at_T98 HR0.out x5_1 p101 q101
         have hw101_1 := hx101_1
         have hw101_0 := hx101_0
         cases e101
         replace hx101_0 := pw_cell_below HB.out hx101_0
         replace hx101_1 := pw_cell_below HB.out hx101_1
         replace p101 := eq_true p101
         replace q101 := eq_true q101
         refine start_ (n := 8) (S := fun w' => w'.cell? (ad101.add ((x5_1).toNat * 2)) = some (.string ((rd_T98 l0 x5_1).f0)) ∧ w'.cell? ⟨(ad101.add ((x5_1).toNat * 2)).block, (ad101.add ((x5_1).toNat * 2)).off + 1, none⟩ = some (.string ((rd_T98 l0 x5_1).f1))) (ds := []) #[false, false, false, false, false, false, false, false] (by kernel_rfl) rfl rfl ⟨(pw_cell_below HB.out hw101_0), (pw_cell_below HB.out hw101_1)⟩ (fun hHeld => ?_); refine with_tabW laws_heldAttrS.tab4 laws_heldAttrS.bits4 (fun HT_ HW_ => ?_)
         generalize wr.drew = w17 at HB hx101_0 hx101_1 hHeld ⊢
         refine pure_ (i := 0) (N := some 12) (v := ?_) (a' := ?_) #[true, false, false, false, false, false, false, false] rfl rfl (any_of HT_.out (by kernel_rfl)) (fun _ _ _ h => h) (Or.inl ⟨by rfl, ?_⟩) ?_ ?_
         rotate_left
         · intro w'
           go_simp
           with_reducible rfl
         rotate_left
         · simp only [Act.put, List.setIfInBounds_toArray, List.set_cons_zero, List.set_cons_succ, i64_w, i32_w]
           rfl
         refine pure_ (i := 1) (N := some 13) (v := ?_) (a' := ?_) #[true, true, false, false, false, false, false, false] rfl rfl (any_of HT_.out (by kernel_rfl)) (fun _ _ _ h => h) (Or.inl ⟨by rfl, ?_⟩) ?_ ?_
         rotate_left
         · intro w'
           go_simp
           with_reducible rfl
         rotate_left
         · simp only [Act.put, List.setIfInBounds_toArray, List.set_cons_zero, List.set_cons_succ, i64_w, i32_w]
           rfl
         refine pure_ (i := 2) (N := some 14) (v := ?_) (a' := ?_) #[true, true, true, false, false, false, false, false] rfl rfl (any_of HT_.out (by kernel_rfl)) (fun _ _ _ h => h) (Or.inl ⟨by rfl, ?_⟩) ?_ ?_
         rotate_left
         · intro w'
           go_simp
           with_reducible rfl
         rotate_left
         · simp only [Act.put, List.setIfInBounds_toArray, List.set_cons_zero, List.set_cons_succ, i64_w, i32_w]
           rfl
         refine pure_ (i := 3) (N := some 15) (v := ?_) (a' := ?_) #[true, true, true, true, false, false, false, false] rfl rfl (any_of HT_.out (by kernel_rfl)) (fun _ _ _ h => h) (Or.inl ⟨by rfl, ?_⟩) ?_ ?_
         rotate_left
         · intro w'
           go_simp
           with_reducible rfl
         rotate_left
         · simp only [Act.put, List.setIfInBounds_toArray, List.set_cons_zero, List.set_cons_succ, i64_w, i32_w]
           rfl
         refine pure_ (i := 5) (N := some 17) (v := ?_) (a' := ?_) #[true, true, true, true, false, true, false, false] rfl rfl (any_of HT_.out (by kernel_rfl)) (fun _ _ _ h => h) (Or.inl ⟨by rfl, ?_⟩) ?_ ?_
         rotate_left
         · intro w'
           go_simp
           with_reducible rfl
         rotate_left
         · simp only [Act.put, List.setIfInBounds_toArray, List.set_cons_zero, List.set_cons_succ, i64_w, i32_w]
           rfl
         refine take_ (i := 4) (N := some 16) (v := ?_) (a' := ?_) #[true, true, true, true, true, true, false, false] rfl rfl (take_ofW HT_.out HW_.out (by kernel_rfl)) (fun _ _ _ h => h) (Or.inl ⟨by rfl, ?_⟩) hHeld ?_ ?_
         rotate_left
         · rintro w' ⟨s0, s1⟩
           go_simp
           with_reducible rfl
         rotate_left
         · simp only [Act.put, List.setIfInBounds_toArray, List.set_cons_zero, List.set_cons_succ, i64_w, i32_w]
           rfl
         refine one_ (i := 6) (N := some 18) #[true, true, true, true, true, true, true, false] rfl rfl (one_of HT_.out (by kernel_rfl)) (by decide) (fun K hK => ?_)
         refine goes_ Try.func92 (by kernel_rfl) rfl #[.int .i64 x1_1] (by rfl) rfl rfl (by (try simp only [List.map_toArray, List.map_cons, List.map_nil]); first | done | rfl | (simp only [List.length_drop, List.length_take]; rfl)) ?_
         with_reducible refine (laws_markText.calls k1 x1_1 t102 _ A5.out).mono ?_
         rintro e w18 ⟨rfl, hb⟩
         refine ⟨_, rfl, ?_⟩
         have n0_ := Aside0.mk (below_step (by repeat (first | exact HB.out | apply below_alloc | apply pw_below_drewN | apply below_drew1)) hb)
         clear HB
         have HB := n0_
         clear n0_
         (try clear hb)
         (try clear hb2)
         (try clear hk)
         (try clear hi)
         refine hK.out _ _ ⟨(pw_cell_below HB.out hw101_0), (pw_cell_below HB.out hw101_1)⟩ (fun hHeld => ?_)
         clear hK K
         refine norm_ (a' := ?_) ?_ ?_
         rotate_left
         · show Act.put _ (some 18) _ = _
           simp only [Act.put, List.setIfInBounds_toArray, List.set_cons_zero, List.set_cons_succ, i64_w, i32_w]
           rfl
         refine pure_ (i := 7) (N := some 19) (v := ?_) (a' := ?_) #[true, true, true, true, true, true, true, true] rfl rfl (any_of HT_.out (by kernel_rfl)) (fun _ _ _ h => h) (Or.inl ⟨by rfl, ?_⟩) ?_ ?_
         rotate_left
         · intro w'
           go_simp
           with_reducible rfl
         rotate_left
         · simp only [Act.put, List.setIfInBounds_toArray, List.set_cons_zero, List.set_cons_succ, i64_w, i32_w]
           rfl
         refine done_ (done_of HT_.out (by kernel_rfl)) ?_
         try go_wp2
         go_ret
         exact ⟨by first | rfl | (simp [*] <;> rfl), by repeat (first | exact HB.out | apply below_alloc | apply pw_below_drewN | apply below_drew1)⟩
     · rw [if_neg c4] at H
       exact absurd H (by simp)
   · rw [if_neg c3] at H
     have c3b0 : decide (x5_1 < (l0.length : Int)) = false := decide_eq_false c3
     clear c3
     obtain rfl := Option.some.inj H
     go_wp2
     go_ret
     exact ⟨by first | rfl | (simp [*] <;> rfl), by repeat (first | exact HB.out | apply below_alloc | apply pw_below_drewN | apply below_drew1)⟩
end Go.Proofs.Ytgneacekgbjkkaa.X
