/- What the Go functions that FnExactTreeTidy reaches compute, and that their walks come to just that (written by a program of this project over the kit's print). Conditions: as each states. -/
import Derived.Deep.RegionHeld3
import Derived.Test.YtgneacekgbjkkaaKFnExactTreeTidyx4
namespace Go.Proofs.Ytgneacekgbjkkaa.X
open Go.RowKit Go.Proofs.YtgneacekgbjkkaaW.PrintWords Go.Proofs.YtgneacekgbjkkaaW.PrintLast Go.Proofs.YtgneacekgbjkkaaW.PrintMore
attribute [local go_sem] max2_int min2_int max_two min_two max_three min_three max_four min_four
set_option linter.unusedVariables false
set_option linter.unusedSimpArgs false
def laws_heldIntS.l0 : Nat → List Int → Int → Int → Option (Int)
 | 0, _, _, _ => none
 | k + 1, x0, x1, x5 => if x5 < (x0.length : Int) then (if 0 ≤ x5 then (if (rd x0 x5) = x1 then (laws_heldIntS.l0 k x0 (wrap64 (x1 + 1)) (wrap64 (x5 + 1))) else (some (-1))) else (none)) else (some x1)
def laws_heldIntS.f (k : Nat) (l0 : List Int) (a1 : Int) : Option (Int) := laws_heldIntS.l0 k l0 a1 0
theorem laws_heldIntS.mono_l : ∀ k, (∀ y0 y1 y2, LeO (laws_heldIntS.l0 k y0 y1 y2) (laws_heldIntS.l0 (k + 1) y0 y1 y2))
 | 0 => fun _ _ _ r h => by simp [laws_heldIntS.l0] at h
 | k + 1 => by
  have ih0 := laws_heldIntS.mono_l k
  · intro y0 y1 y2
    unfold laws_heldIntS.l0
    repeat' first
    | (with_reducible exact ih0 _ _ _)
    | (with_reducible exact LeO.refl _)
    | (with_reducible exact LeO.none _)
    | (with_reducible refine LeO.ite ?_ ?_)
    | (with_reducible refine LeO.bind ?_ (fun _ => ?_))
    | exact ih0 _ _ _
    | exact LeO.none _
    | refine LeO.ite ?_ ?_
    | refine LeO.bind ?_ (fun _ => ?_)
theorem laws_heldIntS.mono : ∀ a0 a1 k, LeO (laws_heldIntS.f k a0 a1) (laws_heldIntS.f (k + 1) a0 a1) := by
 intro a0 a1 k
 have ih0 := laws_heldIntS.mono_l k
 unfold laws_heldIntS.f
 repeat' first
  | (with_reducible exact ih0 _ _ _)
  | (with_reducible exact LeO.refl _)
  | (with_reducible exact LeO.none _)
  | (with_reducible refine LeO.ite ?_ ?_)
  | (with_reducible refine LeO.bind ?_ (fun _ => ?_))
  | exact ih0 _ _ _
  | exact LeO.none _
  | refine LeO.ite ?_ ?_
  | refine LeO.bind ?_ (fun _ => ?_)
set_option maxHeartbeats 8000000 in
set_option maxRecDepth 100000 in
theorem laws_heldIntS.calls (k : Nat) (A0 : Option Addr) (c0 : Nat) (l0 : List Int) (a1 : Int) (r : Int) (w : World) (hr0 : Kd.C (Kd.int .i64) w A0 l0.length l0) (hc0 : l0.length ≤ c0) (h : laws_heldIntS.f k l0 a1 = some r) :
 Calls Try.prog 94 #[.slice A0 l0.length c0, .int .i64 a1] w fun e w' => e = .returned (.int .i64 r) ∧ Drawn0 w w' := by
 have HR0 := Aside0.mk hr0
 have HC0 := Aside0.mk hc0
 clear hr0 hc0
 have H : (laws_heldIntS.l0 k l0 a1 0) = some r := h
 clear h
 have H' := Aside0.mk H
 clear H
 go_enter Try.func94, Try.ntmps94
 go_wp2
 go_loopg [1, 5] k (fun kq v1 v5 w' => ∃ (x1_1 : Int) (x5_1 : Int), v1 = .int .i64 x1_1 ∧ v5 = .int .i64 x5_1 ∧ Aside0 (laws_heldIntS.l0 kq l0 x1_1 x5_1 = some r) ∧ Aside0 (kq ≤ k) ∧ Drawn0 w w')
 case atStart => exact ⟨(a1), (0), (by first | rfl | (simp; done) | (simp [*]; done)), (by first | rfl | (simp; done) | (simp [*]; done)), H', ⟨Nat.le_refl _⟩, by repeat (first | exact Drawn0.refl _ | apply Drawn0.step)⟩
 case round =>
  clear H'
  try clear p2
  obtain ⟨x1_1, x5_1, rfl, rfl, HA, HK1, ⟨m1, rfl⟩⟩ := hrel
  cases gk with
  | zero => exact absurd HA.out (by simp [laws_heldIntS.l0])
  | succ k1 =>
   have H := HA.out
   clear HA
   simp only [laws_heldIntS.l0] at H
   by_cases c3 : x5_1 < (l0.length : Int)
   · rw [if_pos c3] at H
     have c3b0 : decide (x5_1 < (l0.length : Int)) = true := decide_eq_true c3
     clear c3
     by_cases c4 : 0 ≤ x5_1
     · rw [if_pos c4] at H
       have c4b0 : decide (0 ≤ x5_1) = true := decide_eq_true c4
       clear c4
       by_cases c5 : (rd l0 x5_1) = x1_1
       · rw [if_pos c5] at H
         have c5b0 : ((rd l0 x5_1) == x1_1) = true := beq_iff_eq.mpr c5
         have c5b1 : ((rd l0 x5_1) != x1_1) = false := bne_eq_false_iff_eq.mpr c5
         clear c5
         have H' := Aside0.mk H
         clear H
         have p101 : 0 ≤ (x5_1 : Int) := of_decide_eq_true (by assumption)
         have q101 : x5_1 < (l0.length : Int) := of_decide_eq_true (by assumption)
         obtain ⟨ad101, e101, hx101_0⟩ := Kd.at_int HR0.out x5_1 p101 q101
         cases e101
         replace p101 := eq_true p101
         replace q101 := eq_true q101
         go_wp2
         go_roundg k1
         case measure => have := HK1.out; omega
         case rel => exact ⟨(wrap64 (x1_1 + 1)), (wrap64 (x5_1 + 1)), (by first | rfl | (simp; done) | (simp [*]; done)), (by first | rfl | (simp; done) | (simp [*]; done)), H', ⟨by have := HK1.out; omega⟩, by repeat (first | exact Drawn0.refl _ | apply Drawn0.step)⟩
       · rw [if_neg c5] at H
         have c5b0 : ((rd l0 x5_1) == x1_1) = false := beq_eq_false_iff_ne.mpr c5
         have c5b1 : ((rd l0 x5_1) != x1_1) = true := bne_iff_ne.mpr c5
         obtain rfl := Option.some.inj H
         have p101 : 0 ≤ (x5_1 : Int) := of_decide_eq_true (by assumption)
         have q101 : x5_1 < (l0.length : Int) := of_decide_eq_true (by assumption)
         obtain ⟨ad101, e101, hx101_0⟩ := Kd.at_int HR0.out x5_1 p101 q101
         cases e101
         replace p101 := eq_true p101
         replace q101 := eq_true q101
         go_wp2
         go_ret
         exact ⟨by first | rfl | (simp; done) | (simp [*]; done), by repeat (first | exact Drawn0.refl _ | apply Drawn0.step)⟩
     · rw [if_neg c4] at H
       exact absurd H (by simp)
   · rw [if_neg c3] at H
     have c3b0 : decide (x5_1 < (l0.length : Int)) = false := decide_eq_false c3
     clear c3
     obtain rfl := Option.some.inj H
     go_wp2
     go_ret
     exact ⟨by first | rfl | (simp; done) | (simp [*]; done), by repeat (first | exact Drawn0.refl _ | apply Drawn0.step)⟩
/-- What it gives where each node bears its marks; else nothing is told. -/
def laws_heldNodeS.l0 : Nat → List S45 → Int → Int → Option Int
 | 0, _, _, _ => none
 | k + 1, xs, m, i => if i < (xs.length : Int) then (if 0 ≤ i then (if (rd_T45 xs i).f0 = m then ((laws_markText.f k (wrap64 (m + 1))).bind fun t1 => if (rd_T45 xs i).f1.toList = t1.toList then ((laws_heldAttrS.f k (rd_T45 xs i).f2 (wrap64 (wrap64 (m + 1) + 1))).bind fun a => if a < 0 then none else (laws_markText.f k a).bind fun t2 => if (rd_T45 xs i).f3.toList = t2.toList then (if (rd_T45 xs i).f4 = wrap64 (a + 1) then ((laws_heldIntS.f k (rd_T45 xs i).f5 (wrap64 (wrap64 (a + 1) + 1))).bind fun b => if b < 0 then none else laws_heldNodeS.l0 k xs b (wrap64 (i + 1))) else none) else none) else none) else none) else none) else some m
def laws_heldNodeS.f (k : Nat) (l0 : List S45) (a1 : Int) : Option Int := laws_heldNodeS.l0 k l0 a1 0
theorem laws_heldNodeS.mono_l : ∀ k, (∀ y0 y1 y2, LeO (laws_heldNodeS.l0 k y0 y1 y2) (laws_heldNodeS.l0 (k + 1) y0 y1 y2))
 | 0 => fun _ _ _ r h => by simp [laws_heldNodeS.l0] at h
 | k + 1 => fun a b i => by
  rw [laws_heldNodeS.l0, laws_heldNodeS.l0]
  exact LeO.ite (LeO.ite (LeO.ite (LeO.bind (laws_markText.mono _ k) (fun _ => LeO.ite (LeO.bind (laws_heldAttrS.mono _ _ k) (fun _ => LeO.ite (LeO.refl _) (LeO.bind (laws_markText.mono _ k) (fun _ => LeO.ite (LeO.ite (LeO.bind (laws_heldIntS.mono _ _ k) (fun _ => LeO.ite (LeO.refl _) (laws_heldNodeS.mono_l k _ _ _))) (LeO.refl _)) (LeO.refl _))))) (LeO.refl _))) (LeO.refl _)) (LeO.refl _)) (LeO.refl _)
theorem laws_heldNodeS.mono : ∀ a0 a1 k, LeO (laws_heldNodeS.f k a0 a1) (laws_heldNodeS.f (k + 1) a0 a1) := fun a0 a1 k => laws_heldNodeS.mono_l k _ _ _
set_option maxHeartbeats 16000000 in
set_option maxRecDepth 100000 in
theorem laws_heldNodeS.calls (k : Nat) (A0 : Option Addr) (c0 : Nat) (l0 : List S45) (a1 : Int) (r : Int) (w : World) (hr0 : Kd.C k45 w A0 l0.length l0) (hc0 : l0.length ≤ c0) (h : laws_heldNodeS.f k l0 a1 = some r) :
 Calls Try.prog 49 #[.slice A0 l0.length c0, .int .i64 a1] w fun e w' => e = .returned (.int .i64 r) ∧ Below w.heap.size w w' := by
 unfold laws_heldNodeS.f at h
 revert hr0 h
 generalize l0 = xs
 intro hr0 h
 have HC := Aside0.mk hr0
 have HA := Aside0.mk h
 clear hr0 hc0 h
 go_enter Try.func49, Try.ntmps49
 go_wp2
 go_loopg [1, 5] k (fun kq v1 v5 w' => ∃ (m i : Int), v1 = .int .i64 m ∧ v5 = .int .i64 i ∧ Aside0 (laws_heldNodeS.l0 kq xs m i = some r) ∧ Aside0 (kq ≤ k) ∧ Aside0 (Below w.heap.size w w'))
 case atStart => exact ⟨_, 0, rfl, rfl, HA, ⟨Nat.le_refl _⟩, ⟨Below.refl _ _⟩⟩
 case round =>
  clear HA
  obtain ⟨m, i, rfl, rfl, HA, HK, HB⟩ := hrel
  cases gk with
  | zero => exact absurd HA.out (by simp [laws_heldNodeS.l0])
  | succ k1 =>
   have H := HA.out
   clear HA
   simp only [laws_heldNodeS.l0] at H
   by_cases g1 : i < (xs.length : Int)
   · rw [if_pos g1] at H
     by_cases g2 : 0 ≤ i
     · rw [if_pos g2] at H
       by_cases g3 : (rd_T45 xs i).f0 = m
       · rw [if_pos g3] at H
         obtain ⟨t1, A1, H⟩ := Option.bind_eq_some_iff.1 H
         by_cases g4 : (rd_T45 xs i).f1.toList = t1.toList
         · rw [if_pos g4] at H
           obtain ⟨a, A2, H⟩ := Option.bind_eq_some_iff.1 H
           by_cases g5 : a < 0
           · rw [if_pos g5] at H; cases H
           · rw [if_neg g5] at H
             obtain ⟨t2, A3, H⟩ := Option.bind_eq_some_iff.1 H
             by_cases g6 : (rd_T45 xs i).f3.toList = t2.toList
             · rw [if_pos g6] at H
               by_cases g7 : (rd_T45 xs i).f4 = wrap64 (a + 1)
               · rw [if_pos g7] at H
                 obtain ⟨b, A4, H⟩ := Option.bind_eq_some_iff.1 H
                 by_cases g8 : b < 0
                 · rw [if_pos g8] at H; cases H
                 · rw [if_neg g8] at H
                   have HA := Aside0.mk H
                   replace A1 := Aside0.mk A1
                   replace A2 := Aside0.mk A2
                   replace A3 := Aside0.mk A3
                   replace A4 := Aside0.mk A4
                   clear H
                   have p3 : ((rd_T45 xs i).f0 != m) = false := bne_eq_false_iff_eq.mpr g3
                   have q3 : ((rd_T45 xs i).f0 == m) = true := beq_iff_eq.mpr g3
                   have p4 : ((rd_T45 xs i).f1.toList != t1.toList) = false := bne_eq_false_iff_eq.mpr g4
                   have q4 : ((rd_T45 xs i).f1.toList == t1.toList) = true := beq_iff_eq.mpr g4
                   have p5 : decide (a < 0) = false := decide_eq_false g5
                   have p6 : ((rd_T45 xs i).f3.toList != t2.toList) = false := bne_eq_false_iff_eq.mpr g6
                   have q6 : ((rd_T45 xs i).f3.toList == t2.toList) = true := beq_iff_eq.mpr g6
                   have p7 : ((rd_T45 xs i).f4 != wrap64 (a + 1)) = false := bne_eq_false_iff_eq.mpr g7
                   have q7 : ((rd_T45 xs i).f4 == wrap64 (a + 1)) = true := beq_iff_eq.mpr g7
                   have p8 : decide (b < 0) = false := decide_eq_false g8
                   clear g3 g4 g5 g6 g7 g8
                   have g1b : decide (i < (xs.length : Int)) = true := decide_eq_true g1
                   obtain ⟨ad, A_2, c_2, A_5, c_5, e1, hx0, hx1, hx2, hx3, hx4, hx5, hl2, hi2, hl5, hi5⟩ := at_T45 HC.out i g2 g1
                   subst e1
                   have HI2 := Aside0.mk hi2
                   have HI5 := Aside0.mk hi5
                   have HL2 := Aside0.mk hl2
                   have HL5 := Aside0.mk hl5
                   have HX1 := Aside0.mk hx1
                   have HX2 := Aside0.mk hx2
                   have HX3 := Aside0.mk hx3
                   have HX4 := Aside0.mk hx4
                   have HX5 := Aside0.mk hx5
                   replace hx0 := pw_cell_below HB.out hx0
                   clear hl2 hi2 hl5 hi5 hx1 hx2 hx3 hx4 hx5
                   replace g1 := eq_true g1
                   replace g2 := eq_true g2
                   go_upto_region 7 with (fail)
                   clear hx0
                   have hx1 := pw_cell_below HB.out HX1.out
                   have HBD := Aside0.mk (show Below w.heap.size w wr.drew from pw_below_drewN HB.out 1)
                   go_region_held3 (fun w' => w'.cell? ⟨(ad.add (i.toNat * 6)).block, (ad.add (i.toNat * 6)).off + 1, none⟩ = some (.string (rd_T45 xs i).f1)) (first | exact hx1 | exact hx1b) (first | (go_at_call 92; (with_reducible refine (laws_markText.calls k1 _ t1 _ A1.out).mono ?_); rintro e w3 ⟨rfl, hb⟩; have HB3 := Aside0.mk (below_step HBD.out hb); have hx1b := pw_cell_below HB3.out HX1.out; clear hb))
                   clear hx1 hx1b
                   have hx2 := pw_cell_below HB3.out HX2.out
                   go_upto_region 13 with (first | (go_at_call 93; (with_reducible refine (laws_heldAttrS.calls k1 _ _ _ _ a w3 (Kd.C_below HI2.out HB3.out) HL2.out A2.out).mono ?_); rintro e w4 ⟨rfl, hb⟩; have HB4 := Aside0.mk (below_step HB3.out hb); clear hb))
                   clear hx2
                   have hx3 := pw_cell_below HB4.out HX3.out
                   have HB4D := Aside0.mk (show Below w.heap.size w w4.drew from pw_below_drewN HB4.out 1)
                   go_region_held3 (fun w' => w'.cell? ⟨(ad.add (i.toNat * 6)).block, (ad.add (i.toNat * 6)).off + 3, none⟩ = some (.string (rd_T45 xs i).f3)) (first | exact hx3 | exact hx3b) (first | (go_at_call 92; (with_reducible refine (laws_markText.calls k1 _ t2 _ A3.out).mono ?_); rintro e w5 ⟨rfl, hb⟩; have HB5 := Aside0.mk (below_step HB4D.out hb); have hx3b := pw_cell_below HB5.out HX3.out; clear hb))
                   clear hx3 hx3b
                   have hx4 := pw_cell_below HB5.out HX4.out
                   have hx5 := pw_cell_below HB5.out HX5.out
                   go_wp2_with (first | (go_at_call 94; (with_reducible refine (laws_heldIntS.calls k1 _ _ _ _ b w5 (Kd.C_below HI5.out HB5.out) HL5.out A4.out).mono ?_); rintro e w6 ⟨rfl, ⟨nd, rfl⟩⟩; have HB6 := Aside0.mk (pw_below_drewN HB5.out nd)))
                   go_roundg k1
                   case measure => have := HK.out; omega
                   case rel => exact ⟨_, _, rfl, rfl, HA, ⟨by have := HK.out; omega⟩, HB6⟩
               · rw [if_neg g7] at H; cases H
             · rw [if_neg g6] at H; cases H
         · rw [if_neg g4] at H; cases H
       · rw [if_neg g3] at H; cases H
     · rw [if_neg g2] at H; cases H
   · rw [if_neg g1] at H
     obtain rfl := Option.some.inj H
     clear H
     have g1b : decide (i < (xs.length : Int)) = false := decide_eq_false g1
     clear g1
     go_wp2
     go_ret
     exact ⟨rfl, HB.out⟩
def laws_heldTree.f (k : Nat) (l0_0 : List (S45)) (a1 : Int) : Option (Int) := (laws_heldNodeS.f k l0_0 a1).bind fun t102 => (if t102 < 0 then (some (-1)) else (some t102))
theorem laws_heldTree.mono : ∀ a0 a1 k, LeO (laws_heldTree.f k a0 a1) (laws_heldTree.f (k + 1) a0 a1) := by
 intro a0 a1 k
 unfold laws_heldTree.f
 repeat' first
  | (with_reducible exact laws_heldNodeS.mono _ _ _)
  | (with_reducible exact LeO.refl _)
  | (with_reducible exact LeO.none _)
  | (with_reducible refine LeO.ite ?_ ?_)
  | (with_reducible refine LeO.bind ?_ (fun _ => ?_))
  | exact laws_heldNodeS.mono _ _ _
  | exact LeO.none _
  | refine LeO.ite ?_ ?_
  | refine LeO.bind ?_ (fun _ => ?_)
set_option maxHeartbeats 8000000 in
set_option maxRecDepth 100000 in
theorem laws_heldTree.calls (k : Nat) (A0_0 : Option Addr) (c0_0 : Nat) (l0_0 : List (S45)) (a1 : Int) (r : Int) (w : World) (hr0_0 : Kd.C k45 w A0_0 l0_0.length l0_0) (hc0_0 : l0_0.length ≤ c0_0) (h : laws_heldTree.f k l0_0 a1 = some r) :
 Calls Try.prog 20 #[.agg #[.slice A0_0 l0_0.length c0_0], .int .i64 a1] w fun e w' => e = .returned (.int .i64 r) ∧ Below w.heap.size w w' := by
 have hu29 := Try.underlying29
 have HR0_0 := Aside0.mk hr0_0
 have HC0_0 := Aside0.mk hc0_0
 clear hr0_0 hc0_0
 have HB := Aside0.mk (Below.refl w.heap.size w)
 have H : ((laws_heldNodeS.f k l0_0 a1).bind fun t102 => (if t102 < 0 then (some (-1)) else (some t102))) = some r := h
 clear h
 replace H := Option.bind_eq_some_iff.mp H
 obtain ⟨t102, A30, H⟩ := H
 replace H : (if t102 < 0 then (some (-1)) else (some t102)) = some r := H
 have A3 := Aside0.mk A30
 clear A30
 by_cases c4 : t102 < 0
 · rw [if_pos c4] at H
   have c4b0 : decide (t102 < 0) = true := decide_eq_true c4
   clear c4
   obtain rfl := Option.some.inj H
   go_enter Try.func20, Try.ntmps20
   go_wp2_with (first | ((with_reducible refine gate_dst (N := 2) rfl ?_); refine box_event ?hg (N := 2) ?hd (cs := #[.slice A0_0 l0_0.length c0_0]) (t := 29) ?hr ?_; (case hd => rfl); (case hg => rfl); (case hr => first | (go_simp; done) | (go_simp; rfl)); intro gb101 hg w5 hbox hb; have n0_ := Aside0.mk (below_step (by repeat (first | exact HB.out | apply below_alloc | apply pw_below_drewN | apply below_drew1)) hb); have n1_ := Aside0.mk (hbox); have n2_ := Aside0.mk ((by rw [hg]; exact (below_size (by repeat (first | exact HB.out | apply below_alloc | apply pw_below_drewN | apply below_drew1))) : w.heap.size ≤ gb101)); have n3_ := n2_; clear HB; have HB := n0_; have BK101 := n1_; have GW101 := n2_; have GE101 := n3_; clear n0_ n1_ n2_ n3_; clear hb hbox hg; have hcz6_0 := blk_cell BK101.out 0; have hfz6_0 := blk_frozen BK101.out 0) | ((with_reducible refine gate_callee (f := 49) rfl ?_); refine goesL_ (some 8) rfl rfl Try.func49 (by kernel_rfl) rfl #[.slice A0_0 l0_0.length c0_0, .int .i64 a1] rfl (by (try simp only [List.map_toArray, List.map_cons, List.map_nil]); first | done | rfl | (simp only [List.length_drop, List.length_take]; rfl)) ?_; (with_reducible refine (laws_heldNodeS.calls k _ _ l0_0 a1 t102 _ ?side1 ?side2 A3.out).mono ?_); (case side1 => repeat (first | exact (Kd.C_below HR0_0.out HB.out) | (with_reducible refine Kd.C_alloc ?_ _) | (with_reducible refine Kd.C_drewN ?_ _) | (with_reducible refine Kd.C_drew ?_))); (case side2 => exact HC0_0.out); rintro e w7 ⟨rfl, hb⟩; refine ⟨_, rfl, ?_⟩; have n0_ := Aside0.mk (blk_below (g := gb101) (o := .cells #[.slice A0_0 l0_0.length c0_0] 29 (0, 0)) (by (with_reducible repeat (first | refine blk_drewN ?_ _ | refine blk_drew ?_ | refine blk_alloc ?_ _)); exact BK101.out) hb); have n1_ := Aside0.mk (below_step (by repeat (first | exact HB.out | apply below_alloc | apply pw_below_drewN | apply below_drew1 | refine below_set ?_ GE101.out)) hb); clear BK101; clear HB; have BK101 := n0_; have HB := n1_; clear n0_ n1_; (try clear hb); (try clear hb2); (try clear hk); (try clear hi)))
   go_ret
   exact ⟨by first | rfl | (simp [*] <;> rfl), by repeat (first | exact HB.out | apply below_alloc | apply pw_below_drewN | apply below_drew1 | refine below_set ?_ GE101.out)⟩
 · rw [if_neg c4] at H
   have c4b0 : decide (t102 < 0) = false := decide_eq_false c4
   clear c4
   obtain rfl := Option.some.inj H
   go_enter Try.func20, Try.ntmps20
   go_wp2_with (first | ((with_reducible refine gate_dst (N := 2) rfl ?_); refine box_event ?hg (N := 2) ?hd (cs := #[.slice A0_0 l0_0.length c0_0]) (t := 29) ?hr ?_; (case hd => rfl); (case hg => rfl); (case hr => first | (go_simp; done) | (go_simp; rfl)); intro gb101 hg w8 hbox hb; have n0_ := Aside0.mk (below_step (by repeat (first | exact HB.out | apply below_alloc | apply pw_below_drewN | apply below_drew1)) hb); have n1_ := Aside0.mk (hbox); have n2_ := Aside0.mk ((by rw [hg]; exact (below_size (by repeat (first | exact HB.out | apply below_alloc | apply pw_below_drewN | apply below_drew1))) : w.heap.size ≤ gb101)); have n3_ := n2_; clear HB; have HB := n0_; have BK101 := n1_; have GW101 := n2_; have GE101 := n3_; clear n0_ n1_ n2_ n3_; clear hb hbox hg; have hcz9_0 := blk_cell BK101.out 0; have hfz9_0 := blk_frozen BK101.out 0) | ((with_reducible refine gate_callee (f := 49) rfl ?_); refine goesL_ (some 8) rfl rfl Try.func49 (by kernel_rfl) rfl #[.slice A0_0 l0_0.length c0_0, .int .i64 a1] rfl (by (try simp only [List.map_toArray, List.map_cons, List.map_nil]); first | done | rfl | (simp only [List.length_drop, List.length_take]; rfl)) ?_; (with_reducible refine (laws_heldNodeS.calls k _ _ l0_0 a1 t102 _ ?side1 ?side2 A3.out).mono ?_); (case side1 => repeat (first | exact (Kd.C_below HR0_0.out HB.out) | (with_reducible refine Kd.C_alloc ?_ _) | (with_reducible refine Kd.C_drewN ?_ _) | (with_reducible refine Kd.C_drew ?_))); (case side2 => exact HC0_0.out); rintro e w10 ⟨rfl, hb⟩; refine ⟨_, rfl, ?_⟩; have n0_ := Aside0.mk (blk_below (g := gb101) (o := .cells #[.slice A0_0 l0_0.length c0_0] 29 (0, 0)) (by (with_reducible repeat (first | refine blk_drewN ?_ _ | refine blk_drew ?_ | refine blk_alloc ?_ _)); exact BK101.out) hb); have n1_ := Aside0.mk (below_step (by repeat (first | exact HB.out | apply below_alloc | apply pw_below_drewN | apply below_drew1 | refine below_set ?_ GE101.out)) hb); clear BK101; clear HB; have BK101 := n0_; have HB := n1_; clear n0_ n1_; (try clear hb); (try clear hb2); (try clear hk); (try clear hi)))
   go_ret
   exact ⟨by first | rfl | (simp [*] <;> rfl), by repeat (first | exact HB.out | apply below_alloc | apply pw_below_drewN | apply below_drew1 | refine below_set ?_ GE101.out)⟩
/-- What the law gives where all is as it should be; else nothing is told. -/
def laws_FnExactTreeTidy.f (k : Nat) (l : List S39) : Option Bool := (laws_szTree.f k l 1048576).bind fun t1 => if t1 < 0 then some true else (laws_toTree.f k l).bind fun ta => (spec_TreeTidy.f k ta).bind fun x0 => (impl_TreeTidy.f k ta).bind fun g0 => (laws_eqTree.f k g0 x0).bind fun e0 => (laws_eqTree.f k ta ta).bind fun e1 => (laws_markTree.f k ta 1).bind fun b1 => (laws_markTree.f k g0 1).bind fun b2 => (laws_heldTree.f k b2.2 1).bind fun q => if e0 = true ∧ e1 = true ∧ 0 ≤ b1.1 ∧ 0 ≤ q ∧ q = b2.1 then some true else none
theorem laws_FnExactTreeTidy.mono : ∀ a0 k, LeO (laws_FnExactTreeTidy.f k a0) (laws_FnExactTreeTidy.f (k + 1) a0) := fun a0 k => LeO.bind (laws_szTree.mono _ _ k) (fun _ => LeO.ite (LeO.refl _) (LeO.bind (laws_toTree.mono _ k) (fun _ => LeO.bind (spec_TreeTidy.mono _ k) (fun _ => LeO.bind (impl_TreeTidy.mono _ k) (fun _ => LeO.bind (laws_eqTree.mono _ _ k) (fun _ => LeO.bind (laws_eqTree.mono _ _ k) (fun _ => LeO.bind (laws_markTree.mono _ _ k) (fun _ => LeO.bind (laws_markTree.mono _ _ k) (fun _ => LeO.bind (laws_heldTree.mono _ _ k) (fun _ => LeO.refl _))))))))))
/-- The law's variables: the argument, what is wanted, the tree handed in, what was given; the last two rows the law's own (P5, P6). -/
structure TiA (w wx W : World) (ga g4 g5 g6 n5 m6 n6 : Nat) (A0 : Option Addr) (n0 c0 : Nat) (A4 : Option Addr) (c4 : Nat) (x0 : List S45) (A5 : Option Addr) (c5 : Nat) (ta : List S45) (A6 : Option Addr) (c6 : Nat) (y0 : List S45) : Prop where
 a : W.heap[ga]? = some (.cells #[.slice A0 n0 c0] 24 (0, 0))
 b4 : W.heap[g4]? = some (.cells #[.slice A4 x0.length c4] 29 (0, 0))
 b5 : W.heap[g5]? = some (.cells #[.slice A5 ta.length c5] 29 (0, 0))
 b6 : W.heap[g6]? = some (.cells #[.slice A6 y0.length c6] 29 (0, 0))
 r4 : Kd.C k45 wx A4 x0.length x0
 l4 : x0.length ≤ c4
 s5 : Kd.S k45 45 W wx.heap.size (fun k => wx.heap.size ≤ k ∧ k < n5) (.slice A5 ta.length c5) ta
 s6 : Kd.S k45 45 W wx.heap.size (fun k => m6 ≤ k ∧ k < n6) (.slice A6 y0.length c6) y0
 lx : Below wx.heap.size wx W
 low : Below w.heap.size w wx
 oa : ga < wx.heap.size
 o4 : g4 < wx.heap.size
 o5 : n5 ≤ m6
 o6 : n6 ≤ g6
 o7 : m6 ≤ n6
 o8 : wx.heap.size ≤ n5
section
variable {w wx W W2 : World} {ga g4 g5 g6 n5 m6 n6 n0 c0 c4 c5 c6 : Nat} {A0 A4 A5 A6 : Option Addr} {x0 ta y0 z0 : List S45}
theorem TiA.below (h : TiA w wx W ga g4 g5 g6 n5 m6 n6 A0 n0 c0 A4 c4 x0 A5 c5 ta A6 c6 y0) (hb : Below W.heap.size W W2) : TiA w wx W2 ga g4 g5 g6 n5 m6 n6 A0 n0 c0 A4 c4 x0 A5 c5 ta A6 c6 y0 :=
 ⟨blk_below h.a hb, blk_below h.b4 hb, blk_below h.b5 hb, blk_below h.b6 hb, h.r4, h.l4, Kd.S_below h.s5 hb, Kd.S_below h.s6 hb, below_step h.lx hb, h.low, h.oa, h.o4, h.o5, h.o6, h.o7, h.o8⟩
theorem TiA.drew (h : TiA w wx W ga g4 g5 g6 n5 m6 n6 A0 n0 c0 A4 c4 x0 A5 c5 ta A6 c6 y0) : TiA w wx W.drew ga g4 g5 g6 n5 m6 n6 A0 n0 c0 A4 c4 x0 A5 c5 ta A6 c6 y0 := h.below (pw_below_drewN (Below.refl _ _) 1)
theorem TiA.row6 (h : TiA w wx W ga g4 g5 g6 n5 m6 n6 A0 n0 c0 A4 c4 x0 A5 c5 ta A6 c6 y0) : y0.length ≤ c6 ∧ Kd.C k45 W A6 y0.length y0 := (Kd.R_reads' (Kd.S_R h.s6)).2
theorem TiA.row5 (h : TiA w wx W ga g4 g5 g6 n5 m6 n6 A0 n0 c0 A4 c4 x0 A5 c5 ta A6 c6 y0) : ta.length ≤ c5 ∧ Kd.C k45 W A5 ta.length ta := (Kd.R_reads' (Kd.S_R h.s5)).2
/-- .. when the tree handed in, then what was given, has been marked. -/
structure TiB (w wx W : World) (ga g4 g6 : Nat) (P : Nat → Prop) (A0 : Option Addr) (n0 c0 : Nat) (A4 : Option Addr) (c4 : Nat) (x0 : List S45) (A6 : Option Addr) (n6 c6 : Nat) (y0 : List S45) : Prop where
 a : W.heap[ga]? = some (.cells #[.slice A0 n0 c0] 24 (0, 0))
 b4 : W.heap[g4]? = some (.cells #[.slice A4 x0.length c4] 29 (0, 0))
 b6 : W.heap[g6]? = some (.cells #[.slice A6 n6 c6] 29 (0, 0))
 r4 : Kd.C k45 wx A4 x0.length x0
 l4 : x0.length ≤ c4
 s6 : Kd.S k45 45 W wx.heap.size P (.slice A6 n6 c6) y0
 lx : Below wx.heap.size wx W
 low : Below w.heap.size w wx
 oa : ga < wx.heap.size
 o4 : g4 < wx.heap.size
 o6 : ¬ P g6
 o7 : ∀ k, P k → wx.heap.size ≤ k
variable {P : Nat → Prop} {n6' : Nat}
theorem TiB.below (h : TiB w wx W ga g4 g6 P A0 n0 c0 A4 c4 x0 A6 n6 c6 y0) (hb : Below W.heap.size W W2) : TiB w wx W2 ga g4 g6 P A0 n0 c0 A4 c4 x0 A6 n6 c6 y0 :=
 ⟨blk_below h.a hb, blk_below h.b4 hb, blk_below h.b6 hb, h.r4, h.l4, Kd.S_below h.s6 hb, below_step h.lx hb, h.low, h.oa, h.o4, h.o6, h.o7⟩
theorem TiB.row6 (h : TiB w wx W ga g4 g6 P A0 n0 c0 A4 c4 x0 A6 n6 c6 y0) : n6 ≤ c6 ∧ Kd.C k45 W A6 y0.length y0 ∧ n6 = y0.length := ⟨(Kd.R_reads' (Kd.S_R h.s6)).2.1, (Kd.R_reads' (Kd.S_R h.s6)).2.2, (Kd.R_reads' (Kd.S_R h.s6)).1⟩
theorem TiA.mark5 (h : TiA w wx W ga g4 g5 g6 n5 m6 n6 A0 n0 c0 A4 c4 x0 A5 c5 ta A6 c6 y0) (hl : Below wx.heap.size wx W2) (hk : Kept W W2 (fun k => wx.heap.size ≤ k ∧ k < n5)) : TiB w wx W2 ga g4 g6 (fun k => m6 ≤ k ∧ k < n6) A0 n0 c0 A4 c4 x0 A6 y0.length c6 y0 :=
 ⟨blk_kept h.a hk (fun h_ => by have := h.oa; omega), blk_kept h.b4 hk (fun h_ => by have := h.o4; omega), blk_kept h.b6 hk (fun h_ => by have := h.o5; have := h.o6; have := h.o7; omega), h.r4, h.l4, Kd.S_kept h.s6 hk (fun k h1 h2 => by have := h.o5; omega), hl, h.low, h.oa, h.o4, fun h_ => by have := h.o6; omega, fun k hk_ => by have := h.o5; have := h.o8; omega⟩
theorem TiB.mark6 (h : TiB w wx W ga g4 g6 P A0 n0 c0 A4 c4 x0 A6 n6 c6 y0) (hS : Kd.S k45 45 W2 wx.heap.size (fun k => P k ∨ W.heap.size ≤ k) (.slice A6 n6 c6) z0) (hl : Below wx.heap.size wx W2) (hk : Kept W W2 P) : TiB w wx W2 ga g4 g6 (fun k => P k ∨ W.heap.size ≤ k) A0 n0 c0 A4 c4 x0 A6 n6 c6 z0 :=
 ⟨blk_kept h.a hk (fun h_ => by have := h.o7 _ h_; have := h.oa; omega), blk_kept h.b4 hk (fun h_ => by have := h.o7 _ h_; have := h.o4; omega), blk_kept h.b6 hk h.o6, h.r4, h.l4, hS, hl, h.low, h.oa, h.o4, fun h_ => h_.elim h.o6 (fun h2 => by have := blk_lt h.b6; omega), fun k h_ => h_.elim (h.o7 k) (fun h2 => Nat.le_trans h.lx.size h2)⟩
end
set_option maxHeartbeats 16000000 in
set_option maxRecDepth 100000 in
theorem laws_FnExactTreeTidy.calls (k : Nat) (A0_0 : Option Addr) (c0_0 : Nat) (l0_0 : List S39) (r : Bool) (w : World) (hr0_0 : Kd.C k39 w A0_0 l0_0.length l0_0) (hc0_0 : l0_0.length ≤ c0_0) (h : laws_FnExactTreeTidy.f k l0_0 = some r) :
 Calls Try.prog 5 #[.agg #[.slice A0_0 l0_0.length c0_0]] w fun e w' => e = .returned (.bool r) ∧ Below w.heap.size w w' := by
 unfold laws_FnExactTreeTidy.f at h
 obtain ⟨t1, E1, h⟩ := Option.bind_eq_some_iff.1 h
 replace E1 := Aside0.mk E1
 have HA := Aside0.mk h
 have HC := Aside0.mk hr0_0
 have HCC := Aside0.mk hc0_0
 clear h hr0_0 hc0_0
 go_enter Try.func5, Try.ntmps5
 go_upto_region 1 with (first | ((with_reducible refine gate_dst (N := 1) rfl ?_); refine box_event ?hg (N := 1) ?hd (cs := #[.slice A0_0 l0_0.length c0_0]) (t := 24) ?hr ?_; (case hd => rfl); (case hg => rfl); (case hr => first | (go_simp; done) | (go_simp; rfl)); intro ga hg w1 hbox hb; have HG := Aside0.mk hbox; have HL := Aside0.mk hb; clear hbox hb hg))
 have hca := blk_cell HG.out 0
 have H := HA.out
 by_cases c1 : t1 < 0
 · rw [if_pos c1] at H
   obtain rfl := Option.some.inj H
   clear H HA
   have c1b : decide (t1 < 0) = true := decide_eq_true c1
   go_wp2_with (first | (go_at_call 10; (with_reducible refine (laws_szTree.calls k A0_0 c0_0 l0_0 1048576 t1 w1 (Kd.C_below HC.out HL.out) HCC.out E1.out).mono ?_); rintro e w2 ⟨rfl, hb⟩; have HG2 := Aside0.mk (blk_below HG.out hb); have HL2 := Aside0.mk (below_step HL.out hb); have hca2 := blk_cell HG2.out 0; clear hb))
   go_ret
   exact ⟨rfl, HL2.out⟩
 · rw [if_neg c1] at H
   have c1b : decide (t1 < 0) = false := decide_eq_false c1
   clear c1 HA
   obtain ⟨ta, E2, H⟩ := Option.bind_eq_some_iff.1 H
   obtain ⟨x0, E3, H⟩ := Option.bind_eq_some_iff.1 H
   obtain ⟨y0, E4, H⟩ := Option.bind_eq_some_iff.1 H
   obtain ⟨e0, E5, H⟩ := Option.bind_eq_some_iff.1 H
   obtain ⟨e1, E6, H⟩ := Option.bind_eq_some_iff.1 H
   obtain ⟨⟨m5, z5⟩, E7, H⟩ := Option.bind_eq_some_iff.1 H
   obtain ⟨⟨m6, z6⟩, E8, H⟩ := Option.bind_eq_some_iff.1 H
   obtain ⟨q, E9, H⟩ := Option.bind_eq_some_iff.1 H
   by_cases c2 : e0 = true ∧ e1 = true ∧ 0 ≤ m5 ∧ 0 ≤ q ∧ q = m6
   · rw [if_pos c2] at H
     obtain rfl := Option.some.inj H
     obtain ⟨rfl, rfl, g5, g6, rfl⟩ := c2
     replace E2 := Aside0.mk E2
     replace E3 := Aside0.mk E3
     replace E4 := Aside0.mk E4
     replace E5 := Aside0.mk E5
     replace E6 := Aside0.mk E6
     replace E7 := Aside0.mk E7
     replace E8 := Aside0.mk E8
     replace E9 := Aside0.mk E9
     have g5b : decide (m5 < 0) = false := decide_eq_false (by omega)
     have g6b : decide (q < 0) = false := decide_eq_false (by omega)
     have g7b : (q != q) = false := by simp
     clear H g5 g6
     go_upto_region 6 with (first | (go_at_call 10; (with_reducible refine (laws_szTree.calls k A0_0 c0_0 l0_0 1048576 t1 w1 (Kd.C_below HC.out HL.out) HCC.out E1.out).mono ?_); rintro e w2 ⟨rfl, hb⟩; have HG2 := Aside0.mk (blk_below HG.out hb); have HL2 := Aside0.mk (below_step HL.out hb); have hca2 := blk_cell HG2.out 0; clear hb) | (go_at_call 12; (with_reducible refine (laws_toTree.calls k A0_0 c0_0 l0_0 ta w2 (Kd.C_below HC.out HL2.out) HCC.out E2.out).mono ?_); rintro e w3 ⟨v, rfl, hS, hb⟩; obtain ⟨Ap, cp, rfl⟩ := Kd.S_slice hS; have HG3 := Aside0.mk (blk_below HG2.out hb); have HL3 := Aside0.mk (below_step HL2.out hb); have HP3 := Aside0.mk (Kd.R_reads' (Kd.S_R hS)).2; have hca3 := blk_cell HG3.out 0; clear hS hb) | (go_at_call 17; (with_reducible refine (spec_TreeTidy.calls k Ap cp ta x0 w3 HP3.out.2 HP3.out.1 E3.out).mono ?_); rintro e w4 ⟨v, rfl, hS, hb⟩; obtain ⟨A4, c4, rfl⟩ := Kd.S_slice hS; have HG4 := Aside0.mk (blk_below HG3.out hb); have HL4 := Aside0.mk (below_step HL3.out hb); have HW4 := Aside0.mk (Kd.R_reads' (Kd.S_R hS)).2; clear hS hb))
     clear hca hca2 hca3 c1b
     have hX := blk_new w4 (.cells #[.slice A4 x0.length c4] 29)
     have hl := below_alloc (Below.refl w4.heap.size w4) (.cells #[.slice A4 x0.length c4] 29)
     generalize w4.alloc (.cells #[.slice A4 x0.length c4] 29) = wx at hX hl ⊢
     have HGX := Aside0.mk (blk_below HG4.out hl)
     have HR4 := Aside0.mk (Kd.C_below HW4.out.2 hl)
     have HLX := Aside0.mk (below_step HL4.out hl)
     have HB4 := Aside0.mk hX
     clear hX hl
     generalize w4.heap.size = g4 at HB4 ⊢
     have hcaX := blk_cell HGX.out 0
     go_upto_region 7 with (first | (go_at_call 12; (with_reducible refine (laws_toTree.calls k A0_0 c0_0 l0_0 ta wx (Kd.C_below HC.out HLX.out) HCC.out E2.out).mono ?_); rintro e w5 ⟨v, rfl, hS, hb⟩; obtain ⟨A5, c5, rfl⟩ := Kd.S_slice hS; have HG5 := Aside0.mk (blk_below HGX.out hb); have HB45 := Aside0.mk (blk_below HB4.out hb); have HL5 := Aside0.mk hb; have HS5 := Aside0.mk (Kd.S_mono (Kd.S_bound hS) (ok' := fun k_ => wx.heap.size ≤ k_ ∧ k_ < w5.heap.size) (fun k_ hk => ⟨hk.2.1, hk.2.2.1⟩)); clear hS hb))
     clear hcaX
     have hX := blk_new w5 (.cells #[.slice A5 ta.length c5] 29)
     have hl := below_alloc (Below.refl w5.heap.size w5) (.cells #[.slice A5 ta.length c5] 29)
     generalize w5.alloc (.cells #[.slice A5 ta.length c5] 29) = w6 at hX hl ⊢
     have HG6 := Aside0.mk (blk_below HG5.out hl)
     have HB46 := Aside0.mk (blk_below HB45.out hl)
     have HS56 := Aside0.mk (Kd.S_below HS5.out hl)
     have HL6 := Aside0.mk (below_step HL5.out hl)
     have HB56 := Aside0.mk hX
     have HN5 := Aside0.mk (show w5.heap.size ≤ w6.heap.size from hl.size)
     have HO8 := Aside0.mk (show wx.heap.size ≤ w5.heap.size from HL5.out.size)
     clear hX hl
     generalize HE5 : w5.heap.size = n5 at HB56 HS56 HN5 HO8 ⊢
     clear HE5
     have hc5 := blk_cell HB56.out 0
     go_upto_region 8 with (first | (go_at_call 18; (with_reducible refine (impl_TreeTidy.calls k A5 c5 ta y0 w6 (Kd.R_reads' (Kd.S_R HS56.out)).2.2 (Kd.R_reads' (Kd.S_R HS56.out)).2.1 E4.out).mono ?_); rintro e w7 ⟨v, rfl, hS, hb⟩; obtain ⟨A6, c6, rfl⟩ := Kd.S_slice hS; have HG7 := Aside0.mk (blk_below HG6.out hb); have HB47 := Aside0.mk (blk_below HB46.out hb); have HB57 := Aside0.mk (blk_below HB56.out hb); have HS57 := Aside0.mk (Kd.S_below HS56.out hb); have HL7 := Aside0.mk (below_step HL6.out hb); have HLE := Aside0.mk hb.size; have HS6 := Aside0.mk (Kd.S_lower (Kd.S_mono (Kd.S_bound hS) (ok' := fun k_ => w6.heap.size ≤ k_ ∧ k_ < w7.heap.size) (fun k_ hk => ⟨hk.2.1, hk.2.2.1⟩)) HL6.out.size); clear hS hb))
     clear hc5
     have hX := blk_new w7 (.cells #[.slice A6 y0.length c6] 29)
     have hl := below_alloc (Below.refl w7.heap.size w7) (.cells #[.slice A6 y0.length c6] 29)
     generalize w7.alloc (.cells #[.slice A6 y0.length c6] 29) = w8 at hX hl ⊢
     have HT := Aside0.mk (show TiA w wx w8 ga g4 n5 w7.heap.size n5 w6.heap.size w7.heap.size A0_0 l0_0.length c0_0 A4 c4 x0 A5 c5 ta A6 c6 y0 from ⟨blk_below HG7.out hl, blk_below HB47.out hl, blk_below HB57.out hl, hX, HR4.out, HW4.out.1, Kd.S_below HS57.out hl, Kd.S_below HS6.out hl, below_step HL7.out hl, HLX.out, blk_lt HGX.out, blk_lt HB4.out, HN5.out, Nat.le_refl _, HLE.out, HO8.out⟩)
     clear hX hl
     generalize w7.heap.size = g6 at HT ⊢
     have hc6 := blk_cell HT.out.b6 0
     have hc4 := blk_cell HT.out.b4 0
     go_upto_region 10 with (first | (go_at_call 14; (with_reducible refine (laws_eqTree.calls k A6 c6 y0 A4 c4 x0 true w8 HT.out.row6.2 HT.out.row6.1 (Kd.C_below HT.out.r4 HT.out.lx) HT.out.l4 E5.out).mono ?_); rintro e w9 ⟨rfl, hb⟩; have HT9 := Aside0.mk (HT.out.below hb); clear hb))
     clear hc6 hc4
     have HTD := Aside0.mk HT9.out.drew
     have hc5 := blk_cell HT9.out.b5 0
     have hca := blk_cell HT9.out.a 0
     go_region_held3 (fun w' => w'.cell? ⟨n5, 0, none⟩ = some (.slice A5 ta.length c5) ∧ w'.cell? ⟨ga, 0, none⟩ = some (.slice A0_0 l0_0.length c0_0)) (first | exact ⟨hc5, hca⟩ | exact ⟨hc5A, hcaA⟩ | exact ⟨hc5B, hcaB⟩) (first | (go_at_call 12; (with_reducible refine (laws_toTree.calls k A0_0 c0_0 l0_0 ta _ (Kd.C_below HC.out (below_step HTD.out.low HTD.out.lx)) HCC.out E2.out).mono ?_); rintro e wA ⟨v, rfl, hS, hb⟩; obtain ⟨Ap, cp, rfl⟩ := Kd.S_slice hS; have HTA := Aside0.mk (HTD.out.below hb); have HPA := Aside0.mk (Kd.R_reads' (Kd.S_R hS)).2; have hc5A := blk_cell HTA.out.b5 0; have hcaA := blk_cell HTA.out.a 0; clear hS hb) | (go_at_call 14; (with_reducible refine (laws_eqTree.calls k A5 c5 ta Ap cp ta true _ HTA.out.row5.2 HTA.out.row5.1 HPA.out.2 HPA.out.1 E6.out).mono ?_); rintro e wB ⟨rfl, hb⟩; have HTB := Aside0.mk (HTA.out.below hb); have hc5B := blk_cell HTB.out.b5 0; have hcaB := blk_cell HTB.out.a 0; clear hb))
     clear hc5 hca hc5A hcaA hcaB
     have hc5 := hc5B
     clear hc5B
     go_upto_region 14 with (first | (go_at_call 19; (with_reducible refine (laws_markTree.calls k (fun k_ => wx.heap.size ≤ k_ ∧ k_ < n5) _ ta 1 m5 z5 wx wB HTB.out.lx HTB.out.s5 E7.out).mono ?_); rintro e wC ⟨rfl, _, hl, hk⟩; have HU := Aside0.mk (HTB.out.mark5 hl hk); clear hl hk))
     clear hc5
     have hc6 := blk_cell HU.out.b6 0
     have hc4 := blk_cell HU.out.b4 0
     go_upto_region 16 with (first | (go_at_call 14; (with_reducible refine (laws_eqTree.calls k A6 c6 y0 A4 c4 x0 true wC HU.out.row6.2.1 HU.out.row6.1 (Kd.C_below HU.out.r4 HU.out.lx) HU.out.l4 E5.out).mono ?_); rintro e wE ⟨rfl, hb⟩; have HU2 := Aside0.mk (HU.out.below hb); clear hb))
     clear hc6 hc4
     have hc6 := blk_cell HU2.out.b6 0
     go_upto_region 18 with (first | (go_at_call 19; (with_reducible refine (laws_markTree.calls k _ _ y0 1 q z6 wx wE HU2.out.lx HU2.out.s6 E8.out).mono ?_); rintro e wF ⟨rfl, hS, hl, hk⟩; have HV := Aside0.mk (HU2.out.mark6 hS hl hk); clear hS hl hk))
     clear hc6
     have hc6 := blk_cell HV.out.b6 0
     have HVC := Aside0.mk HV.out.row6
     go_upto_region 24 with (first | (go_at_call 20; rw [HVC.out.2.2]; (with_reducible refine (laws_heldTree.calls k A6 c6 z6 1 q wF HVC.out.2.1 (HVC.out.2.2 ▸ HVC.out.1) E9.out).mono ?_); rintro e wG ⟨rfl, hb⟩; have HV2 := Aside0.mk (HV.out.below hb); clear hb))
     clear hc6
     have hca := blk_cell HV2.out.a 0
     go_upto_region 25 with (first | (go_at_call 12; (with_reducible refine (laws_toTree.calls k A0_0 c0_0 l0_0 ta wG (Kd.C_below HC.out (below_step HV2.out.low HV2.out.lx)) HCC.out E2.out).mono ?_); rintro e wI ⟨v, rfl, hS, hb⟩; obtain ⟨Ap3, cp3, rfl⟩ := Kd.S_slice hS; have HV3 := Aside0.mk (HV2.out.below hb); have HP3b := Aside0.mk (Kd.R_reads' (Kd.S_R hS)).2; clear hS hb) | (go_at_call 18; (with_reducible refine (impl_TreeTidy.calls k Ap3 cp3 ta y0 wI HP3b.out.2 HP3b.out.1 E4.out).mono ?_); rintro e wJ ⟨v, rfl, hS, hb⟩; obtain ⟨Ah, ch, rfl⟩ := Kd.S_slice hS; have HV4 := Aside0.mk (HV3.out.below hb); have HRJ := Aside0.mk (Kd.S_R hS); clear hS hb))
     clear hca
     have hX := blk_new wJ (.cells #[.slice Ah y0.length ch] 29)
     have hl := below_alloc (Below.refl wJ.heap.size wJ) (.cells #[.slice Ah y0.length ch] 29)
     generalize wJ.alloc (.cells #[.slice Ah y0.length ch] 29) = wK at hX hl ⊢
     have HV5 := Aside0.mk (HV4.out.below hl)
     have HRH := Aside0.mk (Kd.R_below HRJ.out hl)
     have HBH := Aside0.mk hX
     clear hX hl
     generalize wJ.heap.size = gh at HBH ⊢
     have hch := blk_cell HBH.out 0
     have hc4 := blk_cell HV5.out.b4 0
     have hc6 := blk_cell HV5.out.b6 0
     go_upto_region 28 with (first | (go_at_call 14; (with_reducible refine (laws_eqTree.calls k Ah ch y0 A4 c4 x0 true wK (Kd.R_reads' HRH.out).2.2 (Kd.R_reads' HRH.out).2.1 (Kd.C_below HV5.out.r4 HV5.out.lx) HV5.out.l4 E5.out).mono ?_); rintro e wM ⟨rfl, hb⟩; have HV6 := Aside0.mk (HV5.out.below hb); clear hb))
     clear hch hc4 hc6
     have hc6 := blk_cell HV6.out.b6 0
     have HVD := Aside0.mk HV6.out.row6
     go_wp2_with (first | (go_at_call 20; (try rw [HVD.out.2.2]); (with_reducible refine (laws_heldTree.calls k A6 c6 z6 1 q wM HVD.out.2.1 (HVD.out.2.2 ▸ HVD.out.1) E9.out).mono ?_); rintro e wO ⟨rfl, hb⟩; have HV7 := Aside0.mk (HV6.out.below hb); clear hb))
     go_ret
     exact ⟨rfl, below_step HV7.out.low HV7.out.lx⟩
   · rw [if_neg c2] at H; cases H
end Go.Proofs.Ytgneacekgbjkkaa.X
