/- What the Go functions that FnExactPrintOf reaches compute, and that their walks come to just that (written by a program of this project over the kit's print). Conditions: as each states. -/
import Derived.Test.YtlnmmcipioagaaaGreatDoorKFnExactPrintOfx3
set_option maxHeartbeats 64000000
set_option maxRecDepth 100000
namespace Go.Proofs.YtlnmmcipioagaaaGreatDoor.X
open Go.RowKit Go.Proofs.YtlnmmcipioagaaaGreatDoorW.PrintWords Go.Proofs.YtlnmmcipioagaaaGreatDoorW.PrintLast Go.Proofs.YtlnmmcipioagaaaGreatDoorW.PrintMore
attribute [local go_sem] max2_int min2_int max_two min_two max_three min_three max_four min_four
set_option linter.unusedVariables false
set_option linter.unusedSimpArgs false
mutual
def impl_Tree_below.l0 : Nat → List Int → List Int → List (S41) → Option (List Int)
 | 0, _, _, _ => none
 | k + 1, x5, x6, x1000 => if (x6.length : Int) > 0 then (if 0 ≤ (wrap64 ((x6.length : Int) - 1)) then (if (wrap64 ((x6.length : Int) - 1)) < (x6.length : Int) then (if (wrap64 ((x6.length : Int) - 1)) ≤ (x6.length : Int) then (if x5.length < 17592186044416 then (if 0 ≤ (rd x6 (wrap64 ((x6.length : Int) - 1))) then (if (rd x6 (wrap64 ((x6.length : Int) - 1))) < (x1000.length : Int) then (impl_Tree_below.l1 k (x5 ++ [rd x6 (wrap64 ((x6.length : Int) - 1))]) (x6.take ((wrap64 ((x6.length : Int) - 1)) : Int).toNat) ((rd_T41 x1000 (rd x6 (wrap64 ((x6.length : Int) - 1)))).f5) (wrap64 ((((rd_T41 x1000 (rd x6 (wrap64 ((x6.length : Int) - 1)))).f5).length : Int) - 1)) x1000) else (none)) else (none)) else (none)) else (none)) else (none)) else (none)) else (some x5)
def impl_Tree_below.l1 : Nat → List Int → List Int → List Int → Int → List (S41) → Option (List Int)
 | 0, _, _, _, _, _ => none
 | k + 1, x5, x6, x8, x9, x1000 => if x9 ≥ 0 then (if 0 ≤ x9 then (if x9 < (x8.length : Int) then (if x6.length < 17592186044416 then (impl_Tree_below.l1 k x5 (x6 ++ [rd x8 x9]) x8 (wrap64 (x9 - 1)) x1000) else (none)) else (none)) else (none)) else (impl_Tree_below.l0 k x5 x6 x1000)
end
def impl_Tree_below.f (k : Nat) (s0_0 : List (S41)) (a1 : Int) : Option (List Int) := impl_Tree_below.l0 k ([] : List Int) (([a1] : List Int)) s0_0
theorem impl_Tree_below.mono_l : ∀ k, (∀ y0 y1 y2, LeO (impl_Tree_below.l0 k y0 y1 y2) (impl_Tree_below.l0 (k + 1) y0 y1 y2)) ∧ (∀ y0 y1 y2 y3 y4, LeO (impl_Tree_below.l1 k y0 y1 y2 y3 y4) (impl_Tree_below.l1 (k + 1) y0 y1 y2 y3 y4))
 | 0 => ⟨fun _ _ _ r h => by simp [impl_Tree_below.l0] at h, fun _ _ _ _ _ r h => by simp [impl_Tree_below.l1] at h⟩
 | k + 1 => by
  obtain ⟨ih0, ih1⟩ := impl_Tree_below.mono_l k
  refine ⟨?_, ?_⟩
  ·intro y0 y1 y2
   unfold impl_Tree_below.l0
   repeat' (with_reducible first | exact ih0 _ _ _ | exact ih1 _ _ _ _ _ | exact LeO.refl _ | exact LeO.none _ | refine LeO.ite ?_ ?_ | refine LeO.bind ?_ (fun _ => ?_))
  ·intro y0 y1 y2 y3 y4
   unfold impl_Tree_below.l1
   repeat' (with_reducible first | exact ih0 _ _ _ | exact ih1 _ _ _ _ _ | exact LeO.refl _ | exact LeO.none _ | refine LeO.ite ?_ ?_ | refine LeO.bind ?_ (fun _ => ?_))
theorem impl_Tree_below.mono : ∀ a0 a1 k, LeO (impl_Tree_below.f k a0 a1) (impl_Tree_below.f (k + 1) a0 a1) := by
 intro a0 a1 k
 obtain ⟨ih0, ih1⟩ := impl_Tree_below.mono_l k
 unfold impl_Tree_below.f
 repeat' (with_reducible first | exact ih0 _ _ _ | exact ih1 _ _ _ _ _ | exact LeO.refl _ | exact LeO.none _ | refine LeO.ite ?_ ?_ | refine LeO.bind ?_ (fun _ => ?_))
theorem impl_Tree_below.calls (k : Nat) (g : Nat) (s0_0 : List (S41)) (a1 : Int) (r : List Int) (w0 w : World) (hI : IsS29 w0 w g s0_0) (hB : Below w0.heap.size w0 w) (h : impl_Tree_below.f k s0_0 a1 = some r) :
 Calls Tryz.prog 34 #[.pointer (some ⟨g, 0, none⟩), .int .i64 a1] w fun e w' => ∃ v0_ : Value, e = .returned (v0_) ∧ Kd.R (Kd.int .i64) 3 w' w.heap.size (fun _ => True) v0_ r ∧ IsS29 w0 w' g s0_0 ∧ Below w0.heap.size w0 w' ∧ KeepBut w w' g none := by
 have HI0 := Ak hI
 have HK := Ak (KeepBut.refl w g none)
 have HL := Ak hB.size
 clear hI
 have HW0 := Ak hB.size
 have HB := Ak hB
 clear hB
 have H : (impl_Tree_below.l0 k ([] : List Int) (([a1] : List Int)) s0_0) = some r := h
 clear h
 obtain ⟨y101, hy101⟩ : ∃ y_ : List Int, y_ = (([a1] : List Int)) := ⟨_, rfl⟩
 replace H : (impl_Tree_below.l0 k ([] : List Int) y101 s0_0) = some r := by rw [hy101]; exact H
 have Ny101 := Ak hy101
 clear hy101
 have H' := Ak H
 clear H
 go_enter Tryz.func34, Tryz.ntmps34
 go_wp2_with (first | ((with_reducible refine gate_dst (N := 11) rfl ?_); refine Kd.R_lit (Kd.int .i64) _ 3 ?hg (N := 11) ?hd (xs := ([a1] : List Int)) (inner := [.int .i64 a1]) (ok := fun _ => True) (okp := fun _ => True) ?hr ?hp (fun _ hk => hk) trivial (Below.refl _ _) (Nat.le_refl _) (by simp) ?_; (case hd => rfl); (case hg => rfl); (case hr => first | (go_simp; done) | (go_simp; rfl)); (case hp => exact (Reps.one (show Kd.M (Kd.int .i64) _ _ _ a1 [.int .i64 a1] from rfl) (Reps.none _ _))); intro v102 w3 ho4 hb hg_ hnew_; clear hg_ hnew_; (first | rw [← Ny101.out] at ho4 | (simp only [Int.reduceToNat] at ho4; rw [← Ny101.out] at ho4)); replace HO103 := Ak (Kd.R_lower ho4 (keep_size (w := w) (g := g) (row := none) (HK.out))); replace HI0 := Ak (IsS29.below (HI0.out) hb); replace HK := Ak (KeepBut.trans (HK.out) (KeepBut.of_below hb g none) (.inl rfl)); replace HB := Ak (below_step (by repeat (first | exact HB.out | apply below_alloc | apply pw_below_drewN | apply below_drew1 | refine below_set ?_ (IsS29.ge HI0.out))) hb); clear hb ho4))
 go_loopg [5, 6] k (fun kq v5 v6 w' => ∃ (x5_1 : List Int) (x6_1 : List Int), Aside0 (impl_Tree_below.l0 kq x5_1 x6_1 s0_0 = some r) ∧ Aside0 (kq ≤ k) ∧ Aside0 (Kd.R (Kd.int .i64) 3 w' w.heap.size (fun k_ => some k_ ≠ (v6 : Value).ownBlock) v5 x5_1) ∧ Aside0 (Kd.R (Kd.int .i64) 3 w' w.heap.size (fun k_ => some k_ ≠ (v5 : Value).ownBlock) v6 x6_1) ∧ Aside0 (IsS29 w0 w' g s0_0) ∧ Aside0 (KeepBut w w' g none) ∧ Aside0 (Below w0.heap.size w0 w'))
 case atStart => exact ⟨(([] : List Int)), (y101), H', ⟨Nat.le_refl _⟩, ⟨by first | exact Kd.R_nil _ _ _ _ _ | exact Kd.N_nil _ _ _ _ _ | exact Kd.V_nil _ _ _ _ _ | exact Kd.Q_nil _ _ _ _ _ | exact Kd.S_nil _ _ _ _ _⟩, ⟨by (with_reducible repeat (first | apply Kd.R_alloc | apply Kd.R_drewN | apply Kd.R_drew)); exact Kd.R_mono HO103.out (fun _ hk => (by simp [Value.ownBlock]))⟩, ⟨HI0.out⟩, ⟨HK.out⟩, ⟨by repeat (first | exact HB.out | apply below_alloc | apply pw_below_drewN | apply below_drew1 | refine below_set ?_ (IsS29.ge HI0.out))⟩⟩
 case round =>
  clear H'
  obtain ⟨x5_1, x6_1, HA, HK1, HO_5, HO_6, HI0, HK, HB⟩ := hrel
  cases gk with
  | zero => exact absurd HA.out (by simp [impl_Tree_below.l0])
  | succ k1 =>
   have H := HA.out
   clear HA
   simp only [impl_Tree_below.l0] at H
   by_cases c5 : (x6_1.length : Int) > 0
   ·rw [if_pos c5] at H
    have c5b0 : decide (0 < (x6_1.length : Int)) = true := decide_eq_true c5
    have c5b1 : decide (0 < x6_1.length) = true := decide_eq_true (by omega)
    clear c5
    obtain ⟨ji6, hji6⟩ : ∃ j_ : Int, (wrap64 ((x6_1.length : Int) - 1)) = j_ := ⟨_, rfl⟩
    replace H : (if 0 ≤ (ji6) then (if (ji6) < (x6_1.length : Int) then (if (ji6) ≤ (x6_1.length : Int) then (if x5_1.length < 17592186044416 then (if 0 ≤ (rd x6_1 (ji6)) then (if (rd x6_1 (ji6)) < (s0_0.length : Int) then (impl_Tree_below.l1 k1 (x5_1 ++ [rd x6_1 (ji6)]) (x6_1.take ((ji6) : Int).toNat) ((rd_T41 s0_0 (rd x6_1 (ji6))).f5) (wrap64 ((((rd_T41 s0_0 (rd x6_1 (ji6))).f5).length : Int) - 1)) s0_0) else (none)) else (none)) else (none)) else (none)) else (none)) else (none)) = some r := by first | (rw [hji6] at H; exact H) | (simp only [hji6] at H ⊢; exact H)
    have hji6w : (IntKind.i64.wrap ((x6_1.length : Int) - 1)) = ji6 := (i64_w _).trans hji6
    by_cases c7 : 0 ≤ (ji6)
    ·rw [if_pos c7] at H
     have c7b0 := decide_eq_true c7
     clear c7
     by_cases c8 : (ji6) < (x6_1.length : Int)
     ·rw [if_pos c8] at H
      have c8b0 := decide_eq_true c8
      clear c8
      by_cases c9 : (ji6) ≤ (x6_1.length : Int)
      ·rw [if_pos c9] at H
       have c9b0 := eq_true c9
       have c9b1 := decide_eq_true c9
       clear c9
       obtain ⟨y105, hy105⟩ : ∃ y_ : List Int, y_ = (x6_1.take ((ji6) : Int).toNat) := ⟨_, rfl⟩
       replace H : (if x5_1.length < 17592186044416 then (if 0 ≤ (rd x6_1 (ji6)) then (if (rd x6_1 (ji6)) < (s0_0.length : Int) then (impl_Tree_below.l1 k1 (x5_1 ++ [rd x6_1 (ji6)]) y105 ((rd_T41 s0_0 (rd x6_1 (ji6))).f5) (wrap64 ((((rd_T41 s0_0 (rd x6_1 (ji6))).f5).length : Int) - 1)) s0_0) else (none)) else (none)) else (none)) = some r := by rw [hy105]; exact H
       have Ny105 := Ak hy105
       clear hy105
       by_cases c10 : x5_1.length < 17592186044416
       ·rw [if_pos c10] at H
        have LMc10 := Ak c10
        clear c10
        obtain ⟨y108, hy108⟩ : ∃ y_ : List Int, y_ = (x5_1 ++ [rd x6_1 (ji6)]) := ⟨_, rfl⟩
        replace H : (if 0 ≤ (rd x6_1 (ji6)) then (if (rd x6_1 (ji6)) < (s0_0.length : Int) then (impl_Tree_below.l1 k1 y108 y105 ((rd_T41 s0_0 (rd x6_1 (ji6))).f5) (wrap64 ((((rd_T41 s0_0 (rd x6_1 (ji6))).f5).length : Int) - 1)) s0_0) else (none)) else (none)) = some r := by rw [hy108]; exact H
        have Ny108 := Ak hy108
        clear hy108
        by_cases c11 : 0 ≤ (rd x6_1 (ji6))
        ·rw [if_pos c11] at H
         have c11b0 := decide_eq_true c11
         clear c11
         by_cases c12 : (rd x6_1 (ji6)) < (s0_0.length : Int)
         ·rw [if_pos c12] at H
          have c12b0 := decide_eq_true c12
          clear c12
          have H' := Ak H
          clear H
          obtain ⟨Ao13, co13, eo13⟩ := Kd.R_slice HO_6.out
          subst eo13
          have p104 : 0 ≤ ((ji6) : Int) := of_decide_eq_true (by assumption)
          have q104 : (ji6) < (x6_1.length : Int) := of_decide_eq_true (by assumption)
          obtain ⟨ad104, e104, hx104_0⟩ := Kd.at_int (Kd.R_reads' HO_6.out).2.2 (ji6) p104 q104
          cases e104
          replace p104 := eq_true p104
          replace q104 := eq_true q104
          have q14 : ((ji6) : Int) ≤ ((x6_1.length : Int) : Int) := of_decide_eq_true (by assumption)
          obtain ⟨i014, hi014, _, hsz14, _⟩ := info_parts info3
          have hcut14 := cut_to (P := Tryz.prog) 39 3 .i64 Tryz.underlying39 hi014 (some ad104) x6_1.length co13 (ji6) (of_decide_eq_true (by assumption)) q14 (Kd.R_reads' HO_6.out).2.1
          have hr14 := Kd.R_take (m := ((ji6) : Int).toNat) HO_6.out (by omega)
          have hy14 : y105.length = ((ji6) : Int).toNat := (by rw [Ny105.out, List.length_take]; omega)
          rw [← Ny105.out] at hr14
          rw [← hy14] at hr14 hcut14
          clear hy14 hi014 hsz14 HO_6
          have HO107 := Ak hr14
          clear hr14
          replace q14 := eq_true q14
          go_wp2_with (first | ((with_reducible refine gate_builtin (b := .append) (xs := #[.tmp 26, .tmp 28]) rfl ?_); at_builtin; refine Kd.R_append (Kd.int .i64) w.heap.size rfl (.tmp 26) (.tmp 28) 39 3 (.int .i64 0) 8 rfl Tryz.underlying39 info3 rfl (by decide) (by omega) u5 x5_1 (rd x6_1 (ji6)) [.int .i64 (rd x6_1 (ji6))] (fun k_ => some k_ ≠ (.slice (some ad104) y105.length co13 : Value).ownBlock) (fun _ => False) rfl rfl ?aP (fun _ hk => hk.elim) ?aF ?aO (Below.refl _ _) ?aS ?aL ?_; (case aP => exact rfl); (case aF => exact (fun k_ hk => Kd.fresh' (Kd.R_lt HO107.out) k_ hk)); (case aO => exact HO_5.out); (case aS => exact (keep_size (w := w) (g := g) (row := none) (HK.out))); (case aL => have := LMc10.out; omega); intro v109 w15 ho hb hg hat; rw [← Ny108.out] at ho; replace HO107 := Ak (Kd.R_after (ok := (fun _ => True)) (by (with_reducible repeat (first | apply Kd.R_alloc | apply Kd.R_drewN | apply Kd.R_drew)); exact Kd.R_mono HO107.out (fun _ hk => ⟨trivial, hk⟩)) hg hat); replace HI0 := Ak (IsS29.grown (HI0.out) hg (IsS29.own_ne HI0.out HO_5.out (by decide))); replace HK := Ak (KeepBut.trans (HK.out) (KeepBut.of_grown hg g) (Kd.R_base2 HO_5.out)); replace HO110 := Ak (ho); replace HB := Ak (below_weaken (by repeat (first | exact HB.out | apply below_alloc | apply pw_below_drewN | apply below_drew1 | refine below_set ?_ (IsS29.ge HI0.out))) HL.out hb); clear ho hb hg hat; obtain ⟨ASz16_0, cSz16_0, HGz16, hgz16, HSz16_0⟩ := HI0.out; have hcz16_0 := cellS29_0 HGz16; clear HGz16 hgz16; have p111 : 0 ≤ ((rd x6_1 (ji6)) : Int) := of_decide_eq_true (by assumption); have q111 : (rd x6_1 (ji6)) < (s0_0.length : Int) := of_decide_eq_true (by assumption); obtain ⟨ad111, A111_2, c111_2, A111_5, c111_5, e111, hx111_0, hx111_1, hx111_2, hx111_3, hx111_4, hx111_5, hl111_2, hi111_2, hl111_5, hi111_5⟩ := at_T41 HSz16_0 (rd x6_1 (ji6)) p111 q111; cases e111; replace hx111_0 := pw_cell_below HB.out hx111_0; replace hx111_1 := pw_cell_below HB.out hx111_1; replace hx111_2 := pw_cell_below HB.out hx111_2; replace hx111_3 := pw_cell_below HB.out hx111_3; replace hx111_4 := pw_cell_below HB.out hx111_4; replace hx111_5 := pw_cell_below HB.out hx111_5; have HR111_2 := Ak hi111_2; have HC111_2 := Ak hl111_2; clear hi111_2 hl111_2; have HR111_5 := Ak hi111_5; have HC111_5 := Ak hl111_5; clear hi111_5 hl111_5; replace p111 := eq_true p111; replace q111 := eq_true q111))
          go_loopg [6, 9] k1 (fun kq v6 v9 w' => ∃ (x6_2 : List Int) (x9_2 : Int), v9 = .int .i64 x9_2 ∧ Aside0 (impl_Tree_below.l1 kq y108 x6_2 ((rd_T41 s0_0 (rd x6_1 (ji6))).f5) x9_2 s0_0 = some r) ∧ Aside0 (kq ≤ k1) ∧ Aside0 (Kd.R (Kd.int .i64) 3 w' w.heap.size (fun k_ => some k_ ≠ (v6 : Value).ownBlock) v109 y108) ∧ Aside0 (Kd.R (Kd.int .i64) 3 w' w.heap.size (fun k_ => some k_ ≠ (v109 : Value).ownBlock) v6 x6_2) ∧ Aside0 (IsS29 w0 w' g s0_0) ∧ Aside0 (KeepBut w w' g none) ∧ Aside0 (Below w0.heap.size w0 w'))
          case atStart => exact ⟨(y105), (wrap64 ((((rd_T41 s0_0 (rd x6_1 (ji6))).f5).length : Int) - 1)), (by first | rfl | (simp; done) | (simp only [← hji6] <;> (first | rfl | simp)) | (simp [*]; done)), H', ⟨Nat.le_refl _⟩, ⟨by (with_reducible repeat (first | apply Kd.R_alloc | apply Kd.R_drewN | apply Kd.R_drew)); exact HO110.out⟩, ⟨by (with_reducible repeat (first | apply Kd.R_alloc | apply Kd.R_drewN | apply Kd.R_drew)); exact Kd.R_mono HO107.out (fun _ hk => hk.2)⟩, ⟨HI0.out⟩, ⟨HK.out⟩, ⟨by repeat (first | exact HB.out | apply below_alloc | apply pw_below_drewN | apply below_drew1 | refine below_set ?_ (IsS29.ge HI0.out))⟩⟩
          case round =>
           clear H'
           obtain ⟨x6_2, x9_2, rfl, HA, HK2, HO_5, HO_6, HI0, HK, HB⟩ := hrel
           cases gk with
           | zero => exact absurd HA.out (by simp [impl_Tree_below.l1])
           | succ k2 =>
            have H := HA.out
            clear HA
            simp only [impl_Tree_below.l1] at H
            by_cases c17 : x9_2 ≥ 0
            ·rw [if_pos c17] at H
             have c17b0 : decide (0 ≤ x9_2) = true := decide_eq_true c17
             clear c17
             by_cases c18 : 0 ≤ x9_2
             ·rw [if_pos c18] at H
              have c18b0 := decide_eq_true c18
              clear c18
              by_cases c19 : x9_2 < (((rd_T41 s0_0 (rd x6_1 (ji6))).f5).length : Int)
              ·rw [if_pos c19] at H
               have c19b0 := decide_eq_true c19
               clear c19
               by_cases c20 : x6_2.length < 17592186044416
               ·rw [if_pos c20] at H
                have LMc20 := Ak c20
                clear c20
                obtain ⟨y113, hy113⟩ : ∃ y_ : List Int, y_ = (x6_2 ++ [rd ((rd_T41 s0_0 (rd x6_1 (ji6))).f5) x9_2]) := ⟨_, rfl⟩
                replace H : (impl_Tree_below.l1 k2 y108 y113 ((rd_T41 s0_0 (rd x6_1 (ji6))).f5) (wrap64 (x9_2 - 1)) s0_0) = some r := by rw [hy113]; exact H
                have Ny113 := Ak hy113
                clear hy113
                have H' := Ak H
                clear H
                have p112 : 0 ≤ (x9_2 : Int) := of_decide_eq_true (by assumption)
                have q112 : x9_2 < (((rd_T41 s0_0 (rd x6_1 (ji6))).f5).length : Int) := of_decide_eq_true (by assumption)
                obtain ⟨ad112, e112, hx112_0⟩ := Kd.at_int HR111_5.out x9_2 p112 q112
                cases e112
                replace hx112_0 := pw_cell_below HB.out hx112_0
                replace p112 := eq_true p112
                replace q112 := eq_true q112
                go_wp2_with (first | ((with_reducible refine gate_builtin (b := .append) (xs := #[.tmp 45, .tmp 50]) rfl ?_); at_builtin; refine Kd.R_append (Kd.int .i64) w.heap.size rfl (.tmp 45) (.tmp 50) 39 3 (.int .i64 0) 8 rfl Tryz.underlying39 info3 rfl (by decide) (by omega) u6 x6_2 (rd ((rd_T41 s0_0 (rd x6_1 (ji6))).f5) x9_2) [.int .i64 (rd ((rd_T41 s0_0 (rd x6_1 (ji6))).f5) x9_2)] (fun k_ => some k_ ≠ (v109 : Value).ownBlock) (fun _ => False) rfl rfl ?aP (fun _ hk => hk.elim) ?aF ?aO (Below.refl _ _) ?aS ?aL ?_; (case aP => exact rfl); (case aF => exact (fun k_ hk => Kd.fresh' (Kd.R_lt HO_5.out) k_ hk)); (case aO => exact HO_6.out); (case aS => exact (keep_size (w := w) (g := g) (row := none) (HK.out))); (case aL => have := LMc20.out; omega); intro v114 w21 ho hb hg hat; rw [← Ny113.out] at ho; replace HO_5 := Ak (Kd.R_after (ok := (fun _ => True)) (by (with_reducible repeat (first | apply Kd.R_alloc | apply Kd.R_drewN | apply Kd.R_drew)); exact Kd.R_mono HO_5.out (fun _ hk => ⟨trivial, hk⟩)) hg hat); replace HI0 := Ak (IsS29.grown (HI0.out) hg (IsS29.own_ne HI0.out HO_6.out (by decide))); replace HK := Ak (KeepBut.trans (HK.out) (KeepBut.of_grown hg g) (Kd.R_base2 HO_6.out)); replace HO115 := Ak (ho); replace HB := Ak (below_weaken (by repeat (first | exact HB.out | apply below_alloc | apply pw_below_drewN | apply below_drew1 | refine below_set ?_ (IsS29.ge HI0.out))) HL.out hb); clear ho hb hg hat))
                go_roundg k2
                case measure => have := HK1.out; have := HK2.out; omega
                case rel => exact ⟨(y113), (wrap64 (x9_2 - 1)), rfl, H', ⟨by have := HK1.out; have := HK2.out; omega⟩, ⟨by (with_reducible repeat (first | apply Kd.R_alloc | apply Kd.R_drewN | apply Kd.R_drew)); exact Kd.R_mono HO_5.out (fun _ hk => hk.2)⟩, ⟨by (with_reducible repeat (first | apply Kd.R_alloc | apply Kd.R_drewN | apply Kd.R_drew)); exact HO115.out⟩, ⟨HI0.out⟩, ⟨HK.out⟩, ⟨by repeat (first | exact HB.out | apply below_alloc | apply pw_below_drewN | apply below_drew1 | refine below_set ?_ (IsS29.ge HI0.out))⟩⟩
               ·rw [if_neg c20] at H
                exact absurd H (by simp)
              ·rw [if_neg c19] at H
               exact absurd H (by simp)
             ·rw [if_neg c18] at H
              exact absurd H (by simp)
            ·rw [if_neg c17] at H
             have c17b0 : decide (0 ≤ x9_2) = false := decide_eq_false c17
             clear c17
             have H' := Ak H
             clear H
             go_wp2
             go_roundg k2
             case measure => have := HK1.out; have := HK2.out; omega
             case rel => exact ⟨(y108), (x6_2), H', ⟨by have := HK1.out; have := HK2.out; omega⟩, ⟨by (with_reducible repeat (first | apply Kd.R_alloc | apply Kd.R_drewN | apply Kd.R_drew)); exact HO_5.out⟩, ⟨by (with_reducible repeat (first | apply Kd.R_alloc | apply Kd.R_drewN | apply Kd.R_drew)); exact HO_6.out⟩, ⟨HI0.out⟩, ⟨HK.out⟩, ⟨by repeat (first | exact HB.out | apply below_alloc | apply pw_below_drewN | apply below_drew1 | refine below_set ?_ (IsS29.ge HI0.out))⟩⟩
         ·rw [if_neg c12] at H
          exact absurd H (by simp)
        ·rw [if_neg c11] at H
         exact absurd H (by simp)
       ·rw [if_neg c10] at H
        exact absurd H (by simp)
      ·rw [if_neg c9] at H
       exact absurd H (by simp)
     ·rw [if_neg c8] at H
      exact absurd H (by simp)
    ·rw [if_neg c7] at H
     exact absurd H (by simp)
   ·rw [if_neg c5] at H
    have c5b0 : decide (0 < (x6_1.length : Int)) = false := decide_eq_false c5
    have c5b1 : decide (0 < x6_1.length) = false := decide_eq_false (by omega)
    clear c5
    obtain rfl := Oi H
    obtain ⟨Ao22, co22, eo22⟩ := Kd.R_slice HO_6.out
    subst eo22
    go_wp2
    go_ret
    exact ⟨_, rfl, by (with_reducible repeat (first | apply Kd.R_alloc | apply Kd.R_drewN | apply Kd.R_drew)); exact Kd.R_mono HO_5.out (fun _ hk => trivial), HI0.out, by repeat (first | exact HB.out | apply below_alloc | apply pw_below_drewN | apply below_drew1 | refine below_set ?_ (IsS29.ge HI0.out)), HK.out⟩
/-! The texts that tell words. -/
end Go.Proofs.YtlnmmcipioagaaaGreatDoor.X
