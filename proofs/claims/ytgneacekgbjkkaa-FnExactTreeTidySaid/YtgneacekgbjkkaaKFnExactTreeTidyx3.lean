/- What the Go functions that FnExactTreeTidy reaches compute, and that their walks come to just that (written by a program of this project over the kit's print). Conditions: as each states. -/
import Derived.StillTailTactics
import Derived.Shelf.Abstract
import Derived.Test.YtgneacekgbjkkaaKFnExactTreeTidyx2
namespace Go.Proofs.Ytgneacekgbjkkaa.X
open Go.RowKit Go.Proofs.YtgneacekgbjkkaaW.PrintWords Go.Proofs.YtgneacekgbjkkaaW.PrintLast Go.Proofs.YtgneacekgbjkkaaW.PrintMore
attribute [local go_sem] max2_int min2_int max_two min_two max_three min_three max_four min_four
set_option linter.unusedVariables false
set_option linter.unusedSimpArgs false
mutual
def spec_l6Tidy.f : Nat → List S45 → Int → Int → List S45 → Option (List S45)
 | 0, _, _, _, _ => none
 | k + 1, xs, a1, a2, outs => if 0 ≤ a1 then (if a1 < (xs.length : Int) then (if outs.length < 1000000 then (if (rd_T45 xs a1).f2.length ≤ 1048576 then spec_l6Tidy.l0 k xs (rd_T45 xs a1).f5 0 (outs.length : Int) (outs ++ [⟨(rd_T45 xs a1).f0, (rd_T45 xs a1).f1, (rd_T45 xs a1).f2, (rd_T45 xs a1).f3, a2, []⟩]) else none) else none) else none) else none
def spec_l6Tidy.l0 : Nat → List S45 → List Int → Int → Int → List S45 → Option (List S45)
 | 0, _, _, _, _, _ => none
 | k + 1, xs, ks, i, me, outs => if i < (ks.length : Int) then (if 0 ≤ i then (if 0 ≤ me then (if me < (outs.length : Int) then (if (rd_T45 outs me).f5.length < 1000000 then ((spec_l6Tidy.f k xs (rd ks i) me (outs.set me.toNat ⟨(rd_T45 outs me).f0, (rd_T45 outs me).f1, (rd_T45 outs me).f2, (rd_T45 outs me).f3, (rd_T45 outs me).f4, (rd_T45 outs me).f5 ++ [(outs.length : Int)]⟩)).bind fun o2 => spec_l6Tidy.l0 k xs ks (wrap64 (i + 1)) me o2) else none) else none) else none) else none) else some outs
end
theorem spec_l6Tidy.mono_l : ∀ k, (∀ y0 y1 y2 y3, LeO (spec_l6Tidy.f k y0 y1 y2 y3) (spec_l6Tidy.f (k + 1) y0 y1 y2 y3)) ∧ (∀ y0 y1 y2 y3 y4, LeO (spec_l6Tidy.l0 k y0 y1 y2 y3 y4) (spec_l6Tidy.l0 (k + 1) y0 y1 y2 y3 y4))
 | 0 => ⟨fun _ _ _ _ r h => by simp [spec_l6Tidy.f] at h, fun _ _ _ _ _ r h => by simp [spec_l6Tidy.l0] at h⟩
 | k + 1 => by
  obtain ⟨ih1, ih2⟩ := spec_l6Tidy.mono_l k
  constructor
  · intro y0 y1 y2 y3
    rw [spec_l6Tidy.f, spec_l6Tidy.f]
    exact LeO.ite (LeO.ite (LeO.ite (LeO.ite (ih2 _ _ _ _ _) (LeO.refl _)) (LeO.refl _)) (LeO.refl _)) (LeO.refl _)
  · intro y0 y1 y2 y3 y4
    rw [spec_l6Tidy.l0, spec_l6Tidy.l0]
    exact LeO.ite (LeO.ite (LeO.ite (LeO.ite (LeO.ite (LeO.bind (ih1 _ _ _ _) (fun _ => ih2 _ _ _ _ _)) (LeO.refl _)) (LeO.refl _)) (LeO.refl _)) (LeO.refl _)) (LeO.refl _)
theorem spec_l6Tidy.mono : ∀ a0 a1 a2 a3 k, LeO (spec_l6Tidy.f k a0 a1 a2 a3) (spec_l6Tidy.f (k + 1) a0 a1 a2 a3) := fun a0 a1 a2 a3 k => (spec_l6Tidy.mono_l k).1 a0 a1 a2 a3
/-- The box of the tree, far from a store. -/
theorem BoxW.far {w W : World} {gt m c : Nat} {A : Option Addr} (h : BoxW w W gt A m c) {gb : Nat} (hb : w.heap.size ≤ gb) (hne : gb ≠ gt) (j : Nat) (u : Value) : BoxW w (W.setCell ⟨gb, j, none⟩ u) gt A m c :=
 ⟨blk_far (p := ⟨gb, j, none⟩) h.blk (Ne.symm hne) _, below_set h.low hb, h.ge⟩
/-- Inside l6Tidy: the box of the tree, the row of nodes that grows (gt's apart), all told from w0 (the tree's) and from w (the call's) on. -/
structure TidW (w0 w W : World) (P_ : Nat → Prop) (gt : Nat) (A : Option Addr) (m c : Nat) (vo : Value) (outs : List S45) : Prop where
 blk : W.heap[gt]? = some (.cells #[.slice A m c] 29 (0, 0))
 row : Kd.S k45 45 W w0.heap.size (fun k => (P_ k ∨ w.heap.size ≤ k) ∧ k ≠ gt) vo outs
 low : Below w0.heap.size w0 W
 kept : Kept w W P_
 ge : w.heap.size ≤ gt
section
variable {w0 w W W2 : World} {P_ : Nat → Prop} {gt m c : Nat} {A : Option Addr} {vo v1 : Value} {outs ys : List S45}
theorem TidW.pre (h : Kd.S k45 45 w w0.heap.size P_ vo outs) (hb : Below w.heap.size w W) (hge : w.heap.size ≤ gt) {n1 n2 : Nat} (h1 : w.heap.size ≤ n1) : Kd.S k45 45 W w0.heap.size (fun k => ((P_ k ∨ w.heap.size ≤ k) ∧ k ≠ gt) ∧ ¬ (n1 ≤ k ∧ k < n2)) vo outs :=
 Kd.S_below (Kd.S_mono (Kd.S_bound h) (fun k hk => ⟨⟨.inl hk.1, by have := hk.2.2.1; omega⟩, by have := hk.2.2.1; omega⟩)) hb
theorem TidW.start (hX : BoxW w W gt A m c) (ho : Kd.S k45 45 w w0.heap.size P_ vo outs) (hS : Kd.S k45 45 W2 w0.heap.size (fun k => (P_ k ∨ w.heap.size ≤ k) ∧ k ≠ gt) v1 ys) (hl : Below w0.heap.size w0 W2) (hg : W.grownBy W2 vo.ownBlock) : TidW w0 w W2 P_ gt A m c v1 ys :=
 ⟨blk_grown hX.blk hg (fun e => by have := Kd.S_lt ho gt e.symm; have := hX.ge; omega), hS, hl, Kept.of_grown hg (Kept.of_below hX.low _) (fun k e => .inl ((Kd.S_R ho).1 k e)), hX.ge⟩
theorem TidW.cell (h : TidW w0 w W P_ gt A m c vo outs) : W.cell? ⟨gt, 0, none⟩ = some (.slice A m c) := (blk_cell h.blk 0).trans rfl
theorem TidW.drew (h : TidW w0 w W P_ gt A m c vo outs) : TidW w0 w W.drew P_ gt A m c vo outs := ⟨h.blk, Kd.S_drewN h.row 1, pw_below_drewN h.low 1, h.kept, h.ge⟩
theorem TidW.call (h : TidW w0 w W P_ gt A m c vo outs) (hS : Kd.S k45 45 W2 w0.heap.size (fun k => ((P_ k ∨ w.heap.size ≤ k) ∧ k ≠ gt) ∨ W.heap.size ≤ k) v1 ys) (hl : Below w0.heap.size w0 W2) (hk : Kept W W2 (fun k => (P_ k ∨ w.heap.size ≤ k) ∧ k ≠ gt)) : TidW w0 w W2 P_ gt A m c v1 ys :=
 ⟨blk_kept h.blk hk (fun h_ => h_.2 rfl), Kd.S_mono hS (fun k hk_ => hk_.elim id (fun h_ => ⟨.inr (Nat.le_trans h.kept.1 h_), by have := blk_lt h.blk; omega⟩)), hl, h.kept.then_ hk (fun _ h_ => h_.1), h.ge⟩
theorem ElemW.kept {W W2 : World} {base g n cap : Nat} {ok oki : Nat → Prop} {xs : List S45} {i : Int} {x : S45} {v2 v5 : Value} (h : ElemW W base ok g n cap xs i oki x v2 v5) (hg : W.grownBy W2 v5.ownBlock) (j : Nat) : W2.frozen? ⟨g, j, none⟩ = false :=
 H_freeN (Kd.H_step h.hole (fun k _ hn hlt => hg.block k hlt (fun e => hn (h.r5.1 k e.symm)))) h.h0 h.h1 j
theorem ElemW.keptc {W W2 : World} {base g n cap : Nat} {ok oki : Nat → Prop} {xs : List S45} {i : Int} {x : S45} {v2 v5 : Value} (h : ElemW W base ok g n cap xs i oki x v2 v5) (hg : W.grownBy W2 v5.ownBlock) (j : Nat) (u : Value) (hu : ([.int .i64 x.f0, .string x.f1, v2, .string x.f3, .int .i64 x.f4, v5] : List Value)[j]? = some u) : W2.cell? ⟨g, i.toNat * 6 + j, none⟩ = some u :=
 H_cellN (Kd.H_step h.hole (fun k _ hn hlt => hg.block k hlt (fun e => hn (h.r5.1 k e.symm)))) h.h0 h.h1 j u hu
theorem TidW.kid {g n cap : Nat} {i : Int} {oki : Nat → Prop} {x : S45} {v2 v5 v5n : Value} {ks : List Int} (h : TidW w0 w W P_ gt A m c (.slice (some ⟨g, 0, none⟩) n cap) outs) (E : ElemW W w0.heap.size (fun k => (P_ k ∨ w.heap.size ≤ k) ∧ k ≠ gt) g n cap outs i oki x v2 v5) (r5 : Kd.R (Kd.int .i64) 3 W2 w0.heap.size oki v5n ks) (hl : Below w0.heap.size w0 W2) (hg : W.grownBy W2 v5.ownBlock) : TidW w0 w (W2.setCell ⟨g, i.toNat * 6 + 5, none⟩ v5n) P_ gt A m c (.slice (some ⟨g, 0, none⟩) n cap) (outs.set i.toNat ⟨x.f0, x.f1, x.f2, x.f3, x.f4, ks⟩) :=
 have hgt : (P_ g ∨ w.heap.size ≤ g) ∧ g ≠ gt := (Kd.S_R h.row).1 g rfl
 ⟨blk_far (p := ⟨g, i.toNat * 6 + 5, none⟩) (blk_grown h.blk hg (Kd.R_ne E.r5 h.blk (by decide))) (Ne.symm hgt.2) _, E.kids r5 ⟨hg.size, fun i hi hn => hg.block i hi hn⟩, below_set hl (Kd.S_base h.row g rfl), (Kept.of_grown hg h.kept (fun k e => (E.sub k (E.r5.1 k e)).1)).setCell hgt.1 _, h.ge⟩
end
set_option maxHeartbeats 16000000 in
set_option maxRecDepth 100000 in
theorem spec_l6Tidy.calls : ∀ (k : Nat) (P_ : Nat → Prop) (A : Option Addr) (c : Nat) (xs : List S45) (a1 a2 : Int) (u : Value) (outs : List S45) (r : List S45) (w0 w : World) (hB : Below w0.heap.size w0 w) (hC : Kd.C k45 w0 A xs.length xs) (ho : Kd.S k45 45 w w0.heap.size P_ u outs) (h : spec_l6Tidy.f k xs a1 a2 outs = some r),
 Calls Try.prog 88 #[.agg #[.slice A xs.length c], .int .i64 a1, .int .i64 a2, u] w fun e w' => ∃ v, e = .returned v ∧ Kd.S k45 45 w' w0.heap.size (fun k_ => P_ k_ ∨ w.heap.size ≤ k_) v r ∧ Below w0.heap.size w0 w' ∧ Kept w w' P_ := by
 intro k
 induction k using Nat.strongRecOn with
 | ind k IH =>
 intro P_ A c xs a1 a2 u outs r w0 w hB hC ho h
 cases k with
 | zero => simp [spec_l6Tidy.f] at h
 | succ k =>
  simp only [spec_l6Tidy.f] at h
  by_cases c1 : 0 ≤ a1
  · rw [if_pos c1] at h
    by_cases c2 : a1 < (xs.length : Int)
    · rw [if_pos c2] at h
      by_cases c3 : outs.length < 1000000
      · rw [if_pos c3] at h
        by_cases c4 : (rd_T45 xs a1).f2.length ≤ 1048576
        · rw [if_pos c4] at h
          obtain ⟨ad, A_2, c_2, A_5, c_5, e1, hx0, hx1, hx2, hx3, hx4, hx5, hl2, hi2, hl5, hi5⟩ := at_T45 hC a1 c1 c2
          subst e1
          obtain ⟨Ao, co, eo⟩ := Kd.S_slice ho
          subst eo
          have HC := Aside0.mk hC
          have HB := Aside0.mk hB
          have HX0 := Aside0.mk hx0
          have HX1 := Aside0.mk hx1
          have HX2 := Aside0.mk hx2
          have HX3 := Aside0.mk hx3
          have HX4 := Aside0.mk hx4
          have HX5 := Aside0.mk hx5
          have HI2 := Aside0.mk hi2
          have HI5 := Aside0.mk hi5
          have HA2 := Aside0.mk c4
          have HA3 := Aside0.mk c3
          have HO := Aside0.mk ho
          have HA := Aside0.mk h
          have HIH := Aside0.mk IH
          clear hC hB hx0 hx1 hx2 hx3 hx4 hx5 hl2 hi2 hl5 hi5 c4 c3 ho h IH
          have C1 := Aside0.mk c1
          have C2 := Aside0.mk c2
          replace c1 := eq_true c1
          replace c2 := eq_true c2
          go_enter Try.func88, Try.ntmps88
          go_upto_region 1 with (first | ((with_reducible refine gate_dst (N := 4) rfl ?_); refine box_event ?hg (N := 4) ?hd (cs := #[.slice (some ad) xs.length c]) (t := 29) ?hr ?_; (case hd => rfl); (case hg => rfl); (case hr => first | (go_simp; done) | (go_simp; rfl)); intro gt hg w1 hbox hb; have HX := Aside0.mk (show BoxW w w1 gt (some ad) xs.length c from ⟨hbox, hb, by rw [hg]; exact Nat.le_refl _⟩); have HTL := Aside0.mk (blk_lt hbox); have HGT := Aside0.mk hg; have hcb := HX.out.cell; have hx0 := pw_cell_below (below_step HB.out HX.out.low) HX0.out; have hx1 := pw_cell_below (below_step HB.out HX.out.low) HX1.out; have hx2 := pw_cell_below (below_step HB.out HX.out.low) HX2.out; have hx3 := pw_cell_below (below_step HB.out HX.out.low) HX3.out; have hx4 := pw_cell_below (below_step HB.out HX.out.low) HX4.out; have hx5 := pw_cell_below (below_step HB.out HX.out.low) HX5.out; clear hbox hb hg))
          go_upto_region 2 with (first | ((with_reducible refine gate_dst (N := 9) rfl ?_); refine box_event ?hg (N := 9) ?hd (cs := #[.int .i64 0, .string (⟨#[]⟩ : ByteArray), .slice none 0 0, .string (⟨#[]⟩ : ByteArray), .int .i64 0, .slice none 0 0]) (t := 45) ?hr ?_; (case hd => rfl); (case hg => rfl); (case hr => first | (go_simp; done) | (go_simp; rfl)); intro gb hg w2 hbox hb; have HGB := Aside0.mk hg; have HB2 := Aside0.mk hb; have HBX := Aside0.mk hbox; have hz0 := blk_cell hbox 0; have hz1 := blk_cell hbox 1; have hz2 := blk_cell hbox 2; have hz3 := blk_cell hbox 3; have hz4 := blk_cell hbox 4; have hz5 := blk_cell hbox 5; have hf := blk_frozen hbox; clear hbox hb hg))
          show Code.wp _ _ _ _ (fillN w2 gb (rd_T45 xs a1) (.slice A_2 (rd_T45 xs a1).f2.length c_2) (.slice A_5 (rd_T45 xs a1).f5.length c_5))
          have HW1 := Aside0.mk HX.out.low
          have HNE := Aside0.mk (show gb ≠ gt by have := blk_lt HX.out.blk; have := HGB.out; omega)
          have HBN := Aside0.mk (fillN_blk (rd_T45 xs a1) (.slice A_2 (rd_T45 xs a1).f2.length c_2) (.slice A_5 (rd_T45 xs a1).f5.length c_5) HBX.out)
          have HL := Aside0.mk (fillN_below (w := w1) (gb := gb) (rd_T45 xs a1) (.slice A_2 (rd_T45 xs a1).f2.length c_2) (.slice A_5 (rd_T45 xs a1).f5.length c_5) HB2.out (Nat.le_of_eq HGB.out.symm))
          have HX := Aside0.mk (BoxW.fill (HX.out.below HB2.out) (by have := HGB.out; have := HW1.out.size; omega) HNE.out (rd_T45 xs a1) (.slice A_2 (rd_T45 xs a1).f2.length c_2) (.slice A_5 (rd_T45 xs a1).f5.length c_5))
          generalize fillN w2 gb (rd_T45 xs a1) (.slice A_2 (rd_T45 xs a1).f2.length c_2) (.slice A_5 (rd_T45 xs a1).f5.length c_5) = w3 at HBN HL HX ⊢
          clear hz0 hz1 hz2 hz3 hz4 hz5 hf HBX HB2 hx0 hx1 hx2 hx3 hx4 hx5 hcb
          have hz5 := blk_cell HBN.out 5
          go_upto_region 4 with (fail)
          clear hz5
          have hf4 := blk_frozen HBN.out
          have hz4 := blk_cell HBN.out 4
          go_upto_region 5 with (fail)
          have HGE1 := Aside0.mk (show w1.heap.size ≤ gb by rw [HGB.out]; exact Nat.le_refl _)
          have HGE := Aside0.mk (show w.heap.size ≤ gb by have := HW1.out.size; have := HGE1.out; omega)
          have HBN := Aside0.mk (blk_set HBN.out 4 (.int .i64 a2))
          have HL := Aside0.mk (below_set (j := 4) (v := .int .i64 a2) HL.out HGE1.out)
          have HX := Aside0.mk (HX.out.far HGE.out HNE.out 4 (.int .i64 a2))
          clear hf4 hz4
          generalize w3.setCell ⟨gb, 4, none⟩ (.int .i64 a2) = w4 at HBN HL HX ⊢
          go_upto_region 6 with (first | ((with_reducible refine gate_dst (N := 24) rfl ?_); refine Kd.R_lit (w0 := w1) (Kd.int .i64) w1.heap.size 3 ?hg (N := 24) ?hd (xs := ([] : List Int)) (inner := []) (ok := fun k_ => k_ ≠ gb) (okp := fun _ => False) ?hr ?hp (fun _ hk => hk.elim) (by have := HNE.out; have := blk_lt HBN.out; omega) HL.out HL.out.size (by simp) ?_; (case hd => rfl); (case hg => rfl); (case hr => first | (go_simp; done) | (go_simp; rfl)); (case hp => exact (Reps.none _ _)); intro v5n w5 ho5 hb5 hg5 hnew_; obtain ⟨B5, d5, rfl⟩ := Kd.R_slice ho5; have HR5 := Aside0.mk ho5; have HL5 := Aside0.mk hb5; have HBN5 := Aside0.mk (blk_grown HBN.out hg5 (by simp)); have HX5 := Aside0.mk (show BoxW w w5 gt (some ad) xs.length c from ⟨blk_grown HX.out.blk hg5 (by simp), below_step HW1.out HL5.out, HX.out.ge⟩); have hf5 := blk_frozen HBN5.out; have hy5 := blk_cell HBN5.out 5; clear ho5 hb5 hg5 hnew_))
          have HBN := Aside0.mk (blk_set HBN5.out 5 (.slice B5 ([] : List Int).length d5))
          have HL := Aside0.mk (below_set (j := 5) (v := .slice B5 ([] : List Int).length d5) HL5.out HGE1.out)
          have HX := Aside0.mk (HX5.out.far HGE.out HNE.out 5 (.slice B5 ([] : List Int).length d5))
          have HR5 := Aside0.mk (Kd.R_far (p := ⟨gb, 5, none⟩) HR5.out (fun _ hk => hk) (.slice B5 ([] : List Int).length d5))
          clear hf5 hy5 HBN5 HX5 HL5
          generalize w5.setCell ⟨gb, 5, none⟩ (.slice B5 ([] : List Int).length d5) = w6 at HBN HL HX HR5 ⊢
          go_upto_region 7 with (first | ((with_reducible refine gate_dst (N := 26) rfl ?_); refine Kd.R_lit (w0 := w1) k98 w1.heap.size 98 ?hg (N := 26) ?hd (xs := ([] : List S98)) (inner := []) (ok := fun k_ => k_ ≠ gb) (okp := fun _ => False) ?hr ?hp (fun _ hk => hk.elim) (by have := blk_lt HBN.out; omega) HL.out HL.out.size (by simp) ?_; (case hd => rfl); (case hg => rfl); (case hr => first | (go_simp; done) | (go_simp; rfl)); (case hp => exact (Reps.none _ _)); intro v2l w7 ho7 hb7 hg7 hnew_; have HR2 := Aside0.mk ho7; have HL7 := Aside0.mk hb7; have HBN7 := Aside0.mk (blk_grown HBN.out hg7 (by simp)); have HX7 := Aside0.mk (show BoxW w w7 gt (some ad) xs.length c from ⟨blk_grown HX.out.blk hg7 (by simp), below_step HW1.out HL7.out, HX.out.ge⟩); have HR57 := Aside0.mk (Kd.R_grown HR5.out hg7 (fun _ _ => by simp)); have hy2 := blk_cell HBN7.out 2; clear ho7 hb7 hg7 hnew_) | ((with_reducible refine gate_builtin (b := .append) (xs := #[.tmp 26, .tmp 28]) rfl ?_); at_builtin; refine Kd.R_append_rows k98 (w0 := w1) w1.heap.size rfl (.tmp 26) (.tmp 28) 43 98 (.agg #[(.string ⟨#[]⟩), (.string ⟨#[]⟩)]) 32 rfl Try.underlying43 info98 rfl (by decide) (by omega) v2l [] (rd_T45 xs a1).f2 _ _ _ (fun k_ => k_ ≠ gb) (fun _ => False) rfl rfl HR2.out (Kd.C_below HI2.out (below_step (below_step HB.out HW1.out) HL7.out)) (fun _ _ h => h) (fun _ h => h.elim) (fun k_ hk => by have := blk_lt HBN7.out; omega) HL7.out HL7.out.size (by have := HA2.out; simp only [List.length_nil]; omega) ?_; intro v2n w8 ho8 hb8 hg8 hat; rw [List.nil_append] at ho8; obtain ⟨B2, d2, rfl⟩ := Kd.R_slice ho8; have HNB := Aside0.mk (show some gb ≠ v2l.ownBlock from fun e_ => HR2.out.1 gb e_.symm rfl); have HNT := Aside0.mk (Kd.R_ne HR2.out HX7.out.blk (by decide)); have HR28 := Aside0.mk ho8; have HL8 := Aside0.mk hb8; have HBN8 := Aside0.mk (blk_grown HBN7.out hg8 HNB.out); have HX8 := Aside0.mk (show BoxW w w8 gt (some ad) xs.length c from ⟨blk_grown HX7.out.blk hg8 HNT.out, below_step HW1.out HL8.out, HX.out.ge⟩); have HR58 := Aside0.mk (Kd.R_over' HR57.out (Kd.R_typed HR2.out) (by decide) hg8); have hf8 := blk_frozen HBN8.out; have hy2b := blk_cell HBN8.out 2; clear ho8 hb8 hg8 hat))
          have HN := Aside0.mk (show NodW w1 (w8.setCell ⟨gb, 2, none⟩ (.slice B2 (rd_T45 xs a1).f2.length d2)) gb ⟨(rd_T45 xs a1).f0, (rd_T45 xs a1).f1, (rd_T45 xs a1).f2, (rd_T45 xs a1).f3, a2, []⟩ (.slice B2 (rd_T45 xs a1).f2.length d2) (.slice B5 ([] : List Int).length d5) from ⟨blk_set HBN8.out 2 _, Kd.R_far (p := ⟨gb, 2, none⟩) HR28.out (fun _ hk => hk) _, Kd.R_far (p := ⟨gb, 2, none⟩) HR58.out (fun _ hk => hk) _, below_set HL8.out HGE1.out, HGE1.out⟩)
          have HX := Aside0.mk (HX8.out.far HGE.out HNE.out 2 (.slice B2 (rd_T45 xs a1).f2.length d2))
          clear hf8 hy2b hy2 HBN8 HBN7 HX8 HX7 HL8 HL7 HR28 HR58 HR57 HR2 HR5 HBN HL HNB HNT
          generalize w8.setCell ⟨gb, 2, none⟩ (.slice B2 (rd_T45 xs a1).f2.length d2) = w9 at HN HX ⊢
          obtain ⟨hq0, hq1, hq2, hq3, hq4, hq5⟩ := HN.out.cells
          go_upto_region 8 with (first | ((with_reducible refine gate_builtin (b := .append) (xs := #[.tmp 31, .tmp 33]) rfl ?_); at_builtin; refine Kd.S_append (w0 := w0) k45 w0.heap.size rfl (.tmp 31) (.tmp 33) 27 45 (.agg #[(.int .i64 0), (.string ⟨#[]⟩), (.slice none 0 0), (.string ⟨#[]⟩), (.int .i64 0), (.slice none 0 0)]) 96 rfl Try.underlying27 info45 rfl (by decide) (by omega) (.slice Ao outs.length co) outs _ _ (fun k_ => (P_ k_ ∨ w.heap.size ≤ k_) ∧ k_ ≠ gt) (fun k_ => w1.heap.size ≤ k_ ∧ k_ < w9.heap.size) rfl rfl (NodW.elem HN.out (below_step HB.out HW1.out)) (fun k_ hk => ⟨⟨.inr (Nat.le_trans HW1.out.size hk.1), by have := HTL.out; omega⟩, fun e_ => by have := Kd.S_lt HO.out k_ e_.symm; have := HW1.out.size; omega⟩) (fun k_ hk => ⟨.inr (Nat.le_trans HX.out.low.size hk), by have := blk_lt HX.out.blk; omega⟩) (TidW.pre HO.out HX.out.low HX.out.ge HW1.out.size) (below_step HB.out HX.out.low) (below_step HB.out HX.out.low).size (by have := HA3.out; omega) ?_; intro v1 wA hS hlow hgw hat; obtain ⟨A1, c1', ev1⟩ := Kd.S_slice hS; rw [List.length_append, List.length_singleton] at ev1; subst ev1; have HT := Aside0.mk (TidW.start HX.out HO.out hS hlow hgw); clear hS hlow hgw hat))
          clear hq0 hq1 hq2 hq3 hq4 hq5 HN HX HTL HGT HGB HNE HGE HGE1 HW1 HO HX0 HX1 HX2 HX3 HX4 HX5 HI2 HA2 HA3
          generalize (outs.length : Int) = me at HA ⊢
          go_wp2
          go_loopg [3, 12] k (fun kq v3 v12 w' => ∃ (i : Int) (ots : List S45) (vo : Value), v3 = vo ∧ v12 = .int .i64 i ∧ Aside0 (spec_l6Tidy.l0 kq xs (rd_T45 xs a1).f5 i me ots = some r) ∧ Aside0 (kq ≤ k) ∧ Aside0 (TidW w0 w w' P_ gt (some ad) xs.length c vo ots))
          case atStart => exact ⟨0, _, _, rfl, rfl, HA, ⟨Nat.le_refl _⟩, HT⟩
          case round =>
           clear HA HT
           obtain ⟨i, ots, vo, rfl, rfl, HA, HK, HT⟩ := hrel
           cases gk with
           | zero => exact absurd HA.out (by simp [spec_l6Tidy.l0])
           | succ k1 =>
            have H := HA.out
            clear HA
            simp only [spec_l6Tidy.l0] at H
            by_cases c1 : i < ((rd_T45 xs a1).f5.length : Int)
            · rw [if_pos c1] at H
              by_cases c2 : 0 ≤ i
              · rw [if_pos c2] at H
                by_cases c3 : 0 ≤ me
                · rw [if_pos c3] at H
                  by_cases c4 : me < (ots.length : Int)
                  · rw [if_pos c4] at H
                    by_cases c5 : (rd_T45 ots me).f5.length < 1000000
                    · rw [if_pos c5] at H
                      obtain ⟨o2, e1, H2⟩ := Option.bind_eq_some_iff.1 H
                      clear H
                      have HA := Aside0.mk e1
                      have HA2 := Aside0.mk H2
                      have HA4 := Aside0.mk c5
                      clear e1 H2 c5
                      obtain ⟨gr, cr, ev, _, _, _⟩ := Kd.S_form HT.out.row (by omega)
                      subst ev
                      obtain ⟨oki, v2, v5, he⟩ := ElemW.of HT.out.row me c3 c4
                      have HE := Aside0.mk he
                      clear he
                      have hy5 := HE.out.cell 5 _ rfl
                      have c1b : decide (i < ((rd_T45 xs a1).f5.length : Int)) = true := decide_eq_true c1
                      obtain ⟨ak, e2, hy0⟩ := Kd.at_int HI5.out i c2 c1
                      subst e2
                      have HY := Aside0.mk hy0
                      clear hy0
                      replace c1 := eq_true c1
                      replace c2 := eq_true c2
                      replace c3 := eq_true c3
                      replace c4 := eq_true c4
                      go_upto_region 12 with (first | ((with_reducible refine gate_builtin (b := .append) (xs := #[.tmp 47, .tmp 50]) rfl ?_); at_builtin; refine Kd.R_append (w0 := w0) (Kd.int .i64) w0.heap.size rfl (.tmp 47) (.tmp 50) 37 3 (.int .i64 0) 8 rfl Try.underlying37 info3 rfl (by decide) (by omega) v5 (rd_T45 ots me).f5 (ots.length : Int) [.int .i64 (ots.length : Int)] oki (fun _ => False) rfl rfl rfl (fun _ hk => hk.elim) (fun k_ hk => HE.out.new k_ ⟨.inr (Nat.le_trans HT.out.kept.1 hk), by have := blk_lt HT.out.blk; omega⟩ hk) HE.out.r5 HT.out.low HT.out.low.size (by have := HA4.out; omega) ?_; intro v5n wB ho5 hlow hgw hat; obtain ⟨B51, d51, ev5⟩ := Kd.R_slice ho5; rw [List.length_append, List.length_singleton] at ev5; subst ev5; have HT2 := Aside0.mk (HT.out.kid HE.out ho5 hlow hgw); have hfk := HE.out.kept hgw; have hck := HE.out.keptc hgw 5 _ rfl; clear ho5 hlow hgw hat))
                      clear hfk hck hy5 HE HT
                      generalize wB.setCell ⟨gr, me.toNat * 6 + 5, none⟩ _ = wC at HT2 ⊢
                      generalize ots.set me.toNat _ = ots2 at HT2 HA
                      have hcg := HT2.out.cell
                      have hy0 := pw_cell_below HT2.out.low HY.out
                      go_still_tail 7, (by kernel_rfl)
                      change wpList _ _ _ _ _ wC.drew
                      have HT3 := Aside0.mk HT2.out.drew
                      generalize wC.drew = wD at HT3 ⊢
                      clear hcg hy0 HT2
                      go_wp2_with (first | (go_at_call 88; (with_reducible refine (HIH.out k1 (by have := HK.out; omega) (fun k_ => (P_ k_ ∨ w.heap.size ≤ k_) ∧ k_ ≠ gt) (some ad) c xs (rd (rd_T45 xs a1).f5 i) me _ ots2 o2 w0 _ HT3.out.low HC.out HT3.out.row HA.out).mono ?_); rintro e w4' ⟨v4, rfl, hS, hl, hk⟩; have HT4 := Aside0.mk (HT3.out.call hS hl hk); clear hS hl hk))
                      go_roundg k1
                      case measure => have := HK.out; omega
                      case rel => exact ⟨_, _, _, rfl, rfl, HA2, ⟨by have := HK.out; omega⟩, HT4⟩
                    · rw [if_neg c5] at H; cases H
                  · rw [if_neg c4] at H; cases H
                · rw [if_neg c3] at H; cases H
              · rw [if_neg c2] at H; cases H
            · rw [if_neg c1] at H
              obtain rfl := Option.some.inj H
              clear H
              have c1b : decide (i < ((rd_T45 xs a1).f5.length : Int)) = false := decide_eq_false c1
              clear c1
              go_wp2
              go_ret
              exact ⟨_, rfl, Kd.S_mono HT.out.row (fun _ hk => hk.1), HT.out.low, HT.out.kept⟩
        · rw [if_neg c4] at h; cases h
      · rw [if_neg c3] at h; cases h
    · rw [if_neg c2] at h; cases h
  · rw [if_neg c1] at h; cases h
def spec_l6TidyOf.f (k : Nat) (l0_0 : List S45) : Option (List S45) := spec_l6Tidy.f k l0_0 0 (-1) []
theorem spec_l6TidyOf.mono : ∀ a0_0 k, LeO (spec_l6TidyOf.f k a0_0) (spec_l6TidyOf.f (k + 1) a0_0) := fun a0_0 k => spec_l6Tidy.mono _ _ _ _ k
set_option maxHeartbeats 4000000 in
set_option maxRecDepth 100000 in
theorem spec_l6TidyOf.calls (k : Nat) (A0_0 : Option Addr) (c0_0 : Nat) (l0_0 : List S45) (r : List S45) (w : World) (hr0_0 : Kd.C k45 w A0_0 l0_0.length l0_0) (hc0_0 : l0_0.length ≤ c0_0) (h : spec_l6TidyOf.f k l0_0 = some r) :
 Calls Try.prog 45 #[.agg #[.slice A0_0 l0_0.length c0_0]] w fun e w' => ∃ v0_ : Value, e = .returned (.agg #[v0_]) ∧ Kd.S k45 45 w' w.heap.size (fun _ => True) v0_ r ∧ Below w.heap.size w w' := by
 unfold spec_l6TidyOf.f at h
 have HA := Aside0.mk h
 have HC := Aside0.mk hr0_0
 clear h hr0_0 hc0_0
 go_enter Try.func45, Try.ntmps45
 go_upto_region 1 with (first
  | ((with_reducible refine gate_dst (N := 1) rfl ?_); refine box_event ?hg (N := 1) ?hd (cs := #[.slice A0_0 l0_0.length c0_0]) (t := 29) ?hr ?_; (case hd => rfl); (case hg => rfl); (case hr => first | (go_simp; done) | (go_simp; rfl)); intro gt hg w1 hbox hb; have HX := Aside0.mk (show BoxW w w1 gt A0_0 l0_0.length c0_0 from ⟨hbox, hb, by rw [hg]; exact Nat.le_refl _⟩); clear hbox hb hg)
  | ((with_reducible refine gate_dst (N := 2) rfl ?_); refine box_event ?hg (N := 2) ?hd (cs := #[.slice none 0 0]) (t := 29) ?hr ?_; (case hd => rfl); (case hg => rfl); (case hr => first | (go_simp; done) | (go_simp; rfl)); intro gr hg w2 hbox hb; have HR := Aside0.mk hbox; have HX2 := Aside0.mk (HX.out.below hb); have HLR := Aside0.mk (blk_lt hbox); have HGR := Aside0.mk (show w.heap.size ≤ gr by rw [hg]; exact HX.out.low.size); clear hbox hb hg))
 have hcg := HX2.out.cell
 go_wp2_with (first
  | ((with_reducible refine gate_dst (N := 4) rfl ?_); refine Kd.S_lit (w0 := w) k45 w.heap.size 45 ?hg (N := 4) ?hd (xs := ([] : List S45)) (inner := []) (ok := fun k_ => w2.heap.size ≤ k_) (okp := fun _ => False) ?hr ?hp (fun _ hk => hk.elim) (Nat.le_refl _) HX2.out.low HX2.out.low.size (by simp) ?_; (case hd => rfl); (case hg => rfl); (case hr => first | (go_simp; done) | (go_simp; rfl)); (case hp => exact (Reps.none _ _)); intro u w3 ho hb hg hnew_; have HO := Aside0.mk ho; have HB3 := Aside0.mk hb; have HR3 := Aside0.mk (blk_grown HR.out hg (by simp)); clear ho hb hg hnew_)
  | (go_at_call 88; (with_reducible refine (spec_l6Tidy.calls k (fun k_ => w2.heap.size ≤ k_) A0_0 c0_0 l0_0 0 (-1) u [] r w w3 HB3.out HC.out HO.out HA.out).mono ?_); rintro e w4 ⟨v, rfl, hS, hl, hk⟩; obtain ⟨Aq, cq, rfl⟩ := Kd.S_slice hS; have HS := Aside0.mk hS; have HL := Aside0.mk hl; have HBB := Aside0.mk (blk_kept HR3.out hk (by have := HLR.out; omega)); have hc2 := blk_cell HBB.out 0; have hf2 := blk_frozen HBB.out; clear hS hl hk))
 refine bodyPost_ret (results_cell_row rfl _ _ gr 29 #[.slice Aq r.length cq] (0, 0) _ rfl (blk_put (cs := #[.slice none 0 0]) HBB.out 0 _ rfl) Try.underlying29 rfl (by kernel_rfl)) rfl ?_
 refine ⟨_, rfl, ?_, below_set HL.out HGR.out⟩
 exact Kd.S_mono (Kd.S_far (p := ⟨gr, 0, none⟩) (Kd.S_mono HS.out (ok' := fun k_ => k_ ≠ gr) (fun k_ hk => by have := HLR.out; have h3 := blk_lt HR3.out; rcases hk with hk | hk <;> omega)) (fun _ hk => hk) _) (fun _ _ => trivial)
def spec_TreeTidy.f (k : Nat) (l0_0 : List S45) : Option (List S45) := (spec_TreeOk.f k l0_0).bind fun b => if b = true then spec_l6TidyOf.f k l0_0 else some []
theorem spec_TreeTidy.mono : ∀ a0_0 k, LeO (spec_TreeTidy.f k a0_0) (spec_TreeTidy.f (k + 1) a0_0) := fun a0_0 k => LeO.bind (spec_TreeOk.mono a0_0 k) (fun _ => LeO.ite (spec_l6TidyOf.mono a0_0 k) (LeO.refl _))
set_option maxHeartbeats 4000000 in
set_option maxRecDepth 100000 in
theorem spec_TreeTidy.calls (k : Nat) (A0_0 : Option Addr) (c0_0 : Nat) (l0_0 : List S45) (r : List S45) (w : World) (hr0_0 : Kd.C k45 w A0_0 l0_0.length l0_0) (hc0_0 : l0_0.length ≤ c0_0) (h : spec_TreeTidy.f k l0_0 = some r) :
 Calls Try.prog 17 #[.agg #[.slice A0_0 l0_0.length c0_0]] w fun e w' => ∃ v0_ : Value, e = .returned (.agg #[v0_]) ∧ Kd.S k45 45 w' w.heap.size (fun _ => True) v0_ r ∧ Below w.heap.size w w' := by
 unfold spec_TreeTidy.f at h
 obtain ⟨b, A1, h⟩ := Option.bind_eq_some_iff.mp h
 have HA1 := Aside0.mk A1
 have HA := Aside0.mk h
 have HC := Aside0.mk hr0_0
 have HCC := Aside0.mk hc0_0
 clear h hr0_0 hc0_0 A1
 go_enter Try.func17, Try.ntmps17
 go_upto_region 1 with (first
  | ((with_reducible refine gate_dst (N := 1) rfl ?_); refine box_event ?hg (N := 1) ?hd (cs := #[.slice A0_0 l0_0.length c0_0]) (t := 29) ?hr ?_; (case hd => rfl); (case hg => rfl); (case hr => first | (go_simp; done) | (go_simp; rfl)); intro gt hg w1 hbox hb; have HX := Aside0.mk (show BoxW w w1 gt A0_0 l0_0.length c0_0 from ⟨hbox, hb, by rw [hg]; exact Nat.le_refl _⟩); clear hbox hb hg)
  | ((with_reducible refine gate_dst (N := 2) rfl ?_); refine box_event ?hg (N := 2) ?hd (cs := #[.slice none 0 0]) (t := 29) ?hr ?_; (case hd => rfl); (case hg => rfl); (case hr => first | (go_simp; done) | (go_simp; rfl)); intro gr hg w2 hbox hb; have HR := Aside0.mk hbox; have HX2 := Aside0.mk (HX.out.below hb); have HLR := Aside0.mk (blk_lt hbox); have HGR := Aside0.mk (show w.heap.size ≤ gr by rw [hg]; exact HX.out.low.size); clear hbox hb hg))
 have hcg := HX2.out.cell
 cases b with
 | false =>
  have H := HA.out
  simp only [Bool.false_eq_true, if_false] at H
  obtain rfl := Option.some.inj H
  clear H HA
  go_wp2_with (first | (go_at_call 11; (with_reducible refine (spec_TreeOk.calls k A0_0 c0_0 l0_0 false w2 (Kd.C_below HC.out HX2.out.low) HCC.out HA1.out).mono ?_); rintro e w3 ⟨rfl, hb⟩; have HX3 := Aside0.mk (HX2.out.below hb); have HBB := Aside0.mk (blk_below HR.out hb); have hc2 := blk_cell HBB.out 0; have hf2 := blk_frozen HBB.out; clear hb))
  refine bodyPost_ret (results_cell_row rfl _ _ gr 29 #[.slice none 0 0] (0, 0) _ rfl (blk_put (cs := #[.slice none 0 0]) HBB.out 0 _ rfl) Try.underlying29 rfl (by kernel_rfl)) rfl ?_
  exact ⟨_, rfl, Kd.S_nil _ _ _ _ _, below_set HX3.out.low HGR.out⟩
 | true =>
  have H := HA.out
  rw [if_pos rfl] at H
  have HA2 := Aside0.mk H
  clear H HA
  go_wp2_with (first
   | (go_at_call 11; (with_reducible refine (spec_TreeOk.calls k A0_0 c0_0 l0_0 true w2 (Kd.C_below HC.out HX2.out.low) HCC.out HA1.out).mono ?_); rintro e w3 ⟨rfl, hb⟩; have HX3 := Aside0.mk (HX2.out.below hb); have HR3 := Aside0.mk (blk_below HR.out hb); have hcg3 := HX3.out.cell; clear hb)
   | (go_at_call 45; (with_reducible refine (spec_l6TidyOf.calls k A0_0 c0_0 l0_0 r w3 (Kd.C_below HC.out HX3.out.low) HCC.out HA2.out).mono ?_); rintro e w4 ⟨v, rfl, hS, hl⟩; obtain ⟨Aq, cq, rfl⟩ := Kd.S_slice hS; have HS := Aside0.mk hS; have HL := Aside0.mk hl; have HBB := Aside0.mk (blk_below HR3.out hl); have hc2 := blk_cell HBB.out 0; have hf2 := blk_frozen HBB.out; clear hS hl))
  refine bodyPost_ret (results_cell_row rfl _ _ gr 29 #[.slice Aq r.length cq] (0, 0) _ rfl (blk_put (cs := #[.slice none 0 0]) HBB.out 0 _ rfl) Try.underlying29 rfl (by kernel_rfl)) rfl ?_
  refine ⟨_, rfl, ?_, below_set (below_step HX3.out.low HL.out) HGR.out⟩
  have h3 := blk_lt HR3.out
  exact Kd.S_lower (Kd.S_mono (Kd.S_far (p := ⟨gr, 0, none⟩) (Kd.S_mono (Kd.S_bound HS.out) (ok' := fun k_ => k_ ≠ gr) (fun k_ hk => by have := hk.2.1; omega)) (fun _ hk => hk) _) (fun _ _ => trivial)) HX3.out.low.size
def impl_inRange.f (a0 : Int) (a1 : Int) (a2 : Int) : Option (Bool) := if a0 ≥ a1 then (some (decide (a0 ≤ a2))) else (some false)
set_option maxHeartbeats 8000000 in
set_option maxRecDepth 100000 in
theorem impl_inRange.calls (a0 : Int) (a1 : Int) (a2 : Int) (r : Bool) (w : World) (h : impl_inRange.f a0 a1 a2 = some r) :
 Calls Try.prog 40 #[.int .i64 a0, .int .i64 a1, .int .i64 a2] w fun e w' => e = .returned (.bool r) ∧ Drawn0 w w' := by
 have H : (if a0 ≥ a1 then (some (decide (a0 ≤ a2))) else (some false)) = some r := h
 clear h
 by_cases c4 : a0 ≥ a1
 · rw [if_pos c4] at H
   have c4b0 : decide (a1 ≤ a0) = true := decide_eq_true c4
   clear c4
   obtain rfl := Option.some.inj H
   go_enter Try.func40, Try.ntmps40
   go_wp2
   go_ret
   exact ⟨by first | rfl | (simp; done) | (simp [*]; done), by repeat (first | exact Drawn0.refl _ | apply Drawn0.step)⟩
 · rw [if_neg c4] at H
   have c4b0 : decide (a1 ≤ a0) = false := decide_eq_false c4
   clear c4
   obtain rfl := Option.some.inj H
   go_enter Try.func40, Try.ntmps40
   go_wp2
   go_ret
   exact ⟨by first | rfl | (simp; done) | (simp [*]; done), by repeat (first | exact Drawn0.refl _ | apply Drawn0.step)⟩
def impl_Node_mayHold.f (a0_0 : Int) (a0_1 : ByteArray) (l0_2 : List (S98)) (a0_3 : ByteArray) (a0_4 : Int) (l0_5 : List Int) : Option (Bool) := if a0_0 = 1 then (some true) else (some (a0_0 == 3))
set_option maxHeartbeats 8000000 in
set_option maxRecDepth 100000 in
theorem impl_Node_mayHold.calls (a0_0 : Int) (a0_1 : ByteArray) (A0_2 : Option Addr) (c0_2 : Nat) (l0_2 : List (S98)) (a0_3 : ByteArray) (a0_4 : Int) (A0_5 : Option Addr) (c0_5 : Nat) (l0_5 : List Int) (r : Bool) (w : World) (hr0_2 : Kd.C k98 w A0_2 l0_2.length l0_2) (hc0_2 : l0_2.length ≤ c0_2) (hr0_5 : Kd.C (Kd.int .i64) w A0_5 l0_5.length l0_5) (hc0_5 : l0_5.length ≤ c0_5) (h : impl_Node_mayHold.f a0_0 a0_1 l0_2 a0_3 a0_4 l0_5 = some r) :
 Calls Try.prog 82 #[.agg #[.int .i64 a0_0, .string a0_1, .slice A0_2 l0_2.length c0_2, .string a0_3, .int .i64 a0_4, .slice A0_5 l0_5.length c0_5]] w fun e w' => e = .returned (.bool r) ∧ Below w.heap.size w w' := by
 have hu45 := Try.underlying45
 have HR0_2 := Aside0.mk hr0_2
 have HC0_2 := Aside0.mk hc0_2
 clear hr0_2 hc0_2
 have HR0_5 := Aside0.mk hr0_5
 have HC0_5 := Aside0.mk hc0_5
 clear hr0_5 hc0_5
 have HB := Aside0.mk (Below.refl w.heap.size w)
 have H : (if a0_0 = 1 then (some true) else (some (a0_0 == 3))) = some r := h
 clear h
 by_cases c2 : a0_0 = 1
 · rw [if_pos c2] at H
   have c2b0 : (a0_0 == 1) = true := beq_iff_eq.mpr c2
   have c2b1 : (a0_0 != 1) = false := bne_eq_false_iff_eq.mpr c2
   clear c2
   obtain rfl := Option.some.inj H
   go_enter Try.func82, Try.ntmps82
   go_wp2_with (first | ((with_reducible refine gate_dst (N := 1) rfl ?_); refine box_event ?hg (N := 1) ?hd (cs := #[.int .i64 a0_0, .string a0_1, .slice A0_2 l0_2.length c0_2, .string a0_3, .int .i64 a0_4, .slice A0_5 l0_5.length c0_5]) (t := 45) ?hr ?_; (case hd => rfl); (case hg => rfl); (case hr => first | (go_simp; done) | (go_simp; rfl)); intro gb101 hg w3 hbox hb; have n0_ := Aside0.mk (below_step (by repeat (first | exact HB.out | apply below_alloc | apply pw_below_drewN | apply below_drew1)) hb); have n1_ := Aside0.mk (hbox); have n2_ := Aside0.mk ((by rw [hg]; exact (below_size (by repeat (first | exact HB.out | apply below_alloc | apply pw_below_drewN | apply below_drew1))) : w.heap.size ≤ gb101)); have n3_ := n2_; clear HB; have HB := n0_; have BK101 := n1_; have GW101 := n2_; have GE101 := n3_; clear n0_ n1_ n2_ n3_; clear hb hbox hg; have hcz4_0 := blk_cell BK101.out 0; have hcz4_1 := blk_cell BK101.out 1; have hcz4_2 := blk_cell BK101.out 2; have hcz4_3 := blk_cell BK101.out 3; have hcz4_4 := blk_cell BK101.out 4; have hcz4_5 := blk_cell BK101.out 5; have hfz4_0 := blk_frozen BK101.out 0; have hfz4_1 := blk_frozen BK101.out 1; have hfz4_2 := blk_frozen BK101.out 2; have hfz4_3 := blk_frozen BK101.out 3; have hfz4_4 := blk_frozen BK101.out 4; have hfz4_5 := blk_frozen BK101.out 5))
   go_ret
   exact ⟨by first | rfl | (simp [*] <;> rfl), by repeat (first | exact HB.out | apply below_alloc | apply pw_below_drewN | apply below_drew1 | refine below_set ?_ GE101.out)⟩
 · rw [if_neg c2] at H
   have c2b0 : (a0_0 == 1) = false := beq_eq_false_iff_ne.mpr c2
   have c2b1 : (a0_0 != 1) = true := bne_iff_ne.mpr c2
   obtain rfl := Option.some.inj H
   go_enter Try.func82, Try.ntmps82
   go_wp2_with (first | ((with_reducible refine gate_dst (N := 1) rfl ?_); refine box_event ?hg (N := 1) ?hd (cs := #[.int .i64 a0_0, .string a0_1, .slice A0_2 l0_2.length c0_2, .string a0_3, .int .i64 a0_4, .slice A0_5 l0_5.length c0_5]) (t := 45) ?hr ?_; (case hd => rfl); (case hg => rfl); (case hr => first | (go_simp; done) | (go_simp; rfl)); intro gb101 hg w5 hbox hb; have n0_ := Aside0.mk (below_step (by repeat (first | exact HB.out | apply below_alloc | apply pw_below_drewN | apply below_drew1)) hb); have n1_ := Aside0.mk (hbox); have n2_ := Aside0.mk ((by rw [hg]; exact (below_size (by repeat (first | exact HB.out | apply below_alloc | apply pw_below_drewN | apply below_drew1))) : w.heap.size ≤ gb101)); have n3_ := n2_; clear HB; have HB := n0_; have BK101 := n1_; have GW101 := n2_; have GE101 := n3_; clear n0_ n1_ n2_ n3_; clear hb hbox hg; have hcz6_0 := blk_cell BK101.out 0; have hcz6_1 := blk_cell BK101.out 1; have hcz6_2 := blk_cell BK101.out 2; have hcz6_3 := blk_cell BK101.out 3; have hcz6_4 := blk_cell BK101.out 4; have hcz6_5 := blk_cell BK101.out 5; have hfz6_0 := blk_frozen BK101.out 0; have hfz6_1 := blk_frozen BK101.out 1; have hfz6_2 := blk_frozen BK101.out 2; have hfz6_3 := blk_frozen BK101.out 3; have hfz6_4 := blk_frozen BK101.out 4; have hfz6_5 := blk_frozen BK101.out 5))
   go_ret
   exact ⟨by first | rfl | (simp [*] <;> rfl), by repeat (first | exact HB.out | apply below_alloc | apply pw_below_drewN | apply below_drew1 | refine below_set ?_ GE101.out)⟩
def bytes_Equal.f (l0 : List Int) (l1 : List Int) : Option (Bool) := some ((strOfNums l0).toList == (strOfNums l1).toList)
set_option maxHeartbeats 8000000 in
set_option maxRecDepth 100000 in
theorem bytes_Equal.calls (A0 : Option Addr) (c0 : Nat) (l0 : List Int) (A1 : Option Addr) (c1 : Nat) (l1 : List Int) (r : Bool) (w : World) (hr0 : Kd.C (Kd.int .u8) w A0 l0.length l0) (hc0 : l0.length ≤ c0) (hr1 : Kd.C (Kd.int .u8) w A1 l1.length l1) (hc1 : l1.length ≤ c1) (h : bytes_Equal.f l0 l1 = some r) :
 Calls Try.prog 129 #[.slice A0 l0.length c0, .slice A1 l1.length c1] w fun e w' => e = .returned (.bool r) ∧ Drawn0 w w' := by
 have HR0 := Aside0.mk hr0
 have HC0 := Aside0.mk hc0
 clear hr0 hc0
 have HR1 := Aside0.mk hr1
 have HC1 := Aside0.mk hc1
 clear hr1 hc1
 have H : (some ((strOfNums l0).toList == (strOfNums l1).toList)) = some r := h
 clear h
 obtain rfl := Option.some.inj H
 have hcv3 := Kd.C_string (P := Try.prog) (A := A0) (c := c0) Try.underlying52 Try.underlying5 Try.underlying9 HR0.out
 have hcvn3 := fun n_ => Kd.C_string (P := Try.prog) (A := A0) (c := c0) Try.underlying52 Try.underlying5 Try.underlying9 (Kd.C_drewN (HR0.out) n_)
 have hcv4 := Kd.C_string (P := Try.prog) (A := A1) (c := c1) Try.underlying52 Try.underlying5 Try.underlying9 HR1.out
 have hcvn4 := fun n_ => Kd.C_string (P := Try.prog) (A := A1) (c := c1) Try.underlying52 Try.underlying5 Try.underlying9 (Kd.C_drewN (HR1.out) n_)
 go_enter Try.func129, Try.ntmps129
 go_wp2
 go_ret
 exact ⟨by first | rfl | (simp; done) | (simp [*]; done), by repeat (first | exact Drawn0.refl _ | apply Drawn0.step)⟩
def impl_PointOk.f (a0 : Int) : Option (Bool) := (impl_inRange.f a0 0 1114111).bind fun t101 => (if t101 = true then ((impl_inRange.f a0 55296 57343).bind fun t102 => (some (!t102))) else (some false))
set_option maxHeartbeats 8000000 in
set_option maxRecDepth 100000 in
theorem impl_PointOk.calls (a0 : Int) (r : Bool) (w : World) (h : impl_PointOk.f a0 = some r) :
 Calls Try.prog 146 #[.int .i64 a0] w fun e w' => e = .returned (.bool r) ∧ Drawn0 w w' := by
 have H : ((impl_inRange.f a0 0 1114111).bind fun t101 => (if t101 = true then ((impl_inRange.f a0 55296 57343).bind fun t102 => (some (!t102))) else (some false))) = some r := h
 clear h
 replace H := Option.bind_eq_some_iff.mp H
 obtain ⟨t101, A20, H⟩ := H
 replace H : (if t101 = true then ((impl_inRange.f a0 55296 57343).bind fun t102 => (some (!t102))) else (some false)) = some r := H
 have A2 := Aside0.mk A20
 clear A20
 by_cases c3 : t101 = true
 · subst c3
   rw [if_pos rfl] at H
   replace H := Option.bind_eq_some_iff.mp H
   obtain ⟨t102, A40, H⟩ := H
   replace H : (some (!t102)) = some r := H
   have A4 := Aside0.mk A40
   clear A40
   obtain rfl := Option.some.inj H
   go_enter Try.func146, Try.ntmps146
   go_wp2_with (first | ((with_reducible refine gate_callee (f := 40) rfl ?_); refine goesL_ (some 4) rfl rfl Try.func40 (by kernel_rfl) rfl #[.int .i64 a0, .int .i64 0, .int .i64 1114111] rfl (by (try simp only [List.map_toArray, List.map_cons, List.map_nil]); first | done | rfl | (simp only [List.length_drop, List.length_take]; rfl)) ?_; (with_reducible refine (impl_inRange.calls a0 0 1114111 true _ A2.out).mono ?_); rintro e w' ⟨rfl, ⟨nd, rfl⟩⟩; refine ⟨_, rfl, ?_⟩) | (go_at_call 40; (with_reducible refine (impl_inRange.calls a0 55296 57343 t102 _ A4.out).mono ?_); rintro e w' ⟨rfl, ⟨nd, rfl⟩⟩))
   go_ret
   exact ⟨by first | rfl | (simp; done) | (simp [*]; done), by repeat (first | exact Drawn0.refl _ | apply Drawn0.step)⟩
 · replace c3 := Bool.eq_false_iff.mpr c3
   subst c3
   rw [if_neg (show ¬ (false = true) by decide)] at H
   obtain rfl := Option.some.inj H
   go_enter Try.func146, Try.ntmps146
   go_wp2_with (first | ((with_reducible refine gate_callee (f := 40) rfl ?_); refine goesL_ (some 4) rfl rfl Try.func40 (by kernel_rfl) rfl #[.int .i64 a0, .int .i64 0, .int .i64 1114111] rfl (by (try simp only [List.map_toArray, List.map_cons, List.map_nil]); first | done | rfl | (simp only [List.length_drop, List.length_take]; rfl)) ?_; (with_reducible refine (impl_inRange.calls a0 0 1114111 false _ A2.out).mono ?_); rintro e w' ⟨rfl, ⟨nd, rfl⟩⟩; refine ⟨_, rfl, ?_⟩))
   go_ret
   exact ⟨by first | rfl | (simp; done) | (simp [*]; done), by repeat (first | exact Drawn0.refl _ | apply Drawn0.step)⟩
def impl_putPoint.f : Nat → List Int → Int → Option (List Int)
 | 0, _, _ => none
 | k + 1, l0, a1 => (impl_PointOk.f a1).bind fun t101 => (if t101 = true then (if a1 < 128 then (if l0.length < 140737488355328 then (some (l0 ++ [(a1) % 256])) else (none)) else (if a1 < 2048 then ((some (([(Go.bits .or .i64 192 (a1 / 64)) % 256, (Go.bits .or .i64 128 (Go.bits .and .i64 a1 63)) % 256] : List Int) : List Int)).bind fun y105 => (if l0.length + y105.length < 140737488355328 then (some (l0 ++ y105)) else (none))) else (if a1 < 65536 then ((some (([(Go.bits .or .i64 224 (a1 / 4096)) % 256, (Go.bits .or .i64 128 (Go.bits .and .i64 (a1 / 64) 63)) % 256, (Go.bits .or .i64 128 (Go.bits .and .i64 a1 63)) % 256] : List Int) : List Int)).bind fun y111 => (if l0.length + y111.length < 140737488355328 then (some (l0 ++ y111)) else (none))) else ((some (([(Go.bits .or .i64 240 (a1 / 262144)) % 256, (Go.bits .or .i64 128 (Go.bits .and .i64 (a1 / 4096) 63)) % 256, (Go.bits .or .i64 128 (Go.bits .and .i64 (a1 / 64) 63)) % 256, (Go.bits .or .i64 128 (Go.bits .and .i64 a1 63)) % 256] : List Int) : List Int)).bind fun y117 => (if l0.length + y117.length < 140737488355328 then (some (l0 ++ y117)) else (none)))))) else ((impl_putPoint.f k l0 65533).bind fun t123 => (some t123)))
theorem impl_putPoint.mono_l : ∀ k, (∀ y0 y1, LeO (impl_putPoint.f k y0 y1) (impl_putPoint.f (k + 1) y0 y1))
 | 0 => fun _ _ r h => by simp [impl_putPoint.f] at h
 | k + 1 => by
  have ih0 := impl_putPoint.mono_l k
  · intro y0 y1
    unfold impl_putPoint.f
    repeat' first
    | (with_reducible exact ih0 _ _)
    | (with_reducible exact LeO.refl _)
    | (with_reducible exact LeO.none _)
    | (with_reducible refine LeO.ite ?_ ?_)
    | (with_reducible refine LeO.bind ?_ (fun _ => ?_))
    | exact ih0 _ _
    | exact LeO.none _
    | refine LeO.ite ?_ ?_
    | refine LeO.bind ?_ (fun _ => ?_)
theorem impl_putPoint.mono : ∀ a0 a1 k, LeO (impl_putPoint.f k a0 a1) (impl_putPoint.f (k + 1) a0 a1) := by
 intro a0 a1 k
 have ih0 := impl_putPoint.mono_l k
 exact ih0 a0 a1
set_option maxHeartbeats 8000000 in
set_option maxRecDepth 100000 in
theorem impl_putPoint.calls (k : Nat) : ∀ (P0_ : Nat → Prop) (u9000_ : Value) (l0 : List Int) (a1 : Int) (r : List Int) (w0 w : World) (hB : Below w0.heap.size w0 w) (ho0 : Kd.R (Kd.int .u8) 5 w w0.heap.size P0_ u9000_ l0) (h : impl_putPoint.f k l0 a1 = some r),
 Calls Try.prog 139 #[u9000_, .int .i64 a1] w fun e w' => ∃ v0_ : Value, e = .returned (v0_) ∧ Kd.R (Kd.int .u8) 5 w' w0.heap.size (fun k_ => (P0_ k_ ∨ w.heap.size ≤ k_)) v0_ r ∧ Below w0.heap.size w0 w' ∧ Kept w w' (fun k_ => P0_ k_) := by
 induction k using Nat.strongRecOn with
 | _ k ih =>
 intro P0_ u9000_ l0 a1 r w0 w hB ho0 h
 cases k with
 | zero => exact absurd h (by simp [impl_putPoint.f])
 | succ k =>
 simp only [impl_putPoint.f] at h
 have HO0 := Aside0.mk (show Kd.R (Kd.int .u8) 5 w w0.heap.size (fun k_ => (P0_ k_ ∨ w.heap.size ≤ k_)) u9000_ l0 from Kd.R_mono ho0 (fun k_ hk => (.inl hk)))
 have HK := Aside0.mk (Kept.refl w (fun k_ => P0_ k_))
 have HW0 := Aside0.mk hB.size
 have HB := Aside0.mk hB
 clear hB
 have H : ((impl_PointOk.f a1).bind fun t101 => (if t101 = true then (if a1 < 128 then (if l0.length < 140737488355328 then (some (l0 ++ [(a1) % 256])) else (none)) else (if a1 < 2048 then ((some (([(Go.bits .or .i64 192 (a1 / 64)) % 256, (Go.bits .or .i64 128 (Go.bits .and .i64 a1 63)) % 256] : List Int) : List Int)).bind fun y105 => (if l0.length + y105.length < 140737488355328 then (some (l0 ++ y105)) else (none))) else (if a1 < 65536 then ((some (([(Go.bits .or .i64 224 (a1 / 4096)) % 256, (Go.bits .or .i64 128 (Go.bits .and .i64 (a1 / 64) 63)) % 256, (Go.bits .or .i64 128 (Go.bits .and .i64 a1 63)) % 256] : List Int) : List Int)).bind fun y111 => (if l0.length + y111.length < 140737488355328 then (some (l0 ++ y111)) else (none))) else ((some (([(Go.bits .or .i64 240 (a1 / 262144)) % 256, (Go.bits .or .i64 128 (Go.bits .and .i64 (a1 / 4096) 63)) % 256, (Go.bits .or .i64 128 (Go.bits .and .i64 (a1 / 64) 63)) % 256, (Go.bits .or .i64 128 (Go.bits .and .i64 a1 63)) % 256] : List Int) : List Int)).bind fun y117 => (if l0.length + y117.length < 140737488355328 then (some (l0 ++ y117)) else (none)))))) else ((impl_putPoint.f k l0 65533).bind fun t123 => (some t123)))) = some r := h
 clear h
 replace H := Option.bind_eq_some_iff.mp H
 obtain ⟨t101, A30, H⟩ := H
 replace H : (if t101 = true then (if a1 < 128 then (if l0.length < 140737488355328 then (some (l0 ++ [(a1) % 256])) else (none)) else (if a1 < 2048 then ((some (([(Go.bits .or .i64 192 (a1 / 64)) % 256, (Go.bits .or .i64 128 (Go.bits .and .i64 a1 63)) % 256] : List Int) : List Int)).bind fun y105 => (if l0.length + y105.length < 140737488355328 then (some (l0 ++ y105)) else (none))) else (if a1 < 65536 then ((some (([(Go.bits .or .i64 224 (a1 / 4096)) % 256, (Go.bits .or .i64 128 (Go.bits .and .i64 (a1 / 64) 63)) % 256, (Go.bits .or .i64 128 (Go.bits .and .i64 a1 63)) % 256] : List Int) : List Int)).bind fun y111 => (if l0.length + y111.length < 140737488355328 then (some (l0 ++ y111)) else (none))) else ((some (([(Go.bits .or .i64 240 (a1 / 262144)) % 256, (Go.bits .or .i64 128 (Go.bits .and .i64 (a1 / 4096) 63)) % 256, (Go.bits .or .i64 128 (Go.bits .and .i64 (a1 / 64) 63)) % 256, (Go.bits .or .i64 128 (Go.bits .and .i64 a1 63)) % 256] : List Int) : List Int)).bind fun y117 => (if l0.length + y117.length < 140737488355328 then (some (l0 ++ y117)) else (none)))))) else ((impl_putPoint.f k l0 65533).bind fun t123 => (some t123))) = some r := H
 have A3 := Aside0.mk A30
 clear A30
 by_cases c4 : t101 = true
 · subst c4
   rw [if_pos rfl] at H
   by_cases c5 : a1 < 128
   · rw [if_pos c5] at H
     have c5b0 : decide (a1 < 128) = true := decide_eq_true c5
     clear c5
     by_cases c6 : l0.length < 140737488355328
     · rw [if_pos c6] at H
       have LMc6 := Aside0.mk c6
       clear c6
       obtain ⟨y102, hy102⟩ : ∃ y_ : List Int, y_ = (l0 ++ [(a1) % 256]) := ⟨_, rfl⟩
       replace H : (some y102) = some r := by first | (rw [hy102]; with_reducible exact H) | (have H2_ := (Option.bind_some _ _).symm.trans H; rw [hy102]; with_reducible exact H2_) | (have H2_ := (Option.bind_some _ _).symm.trans H; with_reducible exact H2_) | with_reducible exact H | (rw [hy102]; exact H) | exact H
       have Ny102 := Aside0.mk hy102
       clear hy102
       obtain rfl := Option.some.inj H
       go_enter Try.func139, Try.ntmps139
       go_wp2_with (first | ((with_reducible refine gate_callee (f := 146) rfl ?_); refine goesL_ (some 7) rfl rfl Try.func146 (by kernel_rfl) rfl #[.int .i64 a1] rfl (by (try simp only [List.map_toArray, List.map_cons, List.map_nil]); first | done | rfl | (simp only [List.length_drop, List.length_take]; rfl)) ?_; (with_reducible refine (impl_PointOk.calls a1 true _ A3.out).mono ?_); rintro e w' ⟨rfl, ⟨nd, rfl⟩⟩; refine ⟨_, rfl, ?_⟩) | ((with_reducible refine gate_builtin (b := .append) (xs := #[.tmp 14, .tmp 17]) rfl ?_); at_builtin; refine Kd.R_append (Kd.int .u8) (w0 := w0) w0.heap.size rfl (.tmp 14) (.tmp 17) 52 5 (.int .u8 0) 1 rfl Try.underlying52 info5 rfl (by decide) (by omega) u9000_ l0 ((a1) % 256) [.int .u8 ((a1) % 256)] (fun k_ => (P0_ k_ ∨ w.heap.size ≤ k_)) (fun _ => False) rfl rfl ?aP (fun _ hk => hk.elim) ?aF ?aO ?aB ?aS ?aL ?_; (case aP => exact rfl); (case aB => exact (by repeat (first | exact HB.out | apply below_alloc | apply pw_below_drewN | apply below_drew1))); (case aF => exact (fun k_ hk => (.inr (Nat.le_trans (by first | exact HK.out.1 | exact (show Kept w _ (fun k_ => P0_ k_) from by repeat (first | exact HK.out | apply Kept.alloc | apply Kept.drewN | apply Kept.drew)).1) hk)))); (case aO => exact (by (with_reducible repeat (first | apply Kd.R_alloc | apply Kd.R_drewN | apply Kd.R_drew)); exact HO0.out)); (case aS => exact (below_size (by repeat (first | exact HB.out | apply below_alloc | apply pw_below_drewN | apply below_drew1)))); (case aL => have := LMc6.out; omega); intro v103 w7 ho hb hg hat; rw [← Ny102.out] at ho; have n0_ := Aside0.mk (hb); have n1_ := Aside0.mk (Kept.of_grown (S := (fun k_ => P0_ k_)) hg (by repeat (first | exact HK.out | apply Kept.alloc | apply Kept.drewN | apply Kept.drew)) (fun k_ e_ => (HO0.out.1 k_ e_))); have n2_ := Aside0.mk (ho); clear HB; clear HK; clear HO0; have HB := n0_; have HK := n1_; have HO104 := n2_; clear n0_ n1_ n2_; clear ho hb hg hat))
       go_ret
       exact ⟨_, by first | rfl | (simp [*] <;> rfl), by (with_reducible repeat (first | apply Kd.R_alloc | apply Kd.R_drewN | apply Kd.R_drew)); exact HO104.out, by repeat (first | exact HB.out | apply below_alloc | apply pw_below_drewN | apply below_drew1), by repeat (first | exact HK.out | apply Kept.alloc | apply Kept.drewN | apply Kept.drew)⟩
     · rw [if_neg c6] at H
       exact absurd H (by simp)
   · rw [if_neg c5] at H
     have c5b0 : decide (a1 < 128) = false := decide_eq_false c5
     clear c5
     by_cases c8 : a1 < 2048
     · rw [if_pos c8] at H
       have c8b0 : decide (a1 < 2048) = true := decide_eq_true c8
       clear c8
       obtain ⟨y105, hy105⟩ : ∃ y_ : List Int, y_ = (([(Go.bits .or .i64 192 (a1 / 64)) % 256, (Go.bits .or .i64 128 (Go.bits .and .i64 a1 63)) % 256] : List Int)) := ⟨_, rfl⟩
       replace H : (if l0.length + y105.length < 140737488355328 then (some (l0 ++ y105)) else (none)) = some r := by first | (rw [hy105]; with_reducible exact H) | (have H2_ := (Option.bind_some _ _).symm.trans H; rw [hy105]; with_reducible exact H2_) | (have H2_ := (Option.bind_some _ _).symm.trans H; with_reducible exact H2_) | with_reducible exact H | (rw [hy105]; exact H) | exact H
       have Ny105 := Aside0.mk hy105
       clear hy105
       by_cases c9 : l0.length + y105.length < 140737488355328
       · rw [if_pos c9] at H
         have LMc9 := Aside0.mk c9
         clear c9
         obtain ⟨y108, hy108⟩ : ∃ y_ : List Int, y_ = (l0 ++ y105) := ⟨_, rfl⟩
         replace H : (some y108) = some r := by first | (rw [hy108]; with_reducible exact H) | (have H2_ := (Option.bind_some _ _).symm.trans H; rw [hy108]; with_reducible exact H2_) | (have H2_ := (Option.bind_some _ _).symm.trans H; with_reducible exact H2_) | with_reducible exact H | (rw [hy108]; exact H) | exact H
         have Ny108 := Aside0.mk hy108
         clear hy108
         obtain rfl := Option.some.inj H
         go_enter Try.func139, Try.ntmps139
         go_wp2_with (first | ((with_reducible refine gate_callee (f := 146) rfl ?_); refine goesL_ (some 7) rfl rfl Try.func146 (by kernel_rfl) rfl #[.int .i64 a1] rfl (by (try simp only [List.map_toArray, List.map_cons, List.map_nil]); first | done | rfl | (simp only [List.length_drop, List.length_take]; rfl)) ?_; (with_reducible refine (impl_PointOk.calls a1 true _ A3.out).mono ?_); rintro e w' ⟨rfl, ⟨nd, rfl⟩⟩; refine ⟨_, rfl, ?_⟩) | ((with_reducible refine gate_dst (N := 31) rfl ?_); refine Kd.R_lit (Kd.int .u8) _ 5 ?hg (N := 31) ?hd (xs := ([(Go.bits .or .i64 192 (a1 / 64)) % 256, (Go.bits .or .i64 128 (Go.bits .and .i64 a1 63)) % 256] : List Int)) (inner := [.int .u8 ((Go.bits .or .i64 192 (a1 / 64)) % 256), .int .u8 ((Go.bits .or .i64 128 (Go.bits .and .i64 a1 63)) % 256)]) (ok := fun _ => True) (okp := fun _ => True) ?hr ?hp (fun _ hk => hk) trivial (Below.refl _ _) (Nat.le_refl _) (by simp) ?_; (case hd => rfl); (case hg => rfl); (case hr => first | (go_simp; done) | (go_simp; rfl)); (case hp => exact (Reps.one (show Kd.M (Kd.int .u8) _ _ _ ((Go.bits .or .i64 192 (a1 / 64)) % 256) [.int .u8 ((Go.bits .or .i64 192 (a1 / 64)) % 256)] from rfl) (Reps.one (show Kd.M (Kd.int .u8) _ _ _ ((Go.bits .or .i64 128 (Go.bits .and .i64 a1 63)) % 256) [.int .u8 ((Go.bits .or .i64 128 (Go.bits .and .i64 a1 63)) % 256)] from rfl) (Reps.none _ _)))); intro v106 w10 ho11 hb hg_ hnew_; clear hg_ hnew_; (first | rw [← Ny105.out] at ho11 | (simp only [Int.reduceToNat] at ho11; rw [← Ny105.out] at ho11)); have n0_ := Aside0.mk (Kd.R_elder' (by (with_reducible repeat (first | apply Kd.R_alloc | apply Kd.R_drewN | apply Kd.R_drew)); exact HO0.out) (Kd.R_base ho11) hb); have n1_ := Aside0.mk (Kd.R_lower (Kd.R_new' (Kd.R_newM (M := fun k_ => (P0_ k_ ∨ w.heap.size ≤ k_)) ho11 (by first | exact HK.out.1 | exact (show Kept w _ (fun k_ => P0_ k_) from by repeat (first | exact HK.out | apply Kept.alloc | apply Kept.drewN | apply Kept.drew)).1) (fun k_ h_ => .inr h_)) (Kd.R_lt (by (with_reducible repeat (first | apply Kd.R_alloc | apply Kd.R_drewN | apply Kd.R_drew)); exact HO0.out))) (below_size (by repeat (first | exact HB.out | apply below_alloc | apply pw_below_drewN | apply below_drew1)))); have n2_ := Aside0.mk (Kept.below (S := (fun k_ => P0_ k_)) (by repeat (first | exact HK.out | apply Kept.alloc | apply Kept.drewN | apply Kept.drew)) hb); have n3_ := Aside0.mk (below_step (by repeat (first | exact HB.out | apply below_alloc | apply pw_below_drewN | apply below_drew1)) hb); clear HO0; clear HK; clear HB; have HO0 := n0_; have HO107 := n1_; have HK := n2_; have HB := n3_; clear n0_ n1_ n2_ n3_; clear hb ho11; obtain ⟨Ao13, co13, eo13⟩ := Kd.R_slice HO107.out; subst eo13) | ((with_reducible refine gate_builtin (b := .append) (xs := #[.tmp 22, .tmp 31]) rfl ?_); at_builtin; refine Kd.R_append_rows (Kd.int .u8) (w0 := w0) w0.heap.size rfl (.tmp 22) (.tmp 31) 52 5 (.int .u8 0) 1 rfl Try.underlying52 info5 rfl (by decide) (by omega) u9000_ l0 y105 _ _ _ (fun k_ => (P0_ k_ ∨ w.heap.size ≤ k_) ∧ some k_ ≠ (.slice Ao13 y105.length co13 : Value).ownBlock) (fun _ => False) rfl rfl ?aO ?aR (fun _ _ h => h) (fun _ h => h.elim) ?aF ?aB ?aS ?aL ?_; (case aR => repeat (first | exact (Kd.R_reads' HO107.out).2.2 | (with_reducible refine Kd.C_alloc ?_ _) | (with_reducible refine Kd.C_drewN ?_ _) | (with_reducible refine Kd.C_drew ?_))); (case aB => exact (by repeat (first | exact HB.out | apply below_alloc | apply pw_below_drewN | apply below_drew1))); (case aF => exact (fun k_ hk => ⟨(.inr (Nat.le_trans (by first | exact HK.out.1 | exact (show Kept w _ (fun k_ => P0_ k_) from by repeat (first | exact HK.out | apply Kept.alloc | apply Kept.drewN | apply Kept.drew)).1) hk)), Kd.fresh' (Kd.R_lt (by (with_reducible repeat (first | apply Kd.R_alloc | apply Kd.R_drewN | apply Kd.R_drew)); exact HO107.out)) k_ hk⟩)); (case aO => exact (by (with_reducible repeat (first | apply Kd.R_alloc | apply Kd.R_drewN | apply Kd.R_drew)); exact HO0.out)); (case aS => exact (below_size (by repeat (first | exact HB.out | apply below_alloc | apply pw_below_drewN | apply below_drew1)))); (case aL => have := LMc9.out; omega); intro v109 w12 ho hb hg hat; rw [← Ny108.out] at ho; have n0_ := Aside0.mk (Kd.R_after (ok := (fun k_ => (P0_ k_ ∨ w.heap.size ≤ k_))) (by (with_reducible repeat (first | apply Kd.R_alloc | apply Kd.R_drewN | apply Kd.R_drew)); exact Kd.R_mono HO107.out (fun _ hk => ⟨hk.1.1, hk.2⟩)) hg hat); have n1_ := Aside0.mk (hb); have n2_ := Aside0.mk (Kept.of_grown (S := (fun k_ => P0_ k_)) hg (by repeat (first | exact HK.out | apply Kept.alloc | apply Kept.drewN | apply Kept.drew)) (fun k_ e_ => (HO0.out.1 k_ e_).1)); have n3_ := Aside0.mk (ho); clear HO107; clear HB; clear HK; clear HO0; have HO107 := n0_; have HB := n1_; have HK := n2_; have HO110 := n3_; clear n0_ n1_ n2_ n3_; clear ho hb hg hat))
         go_ret
         exact ⟨_, by first | rfl | (simp [*] <;> rfl), by (with_reducible repeat (first | apply Kd.R_alloc | apply Kd.R_drewN | apply Kd.R_drew)); exact Kd.R_mono HO110.out (fun _ hk => hk.1), by repeat (first | exact HB.out | apply below_alloc | apply pw_below_drewN | apply below_drew1), by repeat (first | exact HK.out | apply Kept.alloc | apply Kept.drewN | apply Kept.drew)⟩
       · rw [if_neg c9] at H
         exact absurd H (by simp)
     · rw [if_neg c8] at H
       have c8b0 : decide (a1 < 2048) = false := decide_eq_false c8
       clear c8
       by_cases c14 : a1 < 65536
       · rw [if_pos c14] at H
         have c14b0 : decide (a1 < 65536) = true := decide_eq_true c14
         clear c14
         obtain ⟨y111, hy111⟩ : ∃ y_ : List Int, y_ = (([(Go.bits .or .i64 224 (a1 / 4096)) % 256, (Go.bits .or .i64 128 (Go.bits .and .i64 (a1 / 64) 63)) % 256, (Go.bits .or .i64 128 (Go.bits .and .i64 a1 63)) % 256] : List Int)) := ⟨_, rfl⟩
         replace H : (if l0.length + y111.length < 140737488355328 then (some (l0 ++ y111)) else (none)) = some r := by first | (rw [hy111]; with_reducible exact H) | (have H2_ := (Option.bind_some _ _).symm.trans H; rw [hy111]; with_reducible exact H2_) | (have H2_ := (Option.bind_some _ _).symm.trans H; with_reducible exact H2_) | with_reducible exact H | (rw [hy111]; exact H) | exact H
         have Ny111 := Aside0.mk hy111
         clear hy111
         by_cases c15 : l0.length + y111.length < 140737488355328
         · rw [if_pos c15] at H
           have LMc15 := Aside0.mk c15
           clear c15
           obtain ⟨y114, hy114⟩ : ∃ y_ : List Int, y_ = (l0 ++ y111) := ⟨_, rfl⟩
           replace H : (some y114) = some r := by first | (rw [hy114]; with_reducible exact H) | (have H2_ := (Option.bind_some _ _).symm.trans H; rw [hy114]; with_reducible exact H2_) | (have H2_ := (Option.bind_some _ _).symm.trans H; with_reducible exact H2_) | with_reducible exact H | (rw [hy114]; exact H) | exact H
           have Ny114 := Aside0.mk hy114
           clear hy114
           obtain rfl := Option.some.inj H
           go_enter Try.func139, Try.ntmps139
           go_wp2_with (first | ((with_reducible refine gate_callee (f := 146) rfl ?_); refine goesL_ (some 7) rfl rfl Try.func146 (by kernel_rfl) rfl #[.int .i64 a1] rfl (by (try simp only [List.map_toArray, List.map_cons, List.map_nil]); first | done | rfl | (simp only [List.length_drop, List.length_take]; rfl)) ?_; (with_reducible refine (impl_PointOk.calls a1 true _ A3.out).mono ?_); rintro e w' ⟨rfl, ⟨nd, rfl⟩⟩; refine ⟨_, rfl, ?_⟩) | ((with_reducible refine gate_dst (N := 50) rfl ?_); refine Kd.R_lit (Kd.int .u8) _ 5 ?hg (N := 50) ?hd (xs := ([(Go.bits .or .i64 224 (a1 / 4096)) % 256, (Go.bits .or .i64 128 (Go.bits .and .i64 (a1 / 64) 63)) % 256, (Go.bits .or .i64 128 (Go.bits .and .i64 a1 63)) % 256] : List Int)) (inner := [.int .u8 ((Go.bits .or .i64 224 (a1 / 4096)) % 256), .int .u8 ((Go.bits .or .i64 128 (Go.bits .and .i64 (a1 / 64) 63)) % 256), .int .u8 ((Go.bits .or .i64 128 (Go.bits .and .i64 a1 63)) % 256)]) (ok := fun _ => True) (okp := fun _ => True) ?hr ?hp (fun _ hk => hk) trivial (Below.refl _ _) (Nat.le_refl _) (by simp) ?_; (case hd => rfl); (case hg => rfl); (case hr => first | (go_simp; done) | (go_simp; rfl)); (case hp => exact (Reps.one (show Kd.M (Kd.int .u8) _ _ _ ((Go.bits .or .i64 224 (a1 / 4096)) % 256) [.int .u8 ((Go.bits .or .i64 224 (a1 / 4096)) % 256)] from rfl) (Reps.one (show Kd.M (Kd.int .u8) _ _ _ ((Go.bits .or .i64 128 (Go.bits .and .i64 (a1 / 64) 63)) % 256) [.int .u8 ((Go.bits .or .i64 128 (Go.bits .and .i64 (a1 / 64) 63)) % 256)] from rfl) (Reps.one (show Kd.M (Kd.int .u8) _ _ _ ((Go.bits .or .i64 128 (Go.bits .and .i64 a1 63)) % 256) [.int .u8 ((Go.bits .or .i64 128 (Go.bits .and .i64 a1 63)) % 256)] from rfl) (Reps.none _ _))))); intro v112 w16 ho17 hb hg_ hnew_; clear hg_ hnew_; (first | rw [← Ny111.out] at ho17 | (simp only [Int.reduceToNat] at ho17; rw [← Ny111.out] at ho17)); have n0_ := Aside0.mk (Kd.R_elder' (by (with_reducible repeat (first | apply Kd.R_alloc | apply Kd.R_drewN | apply Kd.R_drew)); exact HO0.out) (Kd.R_base ho17) hb); have n1_ := Aside0.mk (Kd.R_lower (Kd.R_new' (Kd.R_newM (M := fun k_ => (P0_ k_ ∨ w.heap.size ≤ k_)) ho17 (by first | exact HK.out.1 | exact (show Kept w _ (fun k_ => P0_ k_) from by repeat (first | exact HK.out | apply Kept.alloc | apply Kept.drewN | apply Kept.drew)).1) (fun k_ h_ => .inr h_)) (Kd.R_lt (by (with_reducible repeat (first | apply Kd.R_alloc | apply Kd.R_drewN | apply Kd.R_drew)); exact HO0.out))) (below_size (by repeat (first | exact HB.out | apply below_alloc | apply pw_below_drewN | apply below_drew1)))); have n2_ := Aside0.mk (Kept.below (S := (fun k_ => P0_ k_)) (by repeat (first | exact HK.out | apply Kept.alloc | apply Kept.drewN | apply Kept.drew)) hb); have n3_ := Aside0.mk (below_step (by repeat (first | exact HB.out | apply below_alloc | apply pw_below_drewN | apply below_drew1)) hb); clear HO0; clear HK; clear HB; have HO0 := n0_; have HO113 := n1_; have HK := n2_; have HB := n3_; clear n0_ n1_ n2_ n3_; clear hb ho17; obtain ⟨Ao19, co19, eo19⟩ := Kd.R_slice HO113.out; subst eo19) | ((with_reducible refine gate_builtin (b := .append) (xs := #[.tmp 36, .tmp 50]) rfl ?_); at_builtin; refine Kd.R_append_rows (Kd.int .u8) (w0 := w0) w0.heap.size rfl (.tmp 36) (.tmp 50) 52 5 (.int .u8 0) 1 rfl Try.underlying52 info5 rfl (by decide) (by omega) u9000_ l0 y111 _ _ _ (fun k_ => (P0_ k_ ∨ w.heap.size ≤ k_) ∧ some k_ ≠ (.slice Ao19 y111.length co19 : Value).ownBlock) (fun _ => False) rfl rfl ?aO ?aR (fun _ _ h => h) (fun _ h => h.elim) ?aF ?aB ?aS ?aL ?_; (case aR => repeat (first | exact (Kd.R_reads' HO113.out).2.2 | (with_reducible refine Kd.C_alloc ?_ _) | (with_reducible refine Kd.C_drewN ?_ _) | (with_reducible refine Kd.C_drew ?_))); (case aB => exact (by repeat (first | exact HB.out | apply below_alloc | apply pw_below_drewN | apply below_drew1))); (case aF => exact (fun k_ hk => ⟨(.inr (Nat.le_trans (by first | exact HK.out.1 | exact (show Kept w _ (fun k_ => P0_ k_) from by repeat (first | exact HK.out | apply Kept.alloc | apply Kept.drewN | apply Kept.drew)).1) hk)), Kd.fresh' (Kd.R_lt (by (with_reducible repeat (first | apply Kd.R_alloc | apply Kd.R_drewN | apply Kd.R_drew)); exact HO113.out)) k_ hk⟩)); (case aO => exact (by (with_reducible repeat (first | apply Kd.R_alloc | apply Kd.R_drewN | apply Kd.R_drew)); exact HO0.out)); (case aS => exact (below_size (by repeat (first | exact HB.out | apply below_alloc | apply pw_below_drewN | apply below_drew1)))); (case aL => have := LMc15.out; omega); intro v115 w18 ho hb hg hat; rw [← Ny114.out] at ho; have n0_ := Aside0.mk (Kd.R_after (ok := (fun k_ => (P0_ k_ ∨ w.heap.size ≤ k_))) (by (with_reducible repeat (first | apply Kd.R_alloc | apply Kd.R_drewN | apply Kd.R_drew)); exact Kd.R_mono HO113.out (fun _ hk => ⟨hk.1.1, hk.2⟩)) hg hat); have n1_ := Aside0.mk (hb); have n2_ := Aside0.mk (Kept.of_grown (S := (fun k_ => P0_ k_)) hg (by repeat (first | exact HK.out | apply Kept.alloc | apply Kept.drewN | apply Kept.drew)) (fun k_ e_ => (HO0.out.1 k_ e_).1)); have n3_ := Aside0.mk (ho); clear HO113; clear HB; clear HK; clear HO0; have HO113 := n0_; have HB := n1_; have HK := n2_; have HO116 := n3_; clear n0_ n1_ n2_ n3_; clear ho hb hg hat))
           go_ret
           exact ⟨_, by first | rfl | (simp [*] <;> rfl), by (with_reducible repeat (first | apply Kd.R_alloc | apply Kd.R_drewN | apply Kd.R_drew)); exact Kd.R_mono HO116.out (fun _ hk => hk.1), by repeat (first | exact HB.out | apply below_alloc | apply pw_below_drewN | apply below_drew1), by repeat (first | exact HK.out | apply Kept.alloc | apply Kept.drewN | apply Kept.drew)⟩
         · rw [if_neg c15] at H
           exact absurd H (by simp)
       · rw [if_neg c14] at H
         have c14b0 : decide (a1 < 65536) = false := decide_eq_false c14
         clear c14
         obtain ⟨y117, hy117⟩ : ∃ y_ : List Int, y_ = (([(Go.bits .or .i64 240 (a1 / 262144)) % 256, (Go.bits .or .i64 128 (Go.bits .and .i64 (a1 / 4096) 63)) % 256, (Go.bits .or .i64 128 (Go.bits .and .i64 (a1 / 64) 63)) % 256, (Go.bits .or .i64 128 (Go.bits .and .i64 a1 63)) % 256] : List Int)) := ⟨_, rfl⟩
         replace H : (if l0.length + y117.length < 140737488355328 then (some (l0 ++ y117)) else (none)) = some r := by first | (rw [hy117]; with_reducible exact H) | (have H2_ := (Option.bind_some _ _).symm.trans H; rw [hy117]; with_reducible exact H2_) | (have H2_ := (Option.bind_some _ _).symm.trans H; with_reducible exact H2_) | with_reducible exact H | (rw [hy117]; exact H) | exact H
         have Ny117 := Aside0.mk hy117
         clear hy117
         by_cases c20 : l0.length + y117.length < 140737488355328
         · rw [if_pos c20] at H
           have LMc20 := Aside0.mk c20
           clear c20
           obtain ⟨y120, hy120⟩ : ∃ y_ : List Int, y_ = (l0 ++ y117) := ⟨_, rfl⟩
           replace H : (some y120) = some r := by first | (rw [hy120]; with_reducible exact H) | (have H2_ := (Option.bind_some _ _).symm.trans H; rw [hy120]; with_reducible exact H2_) | (have H2_ := (Option.bind_some _ _).symm.trans H; with_reducible exact H2_) | with_reducible exact H | (rw [hy120]; exact H) | exact H
           have Ny120 := Aside0.mk hy120
           clear hy120
           obtain rfl := Option.some.inj H
           go_enter Try.func139, Try.ntmps139
           go_wp2_with (first | ((with_reducible refine gate_callee (f := 146) rfl ?_); refine goesL_ (some 7) rfl rfl Try.func146 (by kernel_rfl) rfl #[.int .i64 a1] rfl (by (try simp only [List.map_toArray, List.map_cons, List.map_nil]); first | done | rfl | (simp only [List.length_drop, List.length_take]; rfl)) ?_; (with_reducible refine (impl_PointOk.calls a1 true _ A3.out).mono ?_); rintro e w' ⟨rfl, ⟨nd, rfl⟩⟩; refine ⟨_, rfl, ?_⟩) | ((with_reducible refine gate_dst (N := 71) rfl ?_); refine Kd.R_lit (Kd.int .u8) _ 5 ?hg (N := 71) ?hd (xs := ([(Go.bits .or .i64 240 (a1 / 262144)) % 256, (Go.bits .or .i64 128 (Go.bits .and .i64 (a1 / 4096) 63)) % 256, (Go.bits .or .i64 128 (Go.bits .and .i64 (a1 / 64) 63)) % 256, (Go.bits .or .i64 128 (Go.bits .and .i64 a1 63)) % 256] : List Int)) (inner := [.int .u8 ((Go.bits .or .i64 240 (a1 / 262144)) % 256), .int .u8 ((Go.bits .or .i64 128 (Go.bits .and .i64 (a1 / 4096) 63)) % 256), .int .u8 ((Go.bits .or .i64 128 (Go.bits .and .i64 (a1 / 64) 63)) % 256), .int .u8 ((Go.bits .or .i64 128 (Go.bits .and .i64 a1 63)) % 256)]) (ok := fun _ => True) (okp := fun _ => True) ?hr ?hp (fun _ hk => hk) trivial (Below.refl _ _) (Nat.le_refl _) (by simp) ?_; (case hd => rfl); (case hg => rfl); (case hr => first | (go_simp; done) | (go_simp; rfl)); (case hp => exact (Reps.one (show Kd.M (Kd.int .u8) _ _ _ ((Go.bits .or .i64 240 (a1 / 262144)) % 256) [.int .u8 ((Go.bits .or .i64 240 (a1 / 262144)) % 256)] from rfl) (Reps.one (show Kd.M (Kd.int .u8) _ _ _ ((Go.bits .or .i64 128 (Go.bits .and .i64 (a1 / 4096) 63)) % 256) [.int .u8 ((Go.bits .or .i64 128 (Go.bits .and .i64 (a1 / 4096) 63)) % 256)] from rfl) (Reps.one (show Kd.M (Kd.int .u8) _ _ _ ((Go.bits .or .i64 128 (Go.bits .and .i64 (a1 / 64) 63)) % 256) [.int .u8 ((Go.bits .or .i64 128 (Go.bits .and .i64 (a1 / 64) 63)) % 256)] from rfl) (Reps.one (show Kd.M (Kd.int .u8) _ _ _ ((Go.bits .or .i64 128 (Go.bits .and .i64 a1 63)) % 256) [.int .u8 ((Go.bits .or .i64 128 (Go.bits .and .i64 a1 63)) % 256)] from rfl) (Reps.none _ _)))))); intro v118 w21 ho22 hb hg_ hnew_; clear hg_ hnew_; (first | rw [← Ny117.out] at ho22 | (simp only [Int.reduceToNat] at ho22; rw [← Ny117.out] at ho22)); have n0_ := Aside0.mk (Kd.R_elder' (by (with_reducible repeat (first | apply Kd.R_alloc | apply Kd.R_drewN | apply Kd.R_drew)); exact HO0.out) (Kd.R_base ho22) hb); have n1_ := Aside0.mk (Kd.R_lower (Kd.R_new' (Kd.R_newM (M := fun k_ => (P0_ k_ ∨ w.heap.size ≤ k_)) ho22 (by first | exact HK.out.1 | exact (show Kept w _ (fun k_ => P0_ k_) from by repeat (first | exact HK.out | apply Kept.alloc | apply Kept.drewN | apply Kept.drew)).1) (fun k_ h_ => .inr h_)) (Kd.R_lt (by (with_reducible repeat (first | apply Kd.R_alloc | apply Kd.R_drewN | apply Kd.R_drew)); exact HO0.out))) (below_size (by repeat (first | exact HB.out | apply below_alloc | apply pw_below_drewN | apply below_drew1)))); have n2_ := Aside0.mk (Kept.below (S := (fun k_ => P0_ k_)) (by repeat (first | exact HK.out | apply Kept.alloc | apply Kept.drewN | apply Kept.drew)) hb); have n3_ := Aside0.mk (below_step (by repeat (first | exact HB.out | apply below_alloc | apply pw_below_drewN | apply below_drew1)) hb); clear HO0; clear HK; clear HB; have HO0 := n0_; have HO119 := n1_; have HK := n2_; have HB := n3_; clear n0_ n1_ n2_ n3_; clear hb ho22; obtain ⟨Ao24, co24, eo24⟩ := Kd.R_slice HO119.out; subst eo24) | ((with_reducible refine gate_builtin (b := .append) (xs := #[.tmp 52, .tmp 71]) rfl ?_); at_builtin; refine Kd.R_append_rows (Kd.int .u8) (w0 := w0) w0.heap.size rfl (.tmp 52) (.tmp 71) 52 5 (.int .u8 0) 1 rfl Try.underlying52 info5 rfl (by decide) (by omega) u9000_ l0 y117 _ _ _ (fun k_ => (P0_ k_ ∨ w.heap.size ≤ k_) ∧ some k_ ≠ (.slice Ao24 y117.length co24 : Value).ownBlock) (fun _ => False) rfl rfl ?aO ?aR (fun _ _ h => h) (fun _ h => h.elim) ?aF ?aB ?aS ?aL ?_; (case aR => repeat (first | exact (Kd.R_reads' HO119.out).2.2 | (with_reducible refine Kd.C_alloc ?_ _) | (with_reducible refine Kd.C_drewN ?_ _) | (with_reducible refine Kd.C_drew ?_))); (case aB => exact (by repeat (first | exact HB.out | apply below_alloc | apply pw_below_drewN | apply below_drew1))); (case aF => exact (fun k_ hk => ⟨(.inr (Nat.le_trans (by first | exact HK.out.1 | exact (show Kept w _ (fun k_ => P0_ k_) from by repeat (first | exact HK.out | apply Kept.alloc | apply Kept.drewN | apply Kept.drew)).1) hk)), Kd.fresh' (Kd.R_lt (by (with_reducible repeat (first | apply Kd.R_alloc | apply Kd.R_drewN | apply Kd.R_drew)); exact HO119.out)) k_ hk⟩)); (case aO => exact (by (with_reducible repeat (first | apply Kd.R_alloc | apply Kd.R_drewN | apply Kd.R_drew)); exact HO0.out)); (case aS => exact (below_size (by repeat (first | exact HB.out | apply below_alloc | apply pw_below_drewN | apply below_drew1)))); (case aL => have := LMc20.out; omega); intro v121 w23 ho hb hg hat; rw [← Ny120.out] at ho; have n0_ := Aside0.mk (Kd.R_after (ok := (fun k_ => (P0_ k_ ∨ w.heap.size ≤ k_))) (by (with_reducible repeat (first | apply Kd.R_alloc | apply Kd.R_drewN | apply Kd.R_drew)); exact Kd.R_mono HO119.out (fun _ hk => ⟨hk.1.1, hk.2⟩)) hg hat); have n1_ := Aside0.mk (hb); have n2_ := Aside0.mk (Kept.of_grown (S := (fun k_ => P0_ k_)) hg (by repeat (first | exact HK.out | apply Kept.alloc | apply Kept.drewN | apply Kept.drew)) (fun k_ e_ => (HO0.out.1 k_ e_).1)); have n3_ := Aside0.mk (ho); clear HO119; clear HB; clear HK; clear HO0; have HO119 := n0_; have HB := n1_; have HK := n2_; have HO122 := n3_; clear n0_ n1_ n2_ n3_; clear ho hb hg hat))
           go_ret
           exact ⟨_, by first | rfl | (simp [*] <;> rfl), by (with_reducible repeat (first | apply Kd.R_alloc | apply Kd.R_drewN | apply Kd.R_drew)); exact Kd.R_mono HO122.out (fun _ hk => hk.1), by repeat (first | exact HB.out | apply below_alloc | apply pw_below_drewN | apply below_drew1), by repeat (first | exact HK.out | apply Kept.alloc | apply Kept.drewN | apply Kept.drew)⟩
         · rw [if_neg c20] at H
           exact absurd H (by simp)
 · replace c4 := Bool.eq_false_iff.mpr c4
   subst c4
   rw [if_neg (show ¬ (false = true) by decide)] at H
   replace H := Option.bind_eq_some_iff.mp H
   obtain ⟨t123, A250, H⟩ := H
   replace H : (some t123) = some r := H
   have A25 := Aside0.mk A250
   clear A250
   obtain rfl := Option.some.inj H
   go_enter Try.func139, Try.ntmps139
   go_wp2_with (first | ((with_reducible refine gate_callee (f := 146) rfl ?_); refine goesL_ (some 7) rfl rfl Try.func146 (by kernel_rfl) rfl #[.int .i64 a1] rfl (by (try simp only [List.map_toArray, List.map_cons, List.map_nil]); first | done | rfl | (simp only [List.length_drop, List.length_take]; rfl)) ?_; (with_reducible refine (impl_PointOk.calls a1 false _ A3.out).mono ?_); rintro e w' ⟨rfl, ⟨nd, rfl⟩⟩; refine ⟨_, rfl, ?_⟩; obtain ⟨Ao26, co26, eo26⟩ := Kd.R_slice HO0.out; subst eo26) | ((with_reducible refine gate_callee (f := 139) rfl ?_); refine goesL_ (some 10) rfl rfl Try.func139 (by kernel_rfl) rfl #[.slice Ao26 l0.length co26, .int .i64 65533] rfl (by (try simp only [List.map_toArray, List.map_cons, List.map_nil]); first | done | rfl | (simp only [List.length_drop, List.length_take]; rfl)) ?_; (with_reducible refine (ih k (by omega) (fun k_ => some k_ = (.slice Ao26 l0.length co26 : Value).ownBlock) (.slice Ao26 l0.length co26) l0 65533 t123 w0 _ ?side1 ?side2 A25.out).mono ?_); (case side1 => repeat (first | (with_reducible first | exact HB.out | apply below_alloc | apply pw_below_drewN | apply below_drew1) | exact HB.out)); (case side2 => exact Kd.R_tight rfl HO0.out); rintro e w27 ⟨v124, rfl, ho0, hb, hkp⟩; refine ⟨_, rfl, ?_⟩; have n0_ := Aside0.mk (Kd.R_mono (ok' := fun k_ => (P0_ k_ ∨ w.heap.size ≤ k_)) ho0 (fun k_ hk_ => Or.elim hk_ (fun hs_ => (HO0.out.1 k_ (hs_).symm)) (fun hn_ => (.inr (Nat.le_trans (by first | exact HK.out.1 | exact (show Kept w _ (fun k_ => P0_ k_) from by repeat (first | exact HK.out | apply Kept.alloc | apply Kept.drewN | apply Kept.drew)).1) hn_))))); have n1_ := Aside0.mk (Kept.then_ (S := (fun k_ => P0_ k_)) (by repeat (first | exact HK.out | apply Kept.alloc | apply Kept.drewN | apply Kept.drew)) hkp (fun k_ hs_ => (fun e_ => (HO0.out.1 k_ e_.symm)) hs_)); have n2_ := Aside0.mk (hb); clear HK; clear HB; clear HO0; have HO125 := n0_; have HK := n1_; have HB := n2_; clear n0_ n1_ n2_; (try clear hb); (try clear hkp); (try clear ho0)))
   go_ret
   exact ⟨_, by first | rfl | (simp [*] <;> rfl), by (with_reducible repeat (first | apply Kd.R_alloc | apply Kd.R_drewN | apply Kd.R_drew)); exact HO125.out, by repeat (first | exact HB.out | apply below_alloc | apply pw_below_drewN | apply below_drew1), by repeat (first | exact HK.out | apply Kept.alloc | apply Kept.drewN | apply Kept.drew)⟩
def impl_PointsPut.l0 : Nat → List Int → List Int → Int → Int → Option (List Int)
 | 0, _, _, _, _ => none
 | k + 1, x3, x9, x10, x11 => if x11 < x10 then (if 0 ≤ x11 then (if x11 < (x9.length : Int) then ((impl_putPoint.f k x3 (rd x9 x11)).bind fun t102 => (impl_PointsPut.l0 k t102 x9 x10 (wrap64 (x11 + 1)))) else (none)) else (none)) else (some x3)
def impl_PointsPut.f (k : Nat) (l0 : List Int) : Option (List Int) := if (l0.length : Int) > 3000 then (some ([] : List Int)) else (impl_PointsPut.l0 k ([] : List Int) l0 (l0.length : Int) 0)
theorem impl_PointsPut.mono_l : ∀ k, (∀ y0 y1 y2 y3, LeO (impl_PointsPut.l0 k y0 y1 y2 y3) (impl_PointsPut.l0 (k + 1) y0 y1 y2 y3))
 | 0 => fun _ _ _ _ r h => by simp [impl_PointsPut.l0] at h
 | k + 1 => by
  have ih0 := impl_PointsPut.mono_l k
  · intro y0 y1 y2 y3
    unfold impl_PointsPut.l0
    repeat' first
    | (with_reducible exact ih0 _ _ _ _)
    | (with_reducible exact impl_putPoint.mono _ _ _)
    | (with_reducible exact LeO.refl _)
    | (with_reducible exact LeO.none _)
    | (with_reducible refine LeO.ite ?_ ?_)
    | (with_reducible refine LeO.bind ?_ (fun _ => ?_))
    | exact ih0 _ _ _ _
    | exact impl_putPoint.mono _ _ _
    | exact LeO.none _
    | refine LeO.ite ?_ ?_
    | refine LeO.bind ?_ (fun _ => ?_)
theorem impl_PointsPut.mono : ∀ a0 k, LeO (impl_PointsPut.f k a0) (impl_PointsPut.f (k + 1) a0) := by
 intro a0 k
 have ih0 := impl_PointsPut.mono_l k
 unfold impl_PointsPut.f
 repeat' first
  | (with_reducible exact ih0 _ _ _ _)
  | (with_reducible exact impl_putPoint.mono _ _ _)
  | (with_reducible exact LeO.refl _)
  | (with_reducible exact LeO.none _)
  | (with_reducible refine LeO.ite ?_ ?_)
  | (with_reducible refine LeO.bind ?_ (fun _ => ?_))
  | exact ih0 _ _ _ _
  | exact impl_putPoint.mono _ _ _
  | exact LeO.none _
  | refine LeO.ite ?_ ?_
  | refine LeO.bind ?_ (fun _ => ?_)
set_option maxHeartbeats 8000000 in
set_option maxRecDepth 100000 in
theorem impl_PointsPut.calls (k : Nat) (A0 : Option Addr) (c0 : Nat) (l0 : List Int) (r : List Int) (w : World) (hr0 : Kd.C (Kd.int .i64) w A0 l0.length l0) (hc0 : l0.length ≤ c0) (h : impl_PointsPut.f k l0 = some r) :
 Calls Try.prog 130 #[.slice A0 l0.length c0] w fun e w' => ∃ v0_ : Value, e = .returned (v0_) ∧ Kd.R (Kd.int .u8) 5 w' w.heap.size (fun _ => True) v0_ r ∧ Below w.heap.size w w' := by
 have HR0 := Aside0.mk hr0
 have HC0 := Aside0.mk hc0
 clear hr0 hc0
 have HB := Aside0.mk (Below.refl w.heap.size w)
 have H : (if (l0.length : Int) > 3000 then (some ([] : List Int)) else (impl_PointsPut.l0 k ([] : List Int) l0 (l0.length : Int) 0)) = some r := h
 clear h
 by_cases c2 : (l0.length : Int) > 3000
 · rw [if_pos c2] at H
   have c2b0 : decide (3000 < (l0.length : Int)) = true := decide_eq_true c2
   have c2b1 : decide (3000 < l0.length) = true := decide_eq_true (by omega)
   clear c2
   obtain rfl := Option.some.inj H
   go_enter Try.func130, Try.ntmps130
   go_wp2
   go_ret
   exact ⟨_, by first | rfl | (simp [*] <;> rfl), by first | exact Kd.R_nil _ _ _ _ _ | exact Kd.N_nil _ _ _ _ _ | exact Kd.V_nil _ _ _ _ _ | exact Kd.Q_nil _ _ _ _ _ | exact Kd.S_nil _ _ _ _ _, by repeat (first | exact HB.out | apply below_alloc | apply pw_below_drewN | apply below_drew1)⟩
 · rw [if_neg c2] at H
   have c2b0 : decide (3000 < (l0.length : Int)) = false := decide_eq_false c2
   have c2b1 : decide (3000 < l0.length) = false := decide_eq_false (by omega)
   clear c2
   have H' := Aside0.mk H
   clear H
   go_enter Try.func130, Try.ntmps130
   go_wp2
   go_loopg [3, 11] k (fun kq v3 v11 w' => ∃ (x3_1 : List Int) (x11_1 : Int), v11 = .int .i64 x11_1 ∧ Aside0 (impl_PointsPut.l0 kq x3_1 l0 (l0.length : Int) x11_1 = some r) ∧ Aside0 (kq ≤ k) ∧ Aside0 (Kd.R (Kd.int .u8) 5 w' w.heap.size (fun _ => True) v3 x3_1) ∧ Aside0 (Below w.heap.size w w'))
   case atStart => exact ⟨(([] : List Int)), (0), (by first | rfl | (simp; done) | (simp [*]; done)), H', ⟨Nat.le_refl _⟩, ⟨by first | exact Kd.R_nil _ _ _ _ _ | exact Kd.N_nil _ _ _ _ _ | exact Kd.V_nil _ _ _ _ _ | exact Kd.Q_nil _ _ _ _ _ | exact Kd.S_nil _ _ _ _ _⟩, ⟨by repeat (first | exact HB.out | apply below_alloc | apply pw_below_drewN | apply below_drew1)⟩⟩
   case round =>
    clear H'
    try clear c1
    try clear c2
    try clear c2b0
    try clear c2b1
    try clear p2
    obtain ⟨x3_1, x11_1, rfl, HA, HK1, HO_3, HB⟩ := hrel
    cases gk with
    | zero => exact absurd HA.out (by simp [impl_PointsPut.l0])
    | succ k1 =>
     have H := HA.out
     clear HA
     simp only [impl_PointsPut.l0] at H
     by_cases c3 : x11_1 < (l0.length : Int)
     · rw [if_pos c3] at H
       have c3b0 : decide (x11_1 < (l0.length : Int)) = true := decide_eq_true c3
       clear c3
       by_cases c4 : 0 ≤ x11_1
       · rw [if_pos c4] at H
         have c4b0 : decide (0 ≤ x11_1) = true := decide_eq_true c4
         clear c4
         by_cases c5 : x11_1 < (l0.length : Int)
         · rw [if_pos c5] at H
           have c5b0 : decide (x11_1 < (l0.length : Int)) = true := decide_eq_true c5
           clear c5
           replace H := Option.bind_eq_some_iff.mp H
           obtain ⟨t102, A60, H⟩ := H
           replace H : (impl_PointsPut.l0 k1 t102 l0 (l0.length : Int) (wrap64 (x11_1 + 1))) = some r := H
           have A6 := Aside0.mk A60
           clear A60
           have H' := Aside0.mk H
           clear H
           have p101 : 0 ≤ (x11_1 : Int) := of_decide_eq_true (by assumption)
           have q101 : x11_1 < (l0.length : Int) := of_decide_eq_true (by assumption)
           obtain ⟨ad101, e101, hx101_0⟩ := Kd.at_int HR0.out x11_1 p101 q101
           cases e101
           replace hx101_0 := pw_cell_below HB.out hx101_0
           replace p101 := eq_true p101
           replace q101 := eq_true q101
           obtain ⟨Ao7, co7, eo7⟩ := Kd.R_slice HO_3.out
           subst eo7
           go_wp2_with (first | ((with_reducible refine gate_callee (f := 139) rfl ?_); refine goesL_ (some 17) rfl rfl Try.func139 (by kernel_rfl) rfl #[.slice Ao7 x3_1.length co7, .int .i64 (rd l0 x11_1)] rfl (by (try simp only [List.map_toArray, List.map_cons, List.map_nil]); first | done | rfl | (simp only [List.length_drop, List.length_take]; rfl)) ?_; (with_reducible refine (impl_putPoint.calls k1 (fun k_ => some k_ = (.slice Ao7 x3_1.length co7 : Value).ownBlock) (.slice Ao7 x3_1.length co7) x3_1 (rd l0 x11_1) t102 w _ ?side1 ?side2 A6.out).mono ?_); (case side1 => repeat (first | (with_reducible first | exact HB.out | apply below_alloc | apply pw_below_drewN | apply below_drew1) | exact HB.out)); (case side2 => exact Kd.R_tight rfl HO_3.out); rintro e w8 ⟨v103, rfl, ho0, hb, hkp⟩; refine ⟨_, rfl, ?_⟩; have n0_ := Aside0.mk (Kd.R_mono (ok' := fun k_ => True) ho0 (fun k_ hk_ => trivial)); have n1_ := Aside0.mk (hb); clear HB; clear HO_3; have HO104 := n0_; have HB := n1_; clear n0_ n1_; (try clear hb); (try clear hkp); (try clear ho0)))
           go_roundg k1
           case measure => have := HK1.out; omega
           case rel => exact ⟨(t102), (wrap64 (x11_1 + 1)), (by first | rfl | (simp; done) | (simp [*]; done)), H', ⟨by have := HK1.out; omega⟩, ⟨by (with_reducible repeat (first | apply Kd.R_alloc | apply Kd.R_drewN | apply Kd.R_drew)); exact HO104.out⟩, ⟨by repeat (first | exact HB.out | apply below_alloc | apply pw_below_drewN | apply below_drew1)⟩⟩
         · rw [if_neg c5] at H
           exact absurd H (by simp)
       · rw [if_neg c4] at H
         exact absurd H (by simp)
     · rw [if_neg c3] at H
       have c3b0 : decide (x11_1 < (l0.length : Int)) = false := decide_eq_false c3
       clear c3
       obtain rfl := Option.some.inj H
       go_wp2
       go_ret
       exact ⟨_, by first | rfl | (simp [*] <;> rfl), by (with_reducible repeat (first | apply Kd.R_alloc | apply Kd.R_drewN | apply Kd.R_drew)); exact HO_3.out, by repeat (first | exact HB.out | apply below_alloc | apply pw_below_drewN | apply below_drew1)⟩
def bytes_HasPrefix.f (l0 : List Int) (l1 : List Int) : Option (Bool) := if (l0.length : Int) ≥ (l1.length : Int) then (bytes_Equal.f (l0.take ((l1.length : Int) : Int).toNat) l1) else (some false)
set_option maxHeartbeats 8000000 in
set_option maxRecDepth 100000 in
theorem bytes_HasPrefix.calls (A0 : Option Addr) (c0 : Nat) (l0 : List Int) (A1 : Option Addr) (c1 : Nat) (l1 : List Int) (r : Bool) (w : World) (hr0 : Kd.C (Kd.int .u8) w A0 l0.length l0) (hc0 : l0.length ≤ c0) (hr1 : Kd.C (Kd.int .u8) w A1 l1.length l1) (hc1 : l1.length ≤ c1) (h : bytes_HasPrefix.f l0 l1 = some r) :
 Calls Try.prog 147 #[.slice A0 l0.length c0, .slice A1 l1.length c1] w fun e w' => e = .returned (.bool r) ∧ Drawn0 w w' := by
 have HR0 := Aside0.mk hr0
 have HC0 := Aside0.mk hc0
 clear hr0 hc0
 have HR1 := Aside0.mk hr1
 have HC1 := Aside0.mk hc1
 clear hr1 hc1
 unfold bytes_HasPrefix.f at h
 have H := h
 clear h
 by_cases c3 : (l0.length : Int) ≥ (l1.length : Int)
 · rw [if_pos c3] at H
   have c3b0 : decide ((l1.length : Int) ≤ (l0.length : Int)) = true := decide_eq_true c3
   have c3b1 : decide (l1.length ≤ l0.length) = true := decide_eq_true (Int.ofNat_le.mp c3)
   have c4b0 := eq_true (show 0 ≤ (l1.length : Int) by omega)
   have c4b1 : decide (0 ≤ (l1.length : Int)) = true := decide_eq_true (by omega)
   have c5b0 := eq_true (show (l1.length : Int) ≤ (l0.length : Int) from c3)
   have hln : (l0.take ((l1.length : Int) : Int).toNat).length = min l1.length l0.length := by rw [List.length_take]; rfl
   have A6 := Aside0.mk H
   clear H c3
   obtain ⟨i07, hi07, _, hsz7, _⟩ := info_parts info5
   obtain ⟨hcut7, hA7, hC7⟩ := print_take_of (P := Try.prog) (Value.int .u8) 0 52 5 .i64 Try.underlying52 hi07 hsz7 A0 c0 l0 (l1.length : Int) (of_decide_eq_true (by assumption)) (of_decide_eq_true (by assumption)) HC0.out
   have HR367 := Aside0.mk (Kd.C_of_reads (h1 := fun _ => rfl) (hA7 _ (Kd.reads_of_C HR0.out)))
   have HC367 := Aside0.mk hC7
   clear hA7 hC7 hi07 hsz7
   have C9 := Aside0.mk (show Calls Try.prog 129 #[.slice A0 (min l1.length l0.length) c0, .slice A1 l1.length c1] w fun e w' => e = .returned (.bool r) ∧ Drawn0 w w' from by
    have := bytes_Equal.calls A0 c0 (l0.take ((l1.length : Int) : Int).toNat) A1 c1 l1 r w HR367.out HC367.out HR1.out HC1.out A6.out
    rw [hln] at this
    exact this)
   clear hln
   go_enter Try.func147, Try.ntmps147
   go_wp2_with (first | (go_at_call 129; refine C9.out.mono ?_; rintro e w' ⟨rfl, ⟨nd, rfl⟩⟩))
   go_ret
   exact ⟨by first | rfl | (simp; done) | (simp [*]; done), by repeat (first | exact Drawn0.refl _ | apply Drawn0.step)⟩
 · rw [if_neg c3] at H
   have c3b0 : decide ((l1.length : Int) ≤ (l0.length : Int)) = false := decide_eq_false c3
   have c3b1 : decide (l1.length ≤ l0.length) = false := decide_eq_false (fun h => c3 (Int.ofNat_le.mpr h))
   clear c3
   obtain rfl := Option.some.inj H
   go_enter Try.func147, Try.ntmps147
   go_wp2
   go_ret
   exact ⟨by first | rfl | (simp; done) | (simp [*]; done), by repeat (first | exact Drawn0.refl _ | apply Drawn0.step)⟩
def bytes_TrimPrefix.f (l0 : List Int) (l1 : List Int) : Option (List Int) := (bytes_HasPrefix.f l0 l1).bind fun t101 => (if t101 = true then (if 0 ≤ (l1.length : Int) then (if (l1.length : Int) ≤ (l0.length : Int) then (some (l0.drop ((l1.length : Int) : Int).toNat)) else (none)) else (none)) else (some l0))
set_option maxHeartbeats 8000000 in
set_option maxRecDepth 100000 in
theorem bytes_TrimPrefix.calls (P0_ : Nat → Prop) (A0 : Option Addr) (c0 : Nat) (l0 : List Int) (A1 : Option Addr) (c1 : Nat) (l1 : List Int) (r : List Int) (w : World) (hs0 : Kd.V (Kd.int .u8) 5 w w.heap.size (fun k_ => P0_ k_) (.slice A0 l0.length c0) l0) (hr1 : Kd.C (Kd.int .u8) w A1 l1.length l1) (hc1 : l1.length ≤ c1) (h : bytes_TrimPrefix.f l0 l1 = some r) :
 Calls Try.prog 140 #[.slice A0 l0.length c0, .slice A1 l1.length c1] w fun e w' => ∃ v0_ : Value, e = .returned (v0_) ∧ Kd.V (Kd.int .u8) 5 w' w.heap.size (fun k_ => (P0_ k_ ∨ w.heap.size ≤ k_)) v0_ r ∧ Below w.heap.size w w' := by
 have HO0 := Aside0.mk (show Kd.V (Kd.int .u8) 5 w w.heap.size (fun k_ => (P0_ k_ ∨ w.heap.size ≤ k_)) (.slice A0 l0.length c0) l0 from Kd.V_mono hs0 (fun k_ hk => .inl hk))
 have HR1 := Aside0.mk hr1
 have HC1 := Aside0.mk hc1
 clear hr1 hc1
 have HB := Aside0.mk (Below.refl w.heap.size w)
 have H : ((bytes_HasPrefix.f l0 l1).bind fun t101 => (if t101 = true then (if 0 ≤ (l1.length : Int) then (if (l1.length : Int) ≤ (l0.length : Int) then (some (l0.drop ((l1.length : Int) : Int).toNat)) else (none)) else (none)) else (some l0))) = some r := h
 clear h
 replace H := Option.bind_eq_some_iff.mp H
 obtain ⟨t101, A30, H⟩ := H
 replace H : (if t101 = true then (if 0 ≤ (l1.length : Int) then (if (l1.length : Int) ≤ (l0.length : Int) then (some (l0.drop ((l1.length : Int) : Int).toNat)) else (none)) else (none)) else (some l0)) = some r := H
 have A3 := Aside0.mk A30
 clear A30
 by_cases c4 : t101 = true
 · subst c4
   rw [if_pos rfl] at H
   by_cases c5 : 0 ≤ (l1.length : Int)
   · rw [if_pos c5] at H
     have c5b0 := eq_true c5
     have c5b1 : decide (0 ≤ (l1.length : Int)) = true := decide_eq_true c5
     clear c5
     by_cases c6 : (l1.length : Int) ≤ (l0.length : Int)
     · rw [if_pos c6] at H
       have c6b0 := eq_true c6
       have c6b1 : decide ((l1.length : Int) ≤ (l0.length : Int)) = true := decide_eq_true c6
       clear c6
       obtain ⟨y102, hy102⟩ : ∃ y_ : List Int, y_ = (l0.drop ((l1.length : Int) : Int).toNat) := ⟨_, rfl⟩
       replace H : (some y102) = some r := by first | (rw [hy102]; with_reducible exact H) | (have H2_ := (Option.bind_some _ _).symm.trans H; rw [hy102]; with_reducible exact H2_) | (have H2_ := (Option.bind_some _ _).symm.trans H; with_reducible exact H2_) | with_reducible exact H | (rw [hy102]; exact H) | exact H
       have Ny102 := Aside0.mk hy102
       clear hy102
       obtain rfl := Option.some.inj H
       go_enter Try.func140, Try.ntmps140
       go_wp2_with (first | ((with_reducible refine gate_callee (f := 147) rfl ?_); refine goesL_ (some 7) rfl rfl Try.func147 (by kernel_rfl) rfl #[.slice A0 l0.length c0, .slice A1 l1.length c1] rfl (by (try simp only [List.map_toArray, List.map_cons, List.map_nil]); first | done | rfl | (simp only [List.length_drop, List.length_take]; rfl)) ?_; (with_reducible refine (bytes_HasPrefix.calls _ _ l0 _ _ l1 true _ ?side1 ?side2 ?side3 ?side4 A3.out).mono ?_); (case side1 => repeat (first | exact (Kd.V_reads' HO0.out).2.2 | (with_reducible refine Kd.C_alloc ?_ _) | (with_reducible refine Kd.C_drewN ?_ _) | (with_reducible refine Kd.C_drew ?_))); (case side2 => exact (Kd.V_reads' HO0.out).2.1); (case side3 => repeat (first | exact HR1.out | (with_reducible refine Kd.C_alloc ?_ _) | (with_reducible refine Kd.C_drewN ?_ _) | (with_reducible refine Kd.C_drew ?_))); (case side4 => exact HC1.out); rintro e w' ⟨rfl, ⟨nd, rfl⟩⟩; refine ⟨_, rfl, ?_⟩; have q7 : ((l1.length : Int) : Int) ≤ ((l0.length : Int) : Int) := of_decide_eq_true (by assumption); obtain ⟨i07, hi07, _, hsz7, _⟩ := info_parts info5; have hroom7 : l0.length ≤ c0 := (Kd.V_reads' HO0.out).2.1; have hC7 : Kd.F (Kd.int .u8) _ _ A0 l0.length l0 := (Kd.V_at (base := w.heap.size) HO0.out).2.2; have q07 : (0 : Int) ≤ ((l1.length : Int) : Int) := of_decide_eq_true (by assumption); have hcut7 := cut_from (P := Try.prog) 52 5 .i64 Try.underlying52 hi07 1 hsz7 A0 l0.length c0 (l1.length : Int) q07 q7; have hr7 := Kd.F_cut (m := ((l1.length : Int) : Int).toNat) (c := c0) hC7 (by omega) hroom7; obtain ⟨A7, hA7⟩ : ∃ A1, A1 = (if c0 = ((l1.length : Int) : Int).toNat then A0 else (A0 : Option Addr).map (·.add (((l1.length : Int) : Int).toNat * 1))) := ⟨_, rfl⟩; obtain ⟨c7, hc7⟩ : ∃ c1, c1 = c0 - ((l1.length : Int) : Int).toNat := ⟨_, rfl⟩; have hy7 : y102.length = l0.length - ((l1.length : Int) : Int).toNat := (by rw [Ny102.out, List.length_drop] <;> omega); rw [show (l0).drop ((l1.length : Int) : Int).toNat = y102 from Ny102.out.symm] at hr7; replace hr7 : Kd.F (Kd.int .u8) _ _ A7 y102.length y102 := (by rw [hA7]; exact hr7); rw [← hy7, ← hA7, ← hc7] at hcut7; have HO106 := Aside0.mk (show Kd.V (Kd.int .u8) 5 _ w.heap.size _ (.slice A7 y102.length c7) y102 from Kd.V_mk (by rw [hy7, hc7]; exact Nat.sub_le_sub_right hroom7 _) hr7); have HC106 := Aside0.mk (show y102.length ≤ c7 from by rw [hy7, hc7]; exact Nat.sub_le_sub_right hroom7 _); clear hr7 hC7 hroom7 hi07 hsz7 hc7; have KY7 := Aside0.mk hy7; have KA7 := Aside0.mk hA7; clear hy7 hA7; replace q7 := eq_true q7))
       go_ret
       exact ⟨_, by first | rfl | (simp [*] <;> rfl), by (with_reducible repeat (first | apply Kd.V_alloc | apply Kd.V_drewN | apply Kd.V_drew)); exact HO106.out, by repeat (first | exact HB.out | apply below_alloc | apply pw_below_drewN | apply below_drew1)⟩
     · rw [if_neg c6] at H
       exact absurd H (by simp)
   · rw [if_neg c5] at H
     exact absurd H (by simp)
 · replace c4 := Bool.eq_false_iff.mpr c4
   subst c4
   rw [if_neg (show ¬ (false = true) by decide)] at H
   obtain rfl := Option.some.inj H
   go_enter Try.func140, Try.ntmps140
   go_wp2_with (first | ((with_reducible refine gate_callee (f := 147) rfl ?_); refine goesL_ (some 7) rfl rfl Try.func147 (by kernel_rfl) rfl #[.slice A0 l0.length c0, .slice A1 l1.length c1] rfl (by (try simp only [List.map_toArray, List.map_cons, List.map_nil]); first | done | rfl | (simp only [List.length_drop, List.length_take]; rfl)) ?_; (with_reducible refine (bytes_HasPrefix.calls _ _ l0 _ _ l1 false _ ?side1 ?side2 ?side3 ?side4 A3.out).mono ?_); (case side1 => repeat (first | exact (Kd.V_reads' HO0.out).2.2 | (with_reducible refine Kd.C_alloc ?_ _) | (with_reducible refine Kd.C_drewN ?_ _) | (with_reducible refine Kd.C_drew ?_))); (case side2 => exact (Kd.V_reads' HO0.out).2.1); (case side3 => repeat (first | exact HR1.out | (with_reducible refine Kd.C_alloc ?_ _) | (with_reducible refine Kd.C_drewN ?_ _) | (with_reducible refine Kd.C_drew ?_))); (case side4 => exact HC1.out); rintro e w' ⟨rfl, ⟨nd, rfl⟩⟩; refine ⟨_, rfl, ?_⟩))
   go_ret
   exact ⟨_, by first | rfl | (simp [*] <;> rfl), by (with_reducible repeat (first | apply Kd.V_alloc | apply Kd.V_drewN | apply Kd.V_drew)); exact HO0.out, by repeat (first | exact HB.out | apply below_alloc | apply pw_below_drewN | apply below_drew1)⟩
mutual
def impl_formOf.j0 : Nat → Int → Bool → Option (Int × Int)
 | 0, _, _ => none
 | k + 1, x0, x9 => if x9 = true then (some (2, wrap64 (Go.bits .and .u8 x0 31))) else (if x0 ≥ 224 then (impl_formOf.j1 k x0 (decide (x0 ≤ 239))) else (impl_formOf.j1 k x0 false))
def impl_formOf.j1 : Nat → Int → Bool → Option (Int × Int)
 | 0, _, _ => none
 | k + 1, x0, x19 => if x19 = true then (some (3, wrap64 (Go.bits .and .u8 x0 15))) else (if x0 ≥ 240 then (if x0 ≤ 244 then (some (4, wrap64 (Go.bits .and .u8 x0 7))) else (some (0, 0))) else (some (0, 0)))
end
def impl_formOf.f (k : Nat) (a0 : Int) : Option (Int × Int) := if a0 < 128 then (some (1, wrap64 (a0))) else (if a0 ≥ 194 then (impl_formOf.j0 k a0 (decide (a0 ≤ 223))) else (impl_formOf.j0 k a0 false))
theorem impl_formOf.mono_l : ∀ k, (∀ y0 y1, LeO (impl_formOf.j0 k y0 y1) (impl_formOf.j0 (k + 1) y0 y1)) ∧ (∀ y0 y1, LeO (impl_formOf.j1 k y0 y1) (impl_formOf.j1 (k + 1) y0 y1))
 | 0 => ⟨fun _ _ r h => by simp [impl_formOf.j0] at h, fun _ _ r h => by simp [impl_formOf.j1] at h⟩
 | k + 1 => by
  obtain ⟨ih0, ih1⟩ := impl_formOf.mono_l k
  refine ⟨?_, ?_⟩
  · intro y0 y1
    unfold impl_formOf.j0
    repeat' first
    | (with_reducible exact ih0 _ _)
    | (with_reducible exact ih1 _ _)
    | (with_reducible exact LeO.refl _)
    | (with_reducible exact LeO.none _)
    | (with_reducible refine LeO.ite ?_ ?_)
    | (with_reducible refine LeO.bind ?_ (fun _ => ?_))
    | exact ih0 _ _
    | exact ih1 _ _
    | exact LeO.none _
    | refine LeO.ite ?_ ?_
    | refine LeO.bind ?_ (fun _ => ?_)
  · intro y0 y1
    unfold impl_formOf.j1
    repeat' first
    | (with_reducible exact ih0 _ _)
    | (with_reducible exact ih1 _ _)
    | (with_reducible exact LeO.refl _)
    | (with_reducible exact LeO.none _)
    | (with_reducible refine LeO.ite ?_ ?_)
    | (with_reducible refine LeO.bind ?_ (fun _ => ?_))
    | exact ih0 _ _
    | exact ih1 _ _
    | exact LeO.none _
    | refine LeO.ite ?_ ?_
    | refine LeO.bind ?_ (fun _ => ?_)
theorem impl_formOf.mono : ∀ a0 k, LeO (impl_formOf.f k a0) (impl_formOf.f (k + 1) a0) := by
 intro a0 k
 obtain ⟨ih0, ih1⟩ := impl_formOf.mono_l k
 unfold impl_formOf.f
 repeat' first
  | (with_reducible exact ih0 _ _)
  | (with_reducible exact ih1 _ _)
  | (with_reducible exact LeO.refl _)
  | (with_reducible exact LeO.none _)
  | (with_reducible refine LeO.ite ?_ ?_)
  | (with_reducible refine LeO.bind ?_ (fun _ => ?_))
  | exact ih0 _ _
  | exact ih1 _ _
  | exact LeO.none _
  | refine LeO.ite ?_ ?_
  | refine LeO.bind ?_ (fun _ => ?_)
set_option maxHeartbeats 8000000 in
set_option maxRecDepth 100000 in
theorem impl_formOf.calls (k : Nat) (a0 : Int) (r1 : Int) (r2 : Int) (w : World) (h : impl_formOf.f k a0 = some (r1, r2)) :
 Calls Try.prog 148 #[.int .u8 a0] w fun e w' => e = .returned (.tuple #[.int .i64 r1, .int .i64 r2]) ∧ Drawn0 w w' := by
 have H : (if a0 < 128 then (some (1, wrap64 (a0))) else (if a0 ≥ 194 then (impl_formOf.j0 k a0 (decide (a0 ≤ 223))) else (impl_formOf.j0 k a0 false))) = some (r1, r2) := h
 clear h
 by_cases c2 : a0 < 128
 · rw [if_pos c2] at H
   have c2b0 : decide (a0 < 128) = true := decide_eq_true c2
   clear c2
   simp only [Option.some.injEq, Prod.mk.injEq] at H
   obtain ⟨rfl, rfl⟩ := H
   go_enter Try.func148, Try.ntmps148
   go_wp2
   go_ret2
   exact ⟨by first | rfl | (simp; done) | (simp [*]; done), by repeat (first | exact Drawn0.refl _ | apply Drawn0.step)⟩
 · rw [if_neg c2] at H
   have c2b0 : decide (a0 < 128) = false := decide_eq_false c2
   clear c2
   have HC3 := Aside0.mk H
   clear H
   go_enter Try.func148, Try.ntmps148
   go_upto_region 3 with (fail)
   go_cut [9] (fun v9 wc => ∃ (kq : Nat) (x9_2 : Bool), v9 = .bool x9_2 ∧ Aside0 (impl_formOf.j0 kq a0 x9_2 = some (r1, r2)) ∧ Aside0 (kq ≤ k) ∧ Drawn0 w wc)
   case first =>
    have H := HC3.out
    clear HC3
    by_cases c4 : a0 ≥ 194
    · rw [if_pos c4] at H
      have c4b0 : decide (194 ≤ a0) = true := decide_eq_true c4
      clear c4
      (first | rw [c4b0] | (simp only [i64_w, i32_w]; rw [c4b0]) | skip)
      have H' := Aside0.mk H
      clear H
      go_wp2
      go_meet
      case rel => exact ⟨_, (decide (a0 ≤ 223)), (by first | rfl | (simp; done) | (simp [*]; done)), H', ⟨by first | omega | exact Nat.le_refl _⟩, by repeat (first | exact Drawn0.refl _ | apply Drawn0.step)⟩
    · rw [if_neg c4] at H
      have c4b0 : decide (194 ≤ a0) = false := decide_eq_false c4
      clear c4
      (first | rw [c4b0] | (simp only [i64_w, i32_w]; rw [c4b0]) | skip)
      have H' := Aside0.mk H
      clear H
      go_wp2
      go_meet
      case rel => exact ⟨_, (false), (by first | rfl | (simp; done) | (simp [*]; done)), H', ⟨by first | omega | exact Nat.le_refl _⟩, by repeat (first | exact Drawn0.refl _ | apply Drawn0.step)⟩
   case rest =>
    clear HC3
    try clear c1
    try clear c2
    try clear c2b0
    try clear p2
    try clear c4
    try clear c4b0
    obtain ⟨kq, x9_2, rfl, HA, HJ2, ⟨mc2, rfl⟩⟩ := hcut
    cases kq with
    | zero => exact absurd HA.out (by simp [impl_formOf.j0])
    | succ kj2 =>
     have H := HA.out
     clear HA
     simp only [impl_formOf.j0] at H
     by_cases c5 : x9_2 = true
     · subst c5
       rw [if_pos rfl] at H
       simp only [Option.some.injEq, Prod.mk.injEq] at H
       obtain ⟨rfl, rfl⟩ := H
       go_wp2
       go_ret2
       exact ⟨by first | rfl | (simp; done) | (simp [*]; done), by repeat (first | exact Drawn0.refl _ | apply Drawn0.step)⟩
     · replace c5 := Bool.eq_false_iff.mpr c5
       subst c5
       rw [if_neg (show ¬ (false = true) by decide)] at H
       have HC6 := Aside0.mk H
       clear H
       go_upto_region 5 with (fail)
       go_cut [19] (fun v19 wc => ∃ (kq : Nat) (x19_5 : Bool), v19 = .bool x19_5 ∧ Aside0 (impl_formOf.j1 kq a0 x19_5 = some (r1, r2)) ∧ Aside0 (kq ≤ kj2) ∧ Drawn0 w wc)
       case first =>
        have H := HC6.out
        clear HC6
        by_cases c7 : a0 ≥ 224
        · rw [if_pos c7] at H
          have c7b0 : decide (224 ≤ a0) = true := decide_eq_true c7
          clear c7
          (first | rw [c7b0] | (simp only [i64_w, i32_w]; rw [c7b0]) | skip)
          have H' := Aside0.mk H
          clear H
          go_wp2
          go_meet
          case rel => exact ⟨_, (decide (a0 ≤ 239)), (by first | rfl | (simp; done) | (simp [*]; done)), H', ⟨by have := HJ2.out; first | omega | exact Nat.le_refl _⟩, by repeat (first | exact Drawn0.refl _ | apply Drawn0.step)⟩
        · rw [if_neg c7] at H
          have c7b0 : decide (224 ≤ a0) = false := decide_eq_false c7
          clear c7
          (first | rw [c7b0] | (simp only [i64_w, i32_w]; rw [c7b0]) | skip)
          have H' := Aside0.mk H
          clear H
          go_wp2
          go_meet
          case rel => exact ⟨_, (false), (by first | rfl | (simp; done) | (simp [*]; done)), H', ⟨by have := HJ2.out; first | omega | exact Nat.le_refl _⟩, by repeat (first | exact Drawn0.refl _ | apply Drawn0.step)⟩
       case rest =>
        clear HC6
        try clear c1
        try clear c2
        try clear c2b0
        try clear p2
        try clear c4
        try clear c4b0
        try clear c5
        try clear p6
        try clear c7
        try clear c7b0
        try clear p2
        obtain ⟨kq, x19_5, rfl, HA, HJ5, ⟨mc5, rfl⟩⟩ := hcut
        cases kq with
        | zero => exact absurd HA.out (by simp [impl_formOf.j1])
        | succ kj5 =>
         have H := HA.out
         clear HA
         simp only [impl_formOf.j1] at H
         by_cases c8 : x19_5 = true
         · subst c8
           rw [if_pos rfl] at H
           simp only [Option.some.injEq, Prod.mk.injEq] at H
           obtain ⟨rfl, rfl⟩ := H
           go_wp2
           go_ret2
           exact ⟨by first | rfl | (simp; done) | (simp [*]; done), by repeat (first | exact Drawn0.refl _ | apply Drawn0.step)⟩
         · replace c8 := Bool.eq_false_iff.mpr c8
           subst c8
           rw [if_neg (show ¬ (false = true) by decide)] at H
           by_cases c9 : a0 ≥ 240
           · rw [if_pos c9] at H
             have c9b0 : decide (240 ≤ a0) = true := decide_eq_true c9
             clear c9
             by_cases c10 : a0 ≤ 244
             · rw [if_pos c10] at H
               have c10b0 : decide (a0 ≤ 244) = true := decide_eq_true c10
               clear c10
               simp only [Option.some.injEq, Prod.mk.injEq] at H
               obtain ⟨rfl, rfl⟩ := H
               go_wp2
               go_ret2
               exact ⟨by first | rfl | (simp; done) | (simp [*]; done), by repeat (first | exact Drawn0.refl _ | apply Drawn0.step)⟩
             · rw [if_neg c10] at H
               have c10b0 : decide (a0 ≤ 244) = false := decide_eq_false c10
               clear c10
               simp only [Option.some.injEq, Prod.mk.injEq] at H
               obtain ⟨rfl, rfl⟩ := H
               go_wp2
               go_ret2
               exact ⟨by first | rfl | (simp; done) | (simp [*]; done), by repeat (first | exact Drawn0.refl _ | apply Drawn0.step)⟩
           · rw [if_neg c9] at H
             have c9b0 : decide (240 ≤ a0) = false := decide_eq_false c9
             clear c9
             simp only [Option.some.injEq, Prod.mk.injEq] at H
             obtain ⟨rfl, rfl⟩ := H
             go_wp2
             go_ret2
             exact ⟨by first | rfl | (simp; done) | (simp [*]; done), by repeat (first | exact Drawn0.refl _ | apply Drawn0.step)⟩
def impl_boundsOf.f (a0 : Int) : Option (Int × Int) := if a0 = 224 then (some (160, 191)) else (if a0 = 237 then (some (128, 159)) else (if a0 = 240 then (some (144, 191)) else (if a0 = 244 then (some (128, 143)) else (some (128, 191)))))
set_option maxHeartbeats 8000000 in
set_option maxRecDepth 100000 in
theorem impl_boundsOf.calls (a0 : Int) (r1 : Int) (r2 : Int) (w : World) (h : impl_boundsOf.f a0 = some (r1, r2)) :
 Calls Try.prog 149 #[.int .u8 a0] w fun e w' => e = .returned (.tuple #[.int .u8 r1, .int .u8 r2]) ∧ Drawn0 w w' := by
 have H : (if a0 = 224 then (some (160, 191)) else (if a0 = 237 then (some (128, 159)) else (if a0 = 240 then (some (144, 191)) else (if a0 = 244 then (some (128, 143)) else (some (128, 191)))))) = some (r1, r2) := h
 clear h
 by_cases c2 : a0 = 224
 · rw [if_pos c2] at H
   have c2b0 : (a0 == 224) = true := beq_iff_eq.mpr c2
   have c2b1 : (a0 != 224) = false := bne_eq_false_iff_eq.mpr c2
   clear c2
   simp only [Option.some.injEq, Prod.mk.injEq] at H
   obtain ⟨rfl, rfl⟩ := H
   go_enter Try.func149, Try.ntmps149
   go_wp2
   go_ret2
   exact ⟨by first | rfl | (simp; done) | (simp [*]; done), by repeat (first | exact Drawn0.refl _ | apply Drawn0.step)⟩
 · rw [if_neg c2] at H
   have c2b0 : (a0 == 224) = false := beq_eq_false_iff_ne.mpr c2
   have c2b1 : (a0 != 224) = true := bne_iff_ne.mpr c2
   by_cases c3 : a0 = 237
   · rw [if_pos c3] at H
     have c3b0 : (a0 == 237) = true := beq_iff_eq.mpr c3
     have c3b1 : (a0 != 237) = false := bne_eq_false_iff_eq.mpr c3
     clear c3
     simp only [Option.some.injEq, Prod.mk.injEq] at H
     obtain ⟨rfl, rfl⟩ := H
     go_enter Try.func149, Try.ntmps149
     go_wp2
     go_ret2
     exact ⟨by first | rfl | (simp; done) | (simp [*]; done), by repeat (first | exact Drawn0.refl _ | apply Drawn0.step)⟩
   · rw [if_neg c3] at H
     have c3b0 : (a0 == 237) = false := beq_eq_false_iff_ne.mpr c3
     have c3b1 : (a0 != 237) = true := bne_iff_ne.mpr c3
     by_cases c4 : a0 = 240
     · rw [if_pos c4] at H
       have c4b0 : (a0 == 240) = true := beq_iff_eq.mpr c4
       have c4b1 : (a0 != 240) = false := bne_eq_false_iff_eq.mpr c4
       clear c4
       simp only [Option.some.injEq, Prod.mk.injEq] at H
       obtain ⟨rfl, rfl⟩ := H
       go_enter Try.func149, Try.ntmps149
       go_wp2
       go_ret2
       exact ⟨by first | rfl | (simp; done) | (simp [*]; done), by repeat (first | exact Drawn0.refl _ | apply Drawn0.step)⟩
     · rw [if_neg c4] at H
       have c4b0 : (a0 == 240) = false := beq_eq_false_iff_ne.mpr c4
       have c4b1 : (a0 != 240) = true := bne_iff_ne.mpr c4
       by_cases c5 : a0 = 244
       · rw [if_pos c5] at H
         have c5b0 : (a0 == 244) = true := beq_iff_eq.mpr c5
         have c5b1 : (a0 != 244) = false := bne_eq_false_iff_eq.mpr c5
         clear c5
         simp only [Option.some.injEq, Prod.mk.injEq] at H
         obtain ⟨rfl, rfl⟩ := H
         go_enter Try.func149, Try.ntmps149
         go_wp2
         go_ret2
         exact ⟨by first | rfl | (simp; done) | (simp [*]; done), by repeat (first | exact Drawn0.refl _ | apply Drawn0.step)⟩
       · rw [if_neg c5] at H
         have c5b0 : (a0 == 244) = false := beq_eq_false_iff_ne.mpr c5
         have c5b1 : (a0 != 244) = true := bne_iff_ne.mpr c5
         simp only [Option.some.injEq, Prod.mk.injEq] at H
         obtain ⟨rfl, rfl⟩ := H
         go_enter Try.func149, Try.ntmps149
         go_wp2
         go_ret2
         exact ⟨by first | rfl | (simp; done) | (simp [*]; done), by repeat (first | exact Drawn0.refl _ | apply Drawn0.step)⟩
def impl_readPoint.l0 : Nat → List Int → Int → Int → Int → Int → Int → Option (Int × Int)
 | 0, _, _, _, _, _, _ => none
 | k + 1, x0, x4, x5, x6, x7, x8 => if x8 < x4 then (if x8 ≥ (x0.length : Int) then (some (65533, x8)) else (if 0 ≤ x8 then (if x8 < (x0.length : Int) then (if (rd x0 x8) < x6 then (some (65533, x8)) else (if (rd x0 x8) > x7 then (some (65533, x8)) else (impl_readPoint.l0 k x0 x4 (Go.bits .or .i64 (wrap64 (x5 * 64)) (wrap64 (Go.bits .and .u8 (rd x0 x8) 63))) 128 191 (wrap64 (x8 + 1))))) else (none)) else (none))) else (some (x5, x4))
def impl_readPoint.f (k : Nat) (l0 : List Int) : Option (Int × Int) := if 0 < (l0.length : Int) then ((impl_formOf.f k (rd l0 0)).bind fun bt102 => (if bt102.1 = 0 then (some (65533, 1)) else ((impl_boundsOf.f (rd l0 0)).bind fun bt105 => (impl_readPoint.l0 k l0 bt102.1 bt102.2 bt105.1 bt105.2 1)))) else (none)
theorem impl_readPoint.mono_l : ∀ k, (∀ y0 y1 y2 y3 y4 y5, LeO (impl_readPoint.l0 k y0 y1 y2 y3 y4 y5) (impl_readPoint.l0 (k + 1) y0 y1 y2 y3 y4 y5))
 | 0 => fun _ _ _ _ _ _ r h => by simp [impl_readPoint.l0] at h
 | k + 1 => by
  have ih0 := impl_readPoint.mono_l k
  · intro y0 y1 y2 y3 y4 y5
    unfold impl_readPoint.l0
    repeat' first
    | (with_reducible exact ih0 _ _ _ _ _ _)
    | (with_reducible exact impl_formOf.mono _ _)
    | (with_reducible exact LeO.refl _)
    | (with_reducible exact LeO.none _)
    | (with_reducible refine LeO.ite ?_ ?_)
    | (with_reducible refine LeO.bind ?_ (fun _ => ?_))
    | exact ih0 _ _ _ _ _ _
    | exact impl_formOf.mono _ _
    | exact LeO.none _
    | refine LeO.ite ?_ ?_
    | refine LeO.bind ?_ (fun _ => ?_)
theorem impl_readPoint.mono : ∀ a0 k, LeO (impl_readPoint.f k a0) (impl_readPoint.f (k + 1) a0) := by
 intro a0 k
 have ih0 := impl_readPoint.mono_l k
 unfold impl_readPoint.f
 repeat' first
  | (with_reducible exact ih0 _ _ _ _ _ _)
  | (with_reducible exact impl_formOf.mono _ _)
  | (with_reducible exact LeO.refl _)
  | (with_reducible exact LeO.none _)
  | (with_reducible refine LeO.ite ?_ ?_)
  | (with_reducible refine LeO.bind ?_ (fun _ => ?_))
  | exact ih0 _ _ _ _ _ _
  | exact impl_formOf.mono _ _
  | exact LeO.none _
  | refine LeO.ite ?_ ?_
  | refine LeO.bind ?_ (fun _ => ?_)
set_option maxHeartbeats 8000000 in
set_option maxRecDepth 100000 in
theorem impl_readPoint.calls (k : Nat) (A0 : Option Addr) (c0 : Nat) (l0 : List Int) (r1 : Int) (r2 : Int) (w : World) (hr0 : Kd.C (Kd.int .u8) w A0 l0.length l0) (hc0 : l0.length ≤ c0) (h : impl_readPoint.f k l0 = some (r1, r2)) :
 Calls Try.prog 141 #[.slice A0 l0.length c0] w fun e w' => e = .returned (.tuple #[.int .i64 r1, .int .i64 r2]) ∧ Drawn0 w w' := by
 have HR0 := Aside0.mk hr0
 have HC0 := Aside0.mk hc0
 clear hr0 hc0
 have H : (if 0 < (l0.length : Int) then ((impl_formOf.f k (rd l0 0)).bind fun bt102 => (if bt102.1 = 0 then (some (65533, 1)) else ((impl_boundsOf.f (rd l0 0)).bind fun bt105 => (impl_readPoint.l0 k l0 bt102.1 bt102.2 bt105.1 bt105.2 1)))) else (none)) = some (r1, r2) := h
 clear h
 by_cases c2 : 0 < (l0.length : Int)
 · rw [if_pos c2] at H
   have c2b0 : decide (0 < (l0.length : Int)) = true := decide_eq_true c2
   have c2b1 : decide (0 < l0.length) = true := decide_eq_true (by omega)
   clear c2
   replace H := Option.bind_eq_some_iff.mp H
   obtain ⟨⟨t102, t103⟩, A30, H⟩ := H
   replace H : (if t102 = 0 then (some (65533, 1)) else ((impl_boundsOf.f (rd l0 0)).bind fun bt105 => (impl_readPoint.l0 k l0 t102 t103 bt105.1 bt105.2 1))) = some (r1, r2) := H
   have A3 := Aside0.mk A30
   clear A30
   by_cases c4 : t102 = 0
   · rw [if_pos c4] at H
     have c4b0 : (t102 == 0) = true := beq_iff_eq.mpr c4
     have c4b1 : (t102 != 0) = false := bne_eq_false_iff_eq.mpr c4
     clear c4
     simp only [Option.some.injEq, Prod.mk.injEq] at H
     obtain ⟨rfl, rfl⟩ := H
     have p101 : 0 ≤ (0 : Int) := (by omega)
     have q101 : 0 < (l0.length : Int) := of_decide_eq_true (by assumption)
     obtain ⟨ad101, e101, hx101_0⟩ := Kd.at_int HR0.out 0 p101 q101
     cases e101
     have qi101 : (0 < l0.length) = True := eq_true (by omega)
     (try rw [show ((0 : Int)).toNat = 0 from rfl] at hx101_0)
     (try rw [Addr.add_zero'] at hx101_0)
     replace p101 := eq_true p101
     replace q101 := eq_true q101
     go_enter Try.func141, Try.ntmps141
     go_wp2_with (first | ((with_reducible refine gate_callee (f := 148) rfl ?_); refine goesL_ (some 13) rfl rfl Try.func148 (by kernel_rfl) rfl #[.int .u8 (rd l0 0)] rfl (by (try simp only [List.map_toArray, List.map_cons, List.map_nil]); first | done | rfl | (simp only [List.length_drop, List.length_take]; rfl)) ?_; (with_reducible refine (impl_formOf.calls k (rd l0 0) t102 t103 _ A3.out).mono ?_); rintro e w' ⟨rfl, ⟨nd, rfl⟩⟩; refine ⟨_, rfl, ?_⟩))
     go_ret2
     exact ⟨by first | rfl | (simp; done) | (simp [*]; done), by repeat (first | exact Drawn0.refl _ | apply Drawn0.step)⟩
   · rw [if_neg c4] at H
     have c4b0 : (t102 == 0) = false := beq_eq_false_iff_ne.mpr c4
     have c4b1 : (t102 != 0) = true := bne_iff_ne.mpr c4
     replace H := Option.bind_eq_some_iff.mp H
     obtain ⟨⟨t105, t106⟩, A50, H⟩ := H
     replace H : (impl_readPoint.l0 k l0 t102 t103 t105 t106 1) = some (r1, r2) := H
     have A5 := Aside0.mk A50
     clear A50
     have H' := Aside0.mk H
     clear H
     have p101 : 0 ≤ (0 : Int) := (by omega)
     have q101 : 0 < (l0.length : Int) := of_decide_eq_true (by assumption)
     obtain ⟨ad101, e101, hx101_0⟩ := Kd.at_int HR0.out 0 p101 q101
     cases e101
     have qi101 : (0 < l0.length) = True := eq_true (by omega)
     (try rw [show ((0 : Int)).toNat = 0 from rfl] at hx101_0)
     (try rw [Addr.add_zero'] at hx101_0)
     replace p101 := eq_true p101
     replace q101 := eq_true q101
     go_enter Try.func141, Try.ntmps141
     go_wp2_with (first | ((with_reducible refine gate_callee (f := 148) rfl ?_); refine goesL_ (some 13) rfl rfl Try.func148 (by kernel_rfl) rfl #[.int .u8 (rd l0 0)] rfl (by (try simp only [List.map_toArray, List.map_cons, List.map_nil]); first | done | rfl | (simp only [List.length_drop, List.length_take]; rfl)) ?_; (with_reducible refine (impl_formOf.calls k (rd l0 0) t102 t103 _ A3.out).mono ?_); rintro e w' ⟨rfl, ⟨nd, rfl⟩⟩; refine ⟨_, rfl, ?_⟩; have p104 : 0 ≤ (0 : Int) := (by omega); have q104 : 0 < (l0.length : Int) := of_decide_eq_true (by assumption); obtain ⟨ad104, e104, hx104_0⟩ := Kd.at_int HR0.out 0 p104 q104; obtain rfl : ad101 = ad104 := (by injection e104); have qi104 : (0 < l0.length) = True := eq_true (by omega); (try rw [show ((0 : Int)).toNat = 0 from rfl] at hx104_0); (try rw [Addr.add_zero'] at hx104_0); replace p104 := eq_true p104; replace q104 := eq_true q104) | ((with_reducible refine gate_callee (f := 149) rfl ?_); refine goesL_ (some 22) rfl rfl Try.func149 (by kernel_rfl) rfl #[.int .u8 (rd l0 0)] rfl (by (try simp only [List.map_toArray, List.map_cons, List.map_nil]); first | done | rfl | (simp only [List.length_drop, List.length_take]; rfl)) ?_; (with_reducible refine (impl_boundsOf.calls (rd l0 0) t105 t106 _ A5.out).mono ?_); rintro e w' ⟨rfl, ⟨nd, rfl⟩⟩; refine ⟨_, rfl, ?_⟩))
     go_loopg [5, 6, 7, 8] k (fun kq v5 v6 v7 v8 w' => ∃ (x5_1 : Int) (x6_1 : Int) (x7_1 : Int) (x8_1 : Int), v5 = .int .i64 x5_1 ∧ v6 = .int .u8 x6_1 ∧ v7 = .int .u8 x7_1 ∧ v8 = .int .i64 x8_1 ∧ Aside0 (impl_readPoint.l0 kq l0 t102 x5_1 x6_1 x7_1 x8_1 = some (r1, r2)) ∧ Aside0 (kq ≤ k) ∧ Drawn0 w w')
     case atStart => exact ⟨(t103), (t105), (t106), (1), (by first | rfl | (simp; done) | (simp [*]; done)), (by first | rfl | (simp; done) | (simp [*]; done)), (by first | rfl | (simp; done) | (simp [*]; done)), (by first | rfl | (simp; done) | (simp [*]; done)), H', ⟨Nat.le_refl _⟩, by repeat (first | exact Drawn0.refl _ | apply Drawn0.step)⟩
     case round =>
      clear H'
      try clear c1
      try clear p1
      try clear q1
      try clear hx1
      try clear qi1
      try clear c2
      try clear c2b0
      try clear c2b1
      try clear p2
      try clear c4
      try clear c4b0
      try clear c4b1
      try clear hx101_0
      try clear hx104_0
      try clear p101
      try clear p104
      try clear q101
      try clear q104
      obtain ⟨x5_1, x6_1, x7_1, x8_1, rfl, rfl, rfl, rfl, HA, HK1, ⟨m1, rfl⟩⟩ := hrel
      cases gk with
      | zero => exact absurd HA.out (by simp [impl_readPoint.l0])
      | succ k1 =>
       have H := HA.out
       clear HA
       simp only [impl_readPoint.l0] at H
       by_cases c6 : x8_1 < t102
       · rw [if_pos c6] at H
         have c6b0 : decide (x8_1 < t102) = true := decide_eq_true c6
         clear c6
         by_cases c7 : x8_1 ≥ (l0.length : Int)
         · rw [if_pos c7] at H
           have c7b0 : decide ((l0.length : Int) ≤ x8_1) = true := decide_eq_true c7
           clear c7
           simp only [Option.some.injEq, Prod.mk.injEq] at H
           obtain ⟨rfl, rfl⟩ := H
           go_wp2
           go_ret2
           exact ⟨by first | rfl | (simp; done) | (simp [*]; done), by repeat (first | exact Drawn0.refl _ | apply Drawn0.step)⟩
         · rw [if_neg c7] at H
           have c7b0 : decide ((l0.length : Int) ≤ x8_1) = false := decide_eq_false c7
           clear c7
           by_cases c8 : 0 ≤ x8_1
           · rw [if_pos c8] at H
             have c8b0 : decide (0 ≤ x8_1) = true := decide_eq_true c8
             clear c8
             by_cases c9 : x8_1 < (l0.length : Int)
             · rw [if_pos c9] at H
               have c9b0 : decide (x8_1 < (l0.length : Int)) = true := decide_eq_true c9
               clear c9
               by_cases c10 : (rd l0 x8_1) < x6_1
               · rw [if_pos c10] at H
                 have c10b0 : decide ((rd l0 x8_1) < x6_1) = true := decide_eq_true c10
                 clear c10
                 simp only [Option.some.injEq, Prod.mk.injEq] at H
                 obtain ⟨rfl, rfl⟩ := H
                 have p107 : 0 ≤ (x8_1 : Int) := of_decide_eq_true (by assumption)
                 have q107 : x8_1 < (l0.length : Int) := of_decide_eq_true (by assumption)
                 obtain ⟨ad107, e107, hx107_0⟩ := Kd.at_int HR0.out x8_1 p107 q107
                 obtain rfl : ad101 = ad107 := (by injection e107)
                 replace p107 := eq_true p107
                 replace q107 := eq_true q107
                 go_wp2
                 go_ret2
                 exact ⟨by first | rfl | (simp; done) | (simp [*]; done), by repeat (first | exact Drawn0.refl _ | apply Drawn0.step)⟩
               · rw [if_neg c10] at H
                 have c10b0 : decide ((rd l0 x8_1) < x6_1) = false := decide_eq_false c10
                 clear c10
                 by_cases c11 : (rd l0 x8_1) > x7_1
                 · rw [if_pos c11] at H
                   have c11b0 : decide (x7_1 < (rd l0 x8_1)) = true := decide_eq_true c11
                   clear c11
                   simp only [Option.some.injEq, Prod.mk.injEq] at H
                   obtain ⟨rfl, rfl⟩ := H
                   have p107 : 0 ≤ (x8_1 : Int) := of_decide_eq_true (by assumption)
                   have q107 : x8_1 < (l0.length : Int) := of_decide_eq_true (by assumption)
                   obtain ⟨ad107, e107, hx107_0⟩ := Kd.at_int HR0.out x8_1 p107 q107
                   obtain rfl : ad101 = ad107 := (by injection e107)
                   replace p107 := eq_true p107
                   replace q107 := eq_true q107
                   have p108 : 0 ≤ (x8_1 : Int) := of_decide_eq_true (by assumption)
                   have q108 : x8_1 < (l0.length : Int) := of_decide_eq_true (by assumption)
                   obtain ⟨ad108, e108, hx108_0⟩ := Kd.at_int HR0.out x8_1 p108 q108
                   obtain rfl : ad101 = ad108 := (by injection e108)
                   replace p108 := eq_true p108
                   replace q108 := eq_true q108
                   go_wp2
                   go_ret2
                   exact ⟨by first | rfl | (simp; done) | (simp [*]; done), by repeat (first | exact Drawn0.refl _ | apply Drawn0.step)⟩
                 · rw [if_neg c11] at H
                   have c11b0 : decide (x7_1 < (rd l0 x8_1)) = false := decide_eq_false c11
                   clear c11
                   have H' := Aside0.mk H
                   clear H
                   have p107 : 0 ≤ (x8_1 : Int) := of_decide_eq_true (by assumption)
                   have q107 : x8_1 < (l0.length : Int) := of_decide_eq_true (by assumption)
                   obtain ⟨ad107, e107, hx107_0⟩ := Kd.at_int HR0.out x8_1 p107 q107
                   obtain rfl : ad101 = ad107 := (by injection e107)
                   replace p107 := eq_true p107
                   replace q107 := eq_true q107
                   have p108 : 0 ≤ (x8_1 : Int) := of_decide_eq_true (by assumption)
                   have q108 : x8_1 < (l0.length : Int) := of_decide_eq_true (by assumption)
                   obtain ⟨ad108, e108, hx108_0⟩ := Kd.at_int HR0.out x8_1 p108 q108
                   obtain rfl : ad101 = ad108 := (by injection e108)
                   replace p108 := eq_true p108
                   replace q108 := eq_true q108
                   have p109 : 0 ≤ (x8_1 : Int) := of_decide_eq_true (by assumption)
                   have q109 : x8_1 < (l0.length : Int) := of_decide_eq_true (by assumption)
                   obtain ⟨ad109, e109, hx109_0⟩ := Kd.at_int HR0.out x8_1 p109 q109
                   obtain rfl : ad101 = ad109 := (by injection e109)
                   replace p109 := eq_true p109
                   replace q109 := eq_true q109
                   go_wp2
                   go_roundg k1
                   case measure => have := HK1.out; omega
                   case rel => exact ⟨(Go.bits .or .i64 (wrap64 (x5_1 * 64)) (wrap64 (Go.bits .and .u8 (rd l0 x8_1) 63))), (128), (191), (wrap64 (x8_1 + 1)), (by first | rfl | (simp; done) | (simp [*]; done)), (by first | rfl | (simp; done) | (simp [*]; done)), (by first | rfl | (simp; done) | (simp [*]; done)), (by first | rfl | (simp; done) | (simp [*]; done)), H', ⟨by have := HK1.out; omega⟩, by repeat (first | exact Drawn0.refl _ | apply Drawn0.step)⟩
             · rw [if_neg c9] at H
               exact absurd H (by simp)
           · rw [if_neg c8] at H
             exact absurd H (by simp)
       · rw [if_neg c6] at H
         have c6b0 : decide (x8_1 < t102) = false := decide_eq_false c6
         clear c6
         simp only [Option.some.injEq, Prod.mk.injEq] at H
         obtain ⟨rfl, rfl⟩ := H
         go_wp2
         go_ret2
         exact ⟨by first | rfl | (simp; done) | (simp [*]; done), by repeat (first | exact Drawn0.refl _ | apply Drawn0.step)⟩
 · rw [if_neg c2] at H
   exact absurd H (by simp)
def impl_UtfRead.l0 : Nat → List Int → List Int → Option (List Int)
 | 0, _, _ => none
 | k + 1, x0, x3 => if (x0.length : Int) > 0 then ((impl_readPoint.f k x0).bind fun bt107 => (if x3.length < 17592186044416 then (if 0 ≤ bt107.2 then (if bt107.2 ≤ (x0.length : Int) then (impl_UtfRead.l0 k (x0.drop (bt107.2 : Int).toNat) (x3 ++ [bt107.1])) else (none)) else (none)) else (none))) else (some x3)
def impl_UtfRead.f (k : Nat) (l0 : List Int) : Option (List Int) := if (l0.length : Int) > 3000 then (some ([] : List Int)) else ((bytes_TrimPrefix.f l0 (([239, 187, 191] : List Int))).bind fun t104 => (impl_UtfRead.l0 k t104 ([] : List Int)))
theorem impl_UtfRead.mono_l : ∀ k, (∀ y0 y1, LeO (impl_UtfRead.l0 k y0 y1) (impl_UtfRead.l0 (k + 1) y0 y1))
 | 0 => fun _ _ r h => by simp [impl_UtfRead.l0] at h
 | k + 1 => by
  have ih0 := impl_UtfRead.mono_l k
  · intro y0 y1
    unfold impl_UtfRead.l0
    repeat' first
    | (with_reducible exact ih0 _ _)
    | (with_reducible exact impl_readPoint.mono _ _)
    | (with_reducible exact LeO.refl _)
    | (with_reducible exact LeO.none _)
    | (with_reducible refine LeO.ite ?_ ?_)
    | (with_reducible refine LeO.bind ?_ (fun _ => ?_))
    | exact ih0 _ _
    | exact impl_readPoint.mono _ _
    | exact LeO.none _
    | refine LeO.ite ?_ ?_
    | refine LeO.bind ?_ (fun _ => ?_)
theorem impl_UtfRead.mono : ∀ a0 k, LeO (impl_UtfRead.f k a0) (impl_UtfRead.f (k + 1) a0) := by
 intro a0 k
 have ih0 := impl_UtfRead.mono_l k
 unfold impl_UtfRead.f
 repeat' first
  | (with_reducible exact ih0 _ _)
  | (with_reducible exact impl_readPoint.mono _ _)
  | (with_reducible exact LeO.refl _)
  | (with_reducible exact LeO.none _)
  | (with_reducible refine LeO.ite ?_ ?_)
  | (with_reducible refine LeO.bind ?_ (fun _ => ?_))
  | exact ih0 _ _
  | exact impl_readPoint.mono _ _
  | exact LeO.none _
  | refine LeO.ite ?_ ?_
  | refine LeO.bind ?_ (fun _ => ?_)
set_option maxHeartbeats 8000000 in
set_option maxRecDepth 100000 in
theorem impl_UtfRead.calls (k : Nat) (A0 : Option Addr) (c0 : Nat) (l0 : List Int) (r : List Int) (w : World) (hr0 : Kd.C (Kd.int .u8) w A0 l0.length l0) (hc0 : l0.length ≤ c0) (h : impl_UtfRead.f k l0 = some r) :
 Calls Try.prog 131 #[.slice A0 l0.length c0] w fun e w' => ∃ v0_ : Value, e = .returned (v0_) ∧ Kd.R (Kd.int .i64) 3 w' w.heap.size (fun _ => True) v0_ r ∧ Below w.heap.size w w' := by
 have HR0 := Aside0.mk hr0
 have HC0 := Aside0.mk hc0
 clear hr0 hc0
 have HB := Aside0.mk (Below.refl w.heap.size w)
 have H : (if (l0.length : Int) > 3000 then (some ([] : List Int)) else ((bytes_TrimPrefix.f l0 (([239, 187, 191] : List Int))).bind fun t104 => (impl_UtfRead.l0 k t104 ([] : List Int)))) = some r := h
 clear h
 by_cases c2 : (l0.length : Int) > 3000
 · rw [if_pos c2] at H
   have c2b0 : decide (3000 < (l0.length : Int)) = true := decide_eq_true c2
   have c2b1 : decide (3000 < l0.length) = true := decide_eq_true (by omega)
   clear c2
   obtain rfl := Option.some.inj H
   go_enter Try.func131, Try.ntmps131
   go_wp2
   go_ret
   exact ⟨_, by first | rfl | (simp [*] <;> rfl), by first | exact Kd.R_nil _ _ _ _ _ | exact Kd.N_nil _ _ _ _ _ | exact Kd.V_nil _ _ _ _ _ | exact Kd.Q_nil _ _ _ _ _ | exact Kd.S_nil _ _ _ _ _, by repeat (first | exact HB.out | apply below_alloc | apply pw_below_drewN | apply below_drew1)⟩
 · rw [if_neg c2] at H
   have c2b0 : decide (3000 < (l0.length : Int)) = false := decide_eq_false c2
   have c2b1 : decide (3000 < l0.length) = false := decide_eq_false (by omega)
   clear c2
   obtain ⟨y101, hy101⟩ : ∃ y_ : List Int, y_ = (([239, 187, 191] : List Int)) := ⟨_, rfl⟩
   replace H : ((bytes_TrimPrefix.f l0 y101).bind fun t104 => (impl_UtfRead.l0 k t104 ([] : List Int))) = some r := by first | (rw [hy101]; with_reducible exact H) | (have H2_ := (Option.bind_some _ _).symm.trans H; rw [hy101]; with_reducible exact H2_) | (have H2_ := (Option.bind_some _ _).symm.trans H; with_reducible exact H2_) | with_reducible exact H | (rw [hy101]; exact H) | exact H
   have Ny101 := Aside0.mk hy101
   clear hy101
   replace H := Option.bind_eq_some_iff.mp H
   obtain ⟨t104, A30, H⟩ := H
   replace H : (impl_UtfRead.l0 k t104 ([] : List Int)) = some r := H
   have A3 := Aside0.mk A30
   clear A30
   have H' := Aside0.mk H
   clear H
   go_enter Try.func131, Try.ntmps131
   go_wp2_with (first | ((with_reducible refine gate_dst (N := 10) rfl ?_); refine Kd.R_lit (Kd.int .u8) _ 5 ?hg (N := 10) ?hd (xs := ([239, 187, 191] : List Int)) (inner := [.int .u8 239, .int .u8 187, .int .u8 191]) (ok := fun _ => True) (okp := fun _ => True) ?hr ?hp (fun _ hk => hk) trivial (Below.refl _ _) (Nat.le_refl _) (by simp) ?_; (case hd => rfl); (case hg => rfl); (case hr => first | (go_simp; done) | (go_simp; rfl)); (case hp => exact (Reps.one (show Kd.M (Kd.int .u8) _ _ _ 239 [.int .u8 239] from rfl) (Reps.one (show Kd.M (Kd.int .u8) _ _ _ 187 [.int .u8 187] from rfl) (Reps.one (show Kd.M (Kd.int .u8) _ _ _ 191 [.int .u8 191] from rfl) (Reps.none _ _))))); intro v102 w4 ho5 hb hg_ hnew_; clear hg_ hnew_; (first | rw [← Ny101.out] at ho5 | (simp only [Int.reduceToNat] at ho5; rw [← Ny101.out] at ho5)); have n0_ := Aside0.mk (Kd.R_lower ho5 (below_size (by repeat (first | exact HB.out | apply below_alloc | apply pw_below_drewN | apply below_drew1)))); have n1_ := Aside0.mk (below_step (by repeat (first | exact HB.out | apply below_alloc | apply pw_below_drewN | apply below_drew1)) hb); clear HB; have HO103 := n0_; have HB := n1_; clear n0_ n1_; clear hb ho5; obtain ⟨Ao6, co6, eo6⟩ := Kd.R_slice HO103.out; subst eo6) | ((with_reducible refine gate_callee (f := 140) rfl ?_); refine goesL_ (some 11) rfl rfl Try.func140 (by kernel_rfl) rfl #[.slice A0 l0.length c0, .slice Ao6 y101.length co6] rfl (by (try simp only [List.map_toArray, List.map_cons, List.map_nil]); first | done | rfl | (simp only [List.length_drop, List.length_take]; rfl)) ?_; (with_reducible refine (bytes_TrimPrefix.calls (fun k_ => k_ < w.heap.size) _ _ l0 _ _ y101 t104 _ ?side1 ?side2 ?side3 A3.out).mono ?_); (case side1 => exact Kd.V_mk HC0.out (Kd.F_below (Kd.C_F (Kd.heap_int .u8) HR0.out) (by repeat (first | exact HB.out | apply below_alloc | apply pw_below_drewN | apply below_drew1)))); (case side2 => repeat (first | exact (Kd.R_reads' HO103.out).2.2 | (with_reducible refine Kd.C_alloc ?_ _) | (with_reducible refine Kd.C_drewN ?_ _) | (with_reducible refine Kd.C_drew ?_))); (case side3 => exact (Kd.R_reads' HO103.out).2.1); rintro e w7 ⟨v105, rfl, ho0, hb⟩; refine ⟨_, rfl, ?_⟩; have n0_ := Aside0.mk (Kd.R_below (by (with_reducible repeat (first | apply Kd.R_alloc | apply Kd.R_drewN | apply Kd.R_drew)); exact HO103.out) hb); have n1_ := Aside0.mk (Kd.V_lower (Kd.V_mono (ok' := fun k_ => some k_ ≠ (.slice Ao6 y101.length co6 : Value).ownBlock) ho0 (fun k_ hk_ => Or.elim hk_ (fun hs_ => fun e_ => Nat.not_le.2 hs_ (Kd.R_base HO103.out k_ e_.symm)) (fun hn_ => (Kd.fresh' (Kd.R_lt (by (with_reducible repeat (first | apply Kd.R_alloc | apply Kd.R_drewN | apply Kd.R_drew)); exact HO103.out)) k_ hn_)))) (below_size (by repeat (first | exact HB.out | apply below_alloc | apply pw_below_drewN | apply below_drew1)))); have n2_ := Aside0.mk (below_step (by repeat (first | exact HB.out | apply below_alloc | apply pw_below_drewN | apply below_drew1)) hb); clear HO103; clear HB; have HO103 := n0_; have HO106 := n1_; have HB := n2_; clear n0_ n1_ n2_; (try clear hb); (try clear hb2); (try clear hk); (try clear hi); (try clear ho0)))
   go_loopg [0, 3] k (fun kq v0 v3 w' => ∃ (x0_1 : List Int) (x3_1 : List Int), Aside0 (impl_UtfRead.l0 kq x0_1 x3_1 = some r) ∧ Aside0 (kq ≤ k) ∧ Aside0 (Kd.V (Kd.int .u8) 5 w' w.heap.size (fun k_ => some k_ ≠ (v3 : Value).ownBlock) v0 x0_1) ∧ Aside0 (Kd.R (Kd.int .i64) 3 w' w.heap.size (fun _ => True) v3 x3_1) ∧ Aside0 (Below w.heap.size w w'))
   case atStart => exact ⟨(t104), (([] : List Int)), H', ⟨Nat.le_refl _⟩, ⟨by (with_reducible repeat (first | apply Kd.V_alloc | apply Kd.V_drewN | apply Kd.V_drew)); exact Kd.V_mono HO106.out (fun _ hk => (by simp [Value.ownBlock]))⟩, ⟨by first | exact Kd.R_nil _ _ _ _ _ | exact Kd.N_nil _ _ _ _ _ | exact Kd.V_nil _ _ _ _ _ | exact Kd.Q_nil _ _ _ _ _ | exact Kd.S_nil _ _ _ _ _⟩, ⟨by repeat (first | exact HB.out | apply below_alloc | apply pw_below_drewN | apply below_drew1)⟩⟩
   case round =>
    clear H'
    try clear c1
    try clear c2
    try clear c2b0
    try clear c2b1
    try clear p2
    obtain ⟨x0_1, x3_1, HA, HK1, HO_0, HO_3, HB⟩ := hrel
    cases gk with
    | zero => exact absurd HA.out (by simp [impl_UtfRead.l0])
    | succ k1 =>
     have H := HA.out
     clear HA
     simp only [impl_UtfRead.l0] at H
     by_cases c8 : (x0_1.length : Int) > 0
     · rw [if_pos c8] at H
       have c8b0 : decide (0 < (x0_1.length : Int)) = true := decide_eq_true c8
       have c8b1 : decide (0 < x0_1.length) = true := decide_eq_true (by omega)
       clear c8
       replace H := Option.bind_eq_some_iff.mp H
       obtain ⟨⟨t107, t108⟩, A90, H⟩ := H
       replace H : (if x3_1.length < 17592186044416 then (if 0 ≤ t108 then (if t108 ≤ (x0_1.length : Int) then (impl_UtfRead.l0 k1 (x0_1.drop (t108 : Int).toNat) (x3_1 ++ [t107])) else (none)) else (none)) else (none)) = some r := H
       have A9 := Aside0.mk A90
       clear A90
       by_cases c10 : x3_1.length < 17592186044416
       · rw [if_pos c10] at H
         have LMc10 := Aside0.mk c10
         clear c10
         obtain ⟨y109, hy109⟩ : ∃ y_ : List Int, y_ = (x3_1 ++ [t107]) := ⟨_, rfl⟩
         replace H : (if 0 ≤ t108 then (if t108 ≤ (x0_1.length : Int) then (impl_UtfRead.l0 k1 (x0_1.drop (t108 : Int).toNat) y109) else (none)) else (none)) = some r := by first | (rw [hy109]; with_reducible exact H) | (have H2_ := (Option.bind_some _ _).symm.trans H; rw [hy109]; with_reducible exact H2_) | (have H2_ := (Option.bind_some _ _).symm.trans H; with_reducible exact H2_) | with_reducible exact H | (rw [hy109]; exact H) | exact H
         have Ny109 := Aside0.mk hy109
         clear hy109
         by_cases c11 : 0 ≤ t108
         · rw [if_pos c11] at H
           have c11b0 := eq_true c11
           have c11b1 : decide (0 ≤ t108) = true := decide_eq_true c11
           clear c11
           by_cases c12 : t108 ≤ (x0_1.length : Int)
           · rw [if_pos c12] at H
             have c12b0 := eq_true c12
             have c12b1 : decide (t108 ≤ (x0_1.length : Int)) = true := decide_eq_true c12
             clear c12
             obtain ⟨y112, hy112⟩ : ∃ y_ : List Int, y_ = (x0_1.drop (t108 : Int).toNat) := ⟨_, rfl⟩
             replace H : (impl_UtfRead.l0 k1 y112 y109) = some r := by first | (rw [hy112]; with_reducible exact H) | (have H2_ := (Option.bind_some _ _).symm.trans H; rw [hy112]; with_reducible exact H2_) | (have H2_ := (Option.bind_some _ _).symm.trans H; with_reducible exact H2_) | with_reducible exact H | (rw [hy112]; exact H) | exact H
             have Ny112 := Aside0.mk hy112
             clear hy112
             have H' := Aside0.mk H
             clear H
             obtain ⟨Ao13, co13, eo13⟩ := Kd.V_slice HO_0.out
             subst eo13
             go_wp2_with (first | ((with_reducible refine gate_callee (f := 141) rfl ?_); refine goesL_ (some 17) rfl rfl Try.func141 (by kernel_rfl) rfl #[.slice Ao13 x0_1.length co13] rfl (by (try simp only [List.map_toArray, List.map_cons, List.map_nil]); first | done | rfl | (simp only [List.length_drop, List.length_take]; rfl)) ?_; (with_reducible refine (impl_readPoint.calls k1 _ _ x0_1 t107 t108 _ ?side1 ?side2 A9.out).mono ?_); (case side1 => repeat (first | exact (Kd.V_reads' HO_0.out).2.2 | (with_reducible refine Kd.C_alloc ?_ _) | (with_reducible refine Kd.C_drewN ?_ _) | (with_reducible refine Kd.C_drew ?_))); (case side2 => exact (Kd.V_reads' HO_0.out).2.1); rintro e w' ⟨rfl, ⟨nd, rfl⟩⟩; refine ⟨_, rfl, ?_⟩) | ((with_reducible refine gate_builtin (b := .append) (xs := #[.tmp 20, .tmp 22]) rfl ?_); at_builtin; refine Kd.R_append (Kd.int .i64) (w0 := w) w.heap.size rfl (.tmp 20) (.tmp 22) 37 3 (.int .i64 0) 8 rfl Try.underlying37 info3 rfl (by decide) (by omega) u3 x3_1 t107 [.int .i64 t107] (fun _ => True) (fun _ => False) rfl rfl ?aP (fun _ hk => hk.elim) ?aF ?aO ?aB ?aS ?aL ?_; (case aP => exact rfl); (case aB => exact (by repeat (first | exact HB.out | apply below_alloc | apply pw_below_drewN | apply below_drew1))); (case aF => exact (fun _ _ => trivial)); (case aO => exact (by (with_reducible repeat (first | apply Kd.R_alloc | apply Kd.R_drewN | apply Kd.R_drew)); exact HO_3.out)); (case aS => exact (below_size (by repeat (first | exact HB.out | apply below_alloc | apply pw_below_drewN | apply below_drew1)))); (case aL => have := LMc10.out; omega); intro v110 w14 ho hb hg hat; rw [← Ny109.out] at ho; have n0_ := Aside0.mk (Kd.V_afterv (ok := (fun _ => True)) (by (with_reducible repeat (first | apply Kd.V_alloc | apply Kd.V_drewN | apply Kd.V_drew)); exact Kd.V_mono HO_0.out (fun _ hk => ⟨trivial, hk⟩)) hg hat); have n1_ := Aside0.mk (hb); have n2_ := Aside0.mk (ho); clear HO_0; clear HB; clear HO_3; have HO_0 := n0_; have HB := n1_; have HO111 := n2_; clear n0_ n1_ n2_; clear ho hb hg hat; have q15 : (t108 : Int) ≤ ((x0_1.length : Int) : Int) := of_decide_eq_true (by assumption); obtain ⟨i015, hi015, _, hsz15, _⟩ := info_parts info5; have hroom15 : x0_1.length ≤ co13 := (Kd.V_reads' HO_0.out).2.1; have hC15 : Kd.F (Kd.int .u8) _ _ Ao13 x0_1.length x0_1 := (Kd.V_at (base := w.heap.size) HO_0.out).2.2; have q015 : (0 : Int) ≤ (t108 : Int) := of_decide_eq_true (by assumption); have hcut15 := cut_from (P := Try.prog) 52 5 .i64 Try.underlying52 hi015 1 hsz15 Ao13 x0_1.length co13 t108 q015 q15; have hr15 := Kd.F_cut (m := (t108 : Int).toNat) (c := co13) hC15 (by omega) hroom15; obtain ⟨A15, hA15⟩ : ∃ A1, A1 = (if co13 = (t108 : Int).toNat then Ao13 else (Ao13 : Option Addr).map (·.add ((t108 : Int).toNat * 1))) := ⟨_, rfl⟩; obtain ⟨c15, hc15⟩ : ∃ c1, c1 = co13 - (t108 : Int).toNat := ⟨_, rfl⟩; have hy15 : y112.length = x0_1.length - (t108 : Int).toNat := (by rw [Ny112.out, List.length_drop] <;> omega); rw [show (x0_1).drop (t108 : Int).toNat = y112 from Ny112.out.symm] at hr15; replace hr15 : Kd.F (Kd.int .u8) _ _ A15 y112.length y112 := (by rw [hA15]; exact hr15); rw [← hy15, ← hA15, ← hc15] at hcut15; have HO116 := Aside0.mk (show Kd.V (Kd.int .u8) 5 _ w.heap.size _ (.slice A15 y112.length c15) y112 from Kd.V_mk (by rw [hy15, hc15]; exact Nat.sub_le_sub_right hroom15 _) hr15); have HC116 := Aside0.mk (show y112.length ≤ c15 from by rw [hy15, hc15]; exact Nat.sub_le_sub_right hroom15 _); clear hr15 hC15 hroom15 hi015 hsz15 hc15; have KY15 := Aside0.mk hy15; have KA15 := Aside0.mk hA15; clear hy15 hA15; replace q15 := eq_true q15))
             go_roundg k1
             case measure => have := HK1.out; omega
             case rel => exact ⟨(y112), (y109), H', ⟨by have := HK1.out; omega⟩, ⟨by (with_reducible repeat (first | apply Kd.V_alloc | apply Kd.V_drewN | apply Kd.V_drew)); exact Kd.V_mono HO116.out (fun _ hk => hk.2)⟩, ⟨by (with_reducible repeat (first | apply Kd.R_alloc | apply Kd.R_drewN | apply Kd.R_drew)); exact HO111.out⟩, ⟨by repeat (first | exact HB.out | apply below_alloc | apply pw_below_drewN | apply below_drew1)⟩⟩
           · rw [if_neg c12] at H
             exact absurd H (by simp)
         · rw [if_neg c11] at H
           exact absurd H (by simp)
       · rw [if_neg c10] at H
         exact absurd H (by simp)
     · rw [if_neg c8] at H
       have c8b0 : decide (0 < (x0_1.length : Int)) = false := decide_eq_false c8
       have c8b1 : decide (0 < x0_1.length) = false := decide_eq_false (by omega)
       clear c8
       obtain rfl := Option.some.inj H
       obtain ⟨Ao16, co16, eo16⟩ := Kd.V_slice HO_0.out
       subst eo16
       go_wp2
       go_ret
       exact ⟨_, by first | rfl | (simp [*] <;> rfl), by (with_reducible repeat (first | apply Kd.R_alloc | apply Kd.R_drewN | apply Kd.R_drew)); exact HO_3.out, by repeat (first | exact HB.out | apply below_alloc | apply pw_below_drewN | apply below_drew1)⟩
def impl_UtfOk.f (k : Nat) (l0 : List Int) : Option (Bool) := if (l0.length : Int) ≤ 3000 then ((impl_UtfRead.f k l0).bind fun t101 => ((impl_PointsPut.f k t101).bind fun t104 => ((bytes_Equal.f t104 l0).bind fun t107 => (some t107)))) else (some false)
theorem impl_UtfOk.mono : ∀ a0 k, LeO (impl_UtfOk.f k a0) (impl_UtfOk.f (k + 1) a0) := by
 intro a0 k
 unfold impl_UtfOk.f
 repeat' first
  | (with_reducible exact impl_PointsPut.mono _ _)
  | (with_reducible exact impl_UtfRead.mono _ _)
  | (with_reducible exact LeO.refl _)
  | (with_reducible exact LeO.none _)
  | (with_reducible refine LeO.ite ?_ ?_)
  | (with_reducible refine LeO.bind ?_ (fun _ => ?_))
  | exact impl_PointsPut.mono _ _
  | exact impl_UtfRead.mono _ _
  | exact LeO.none _
  | refine LeO.ite ?_ ?_
  | refine LeO.bind ?_ (fun _ => ?_)
set_option maxHeartbeats 8000000 in
set_option maxRecDepth 100000 in
theorem impl_UtfOk.calls (k : Nat) (A0 : Option Addr) (c0 : Nat) (l0 : List Int) (r : Bool) (w : World) (hr0 : Kd.C (Kd.int .u8) w A0 l0.length l0) (hc0 : l0.length ≤ c0) (h : impl_UtfOk.f k l0 = some r) :
 Calls Try.prog 113 #[.slice A0 l0.length c0] w fun e w' => e = .returned (.bool r) ∧ Below w.heap.size w w' := by
 have HR0 := Aside0.mk hr0
 have HC0 := Aside0.mk hc0
 clear hr0 hc0
 have HB := Aside0.mk (Below.refl w.heap.size w)
 have H : (if (l0.length : Int) ≤ 3000 then ((impl_UtfRead.f k l0).bind fun t101 => ((impl_PointsPut.f k t101).bind fun t104 => ((bytes_Equal.f t104 l0).bind fun t107 => (some t107)))) else (some false)) = some r := h
 clear h
 by_cases c2 : (l0.length : Int) ≤ 3000
 · rw [if_pos c2] at H
   have c2b0 : decide ((l0.length : Int) ≤ 3000) = true := decide_eq_true c2
   have c2b1 : decide (l0.length ≤ 3000) = true := decide_eq_true (by omega)
   clear c2
   replace H := Option.bind_eq_some_iff.mp H
   obtain ⟨t101, A30, H⟩ := H
   replace H : ((impl_PointsPut.f k t101).bind fun t104 => ((bytes_Equal.f t104 l0).bind fun t107 => (some t107))) = some r := H
   have A3 := Aside0.mk A30
   clear A30
   replace H := Option.bind_eq_some_iff.mp H
   obtain ⟨t104, A40, H⟩ := H
   replace H : ((bytes_Equal.f t104 l0).bind fun t107 => (some t107)) = some r := H
   have A4 := Aside0.mk A40
   clear A40
   replace H := Option.bind_eq_some_iff.mp H
   obtain ⟨t107, A50, H⟩ := H
   replace H : (some t107) = some r := H
   have A5 := Aside0.mk A50
   clear A50
   obtain rfl := Option.some.inj H
   go_enter Try.func113, Try.ntmps113
   go_wp2_with (first | (go_at_call 131; (with_reducible refine (impl_UtfRead.calls k _ _ l0 t101 _ ?side1 ?side2 A3.out).mono ?_); (case side1 => repeat (first | exact HR0.out | (with_reducible refine Kd.C_alloc ?_ _) | (with_reducible refine Kd.C_drewN ?_ _) | (with_reducible refine Kd.C_drew ?_))); (case side2 => exact HC0.out); rintro e w6 ⟨v102, rfl, ho0, hb⟩; have n0_ := Aside0.mk (Kd.R_lower ho0 (below_size (by repeat (first | exact HB.out | apply below_alloc | apply pw_below_drewN | apply below_drew1)))); have n1_ := Aside0.mk (below_step (by repeat (first | exact HB.out | apply below_alloc | apply pw_below_drewN | apply below_drew1)) hb); clear HB; have HO103 := n0_; have HB := n1_; clear n0_ n1_; (try clear hb); (try clear hb2); (try clear hk); (try clear hi); (try clear ho0); obtain ⟨Ao7, co7, eo7⟩ := Kd.R_slice HO103.out; subst eo7) | (go_at_call 130; (with_reducible refine (impl_PointsPut.calls k _ _ t101 t104 _ ?side1 ?side2 A4.out).mono ?_); (case side1 => repeat (first | exact (Kd.R_reads' HO103.out).2.2 | (with_reducible refine Kd.C_alloc ?_ _) | (with_reducible refine Kd.C_drewN ?_ _) | (with_reducible refine Kd.C_drew ?_))); (case side2 => exact (Kd.R_reads' HO103.out).2.1); rintro e w8 ⟨v105, rfl, ho0, hb⟩; have n0_ := Aside0.mk (Kd.R_below (by (with_reducible repeat (first | apply Kd.R_alloc | apply Kd.R_drewN | apply Kd.R_drew)); exact HO103.out) hb); have n1_ := Aside0.mk (Kd.R_lower ho0 (below_size (by repeat (first | exact HB.out | apply below_alloc | apply pw_below_drewN | apply below_drew1)))); have n2_ := Aside0.mk (below_step (by repeat (first | exact HB.out | apply below_alloc | apply pw_below_drewN | apply below_drew1)) hb); clear HO103; clear HB; have HO103 := n0_; have HO106 := n1_; have HB := n2_; clear n0_ n1_ n2_; (try clear hb); (try clear hb2); (try clear hk); (try clear hi); (try clear ho0); obtain ⟨Ao9, co9, eo9⟩ := Kd.R_slice HO106.out; subst eo9) | (go_at_call 129; (with_reducible refine (bytes_Equal.calls _ _ t104 _ _ l0 t107 _ ?side1 ?side2 ?side3 ?side4 A5.out).mono ?_); (case side1 => repeat (first | exact (Kd.R_reads' HO106.out).2.2 | (with_reducible refine Kd.C_alloc ?_ _) | (with_reducible refine Kd.C_drewN ?_ _) | (with_reducible refine Kd.C_drew ?_))); (case side2 => exact (Kd.R_reads' HO106.out).2.1); (case side3 => repeat (first | exact (Kd.C_below HR0.out HB.out) | (with_reducible refine Kd.C_alloc ?_ _) | (with_reducible refine Kd.C_drewN ?_ _) | (with_reducible refine Kd.C_drew ?_))); (case side4 => exact HC0.out); rintro e w' ⟨rfl, ⟨nd, rfl⟩⟩))
   go_ret
   exact ⟨by first | rfl | (simp [*] <;> rfl), by repeat (first | exact HB.out | apply below_alloc | apply pw_below_drewN | apply below_drew1)⟩
 · rw [if_neg c2] at H
   have c2b0 : decide ((l0.length : Int) ≤ 3000) = false := decide_eq_false c2
   have c2b1 : decide (l0.length ≤ 3000) = false := decide_eq_false (by omega)
   clear c2
   obtain rfl := Option.some.inj H
   go_enter Try.func113, Try.ntmps113
   go_wp2
   go_ret
   exact ⟨by first | rfl | (simp [*] <;> rfl), by repeat (first | exact HB.out | apply below_alloc | apply pw_below_drewN | apply below_drew1)⟩
def impl_textOk.f (k : Nat) (a0 : ByteArray) : Option (Bool) := if a0.size ≤ 140737488355328 then ((impl_UtfOk.f k (bytesOf a0)).bind fun t104 => (some t104)) else (none)
theorem impl_textOk.mono : ∀ a0 k, LeO (impl_textOk.f k a0) (impl_textOk.f (k + 1) a0) := by
 intro a0 k
 unfold impl_textOk.f
 repeat' first
  | (with_reducible exact impl_UtfOk.mono _ _)
  | (with_reducible exact LeO.refl _)
  | (with_reducible exact LeO.none _)
  | (with_reducible refine LeO.ite ?_ ?_)
  | (with_reducible refine LeO.bind ?_ (fun _ => ?_))
  | exact impl_UtfOk.mono _ _
  | exact LeO.none _
  | refine LeO.ite ?_ ?_
  | refine LeO.bind ?_ (fun _ => ?_)
set_option maxHeartbeats 8000000 in
set_option maxRecDepth 100000 in
theorem impl_textOk.calls (k : Nat) (a0 : ByteArray) (r : Bool) (w : World) (h : impl_textOk.f k a0 = some r) :
 Calls Try.prog 86 #[.string a0] w fun e w' => e = .returned (.bool r) ∧ Below w.heap.size w w' := by
 have HB := Aside0.mk (Below.refl w.heap.size w)
 have H : (if a0.size ≤ 140737488355328 then ((impl_UtfOk.f k (bytesOf a0)).bind fun t104 => (some t104)) else (none)) = some r := h
 clear h
 by_cases c2 : a0.size ≤ 140737488355328
 · rw [if_pos c2] at H
   have c2b0 := eq_true c2
   have c2b1 : decide (a0.size ≤ 140737488355328) = true := decide_eq_true c2
   clear c2
   obtain ⟨y101, hy101⟩ : ∃ y_ : List Int, y_ = (bytesOf a0) := ⟨_, rfl⟩
   replace H : ((impl_UtfOk.f k y101).bind fun t104 => (some t104)) = some r := by first | (rw [hy101]; with_reducible exact H) | (have H2_ := (Option.bind_some _ _).symm.trans H; rw [hy101]; with_reducible exact H2_) | (have H2_ := (Option.bind_some _ _).symm.trans H; with_reducible exact H2_) | with_reducible exact H | (rw [hy101]; exact H) | exact H
   have Ny101 := Aside0.mk hy101
   clear hy101
   replace H := Option.bind_eq_some_iff.mp H
   obtain ⟨t104, A30, H⟩ := H
   replace H : (some t104) = some r := H
   have A3 := Aside0.mk A30
   clear A30
   obtain rfl := Option.some.inj H
   go_enter Try.func86, Try.ntmps86
   go_wp2_with (first | ((with_reducible refine gate_dst (N := 4) rfl ?_); refine conv_V _ 5 rfl (N' := 4) rfl 9 52 _ rfl a0 rfl Try.underlying9 Try.underlying52 Try.underlying5 (of_decide_eq_true (by assumption) : a0.size ≤ 140737488355328) (ok := fun k_ => w.heap.size ≤ k_) (Nat.le_refl _) (Below.refl _ _) (Nat.le_refl _) ?_; intro v102 w4 ho5 hb hg_ hnew_; clear hg_ hnew_; (first | rw [← Ny101.out] at ho5 | (simp only [Int.reduceToNat] at ho5; rw [← Ny101.out] at ho5)); have n0_ := Aside0.mk (Kd.V_lower (Kd.V_mono (ok' := fun k_ => True) ho5 (fun k_ hk_ => trivial)) (below_size (by repeat (first | exact HB.out | apply below_alloc | apply pw_below_drewN | apply below_drew1)))); have n1_ := Aside0.mk (below_step (by repeat (first | exact HB.out | apply below_alloc | apply pw_below_drewN | apply below_drew1)) hb); clear HB; have HO103 := n0_; have HB := n1_; clear n0_ n1_; clear hb ho5; obtain ⟨Ao6, co6, eo6⟩ := Kd.V_slice HO103.out; subst eo6) | ((with_reducible refine gate_callee (f := 113) rfl ?_); refine goesL_ (some 5) rfl rfl Try.func113 (by kernel_rfl) rfl #[.slice Ao6 y101.length co6] rfl (by (try simp only [List.map_toArray, List.map_cons, List.map_nil]); first | done | rfl | (simp only [List.length_drop, List.length_take]; rfl)) ?_; (with_reducible refine (impl_UtfOk.calls k _ _ y101 t104 _ ?side1 ?side2 A3.out).mono ?_); (case side1 => repeat (first | exact (Kd.V_reads' HO103.out).2.2 | (with_reducible refine Kd.C_alloc ?_ _) | (with_reducible refine Kd.C_drewN ?_ _) | (with_reducible refine Kd.C_drew ?_))); (case side2 => exact (Kd.V_reads' HO103.out).2.1); rintro e w7 ⟨rfl, hb⟩; refine ⟨_, rfl, ?_⟩; have n0_ := Aside0.mk (Kd.V_below (by (with_reducible repeat (first | apply Kd.V_alloc | apply Kd.V_drewN | apply Kd.V_drew)); exact HO103.out) hb); have n1_ := Aside0.mk (below_step (by repeat (first | exact HB.out | apply below_alloc | apply pw_below_drewN | apply below_drew1)) hb); clear HO103; clear HB; have HO103 := n0_; have HB := n1_; clear n0_ n1_; (try clear hb); (try clear hb2); (try clear hk); (try clear hi)))
   go_ret
   exact ⟨by first | rfl | (simp [*] <;> rfl), by repeat (first | exact HB.out | apply below_alloc | apply pw_below_drewN | apply below_drew1)⟩
 · rw [if_neg c2] at H
   exact absurd H (by simp)
def impl_doctypeOk.f (k : Nat) (a0 : ByteArray) : Option (Bool) := if (a0.size : Int) ≤ 60 then ((impl_textOk.f k a0).bind fun t101 => (some t101)) else (some false)
theorem impl_doctypeOk.mono : ∀ a0 k, LeO (impl_doctypeOk.f k a0) (impl_doctypeOk.f (k + 1) a0) := by
 intro a0 k
 unfold impl_doctypeOk.f
 repeat' first
  | (with_reducible exact impl_textOk.mono _ _)
  | (with_reducible exact LeO.refl _)
  | (with_reducible exact LeO.none _)
  | (with_reducible refine LeO.ite ?_ ?_)
  | (with_reducible refine LeO.bind ?_ (fun _ => ?_))
  | exact impl_textOk.mono _ _
  | exact LeO.none _
  | refine LeO.ite ?_ ?_
  | refine LeO.bind ?_ (fun _ => ?_)
set_option maxHeartbeats 8000000 in
set_option maxRecDepth 100000 in
theorem impl_doctypeOk.calls (k : Nat) (a0 : ByteArray) (r : Bool) (w : World) (h : impl_doctypeOk.f k a0 = some r) :
 Calls Try.prog 83 #[.string a0] w fun e w' => e = .returned (.bool r) ∧ Below w.heap.size w w' := by
 have HB := Aside0.mk (Below.refl w.heap.size w)
 have H : (if (a0.size : Int) ≤ 60 then ((impl_textOk.f k a0).bind fun t101 => (some t101)) else (some false)) = some r := h
 clear h
 by_cases c2 : (a0.size : Int) ≤ 60
 · rw [if_pos c2] at H
   have c2b0 : decide ((a0.size : Int) ≤ 60) = true := decide_eq_true c2
   have c2b1 : decide (a0.size ≤ 60) = true := decide_eq_true (by omega)
   clear c2
   replace H := Option.bind_eq_some_iff.mp H
   obtain ⟨t101, A30, H⟩ := H
   replace H : (some t101) = some r := H
   have A3 := Aside0.mk A30
   clear A30
   obtain rfl := Option.some.inj H
   go_enter Try.func83, Try.ntmps83
   go_wp2_with (first | (go_at_call 86; (with_reducible refine (impl_textOk.calls k a0 t101 _ A3.out).mono ?_); rintro e w4 ⟨rfl, hb⟩; have n0_ := Aside0.mk (below_step (by repeat (first | exact HB.out | apply below_alloc | apply pw_below_drewN | apply below_drew1)) hb); clear HB; have HB := n0_; clear n0_; (try clear hb); (try clear hb2); (try clear hk); (try clear hi)))
   go_ret
   exact ⟨by first | rfl | (simp [*] <;> rfl), by repeat (first | exact HB.out | apply below_alloc | apply pw_below_drewN | apply below_drew1)⟩
 · rw [if_neg c2] at H
   have c2b0 : decide ((a0.size : Int) ≤ 60) = false := decide_eq_false c2
   have c2b1 : decide (a0.size ≤ 60) = false := decide_eq_false (by omega)
   clear c2
   obtain rfl := Option.some.inj H
   go_enter Try.func83, Try.ntmps83
   go_wp2
   go_ret
   exact ⟨by first | rfl | (simp [*] <;> rfl), by repeat (first | exact HB.out | apply below_alloc | apply pw_below_drewN | apply below_drew1)⟩
def impl_IsBlank.f (a0 : Int) : Option (Bool) := if a0 = 9 then (some true) else (if a0 = 10 then (some true) else (if a0 = 12 then (some true) else (some (a0 == 32))))
set_option maxHeartbeats 8000000 in
set_option maxRecDepth 100000 in
theorem impl_IsBlank.calls (a0 : Int) (r : Bool) (w : World) (h : impl_IsBlank.f a0 = some r) :
 Calls Try.prog 126 #[.int .i64 a0] w fun e w' => e = .returned (.bool r) ∧ Drawn0 w w' := by
 have H : (if a0 = 9 then (some true) else (if a0 = 10 then (some true) else (if a0 = 12 then (some true) else (some (a0 == 32))))) = some r := h
 clear h
 by_cases c2 : a0 = 9
 · rw [if_pos c2] at H
   have c2b0 : (a0 == 9) = true := beq_iff_eq.mpr c2
   have c2b1 : (a0 != 9) = false := bne_eq_false_iff_eq.mpr c2
   clear c2
   obtain rfl := Option.some.inj H
   go_enter Try.func126, Try.ntmps126
   go_wp2
   go_ret
   exact ⟨by first | rfl | (simp; done) | (simp [*]; done), by repeat (first | exact Drawn0.refl _ | apply Drawn0.step)⟩
 · rw [if_neg c2] at H
   have c2b0 : (a0 == 9) = false := beq_eq_false_iff_ne.mpr c2
   have c2b1 : (a0 != 9) = true := bne_iff_ne.mpr c2
   by_cases c3 : a0 = 10
   · rw [if_pos c3] at H
     have c3b0 : (a0 == 10) = true := beq_iff_eq.mpr c3
     have c3b1 : (a0 != 10) = false := bne_eq_false_iff_eq.mpr c3
     clear c3
     obtain rfl := Option.some.inj H
     go_enter Try.func126, Try.ntmps126
     go_wp2
     go_ret
     exact ⟨by first | rfl | (simp; done) | (simp [*]; done), by repeat (first | exact Drawn0.refl _ | apply Drawn0.step)⟩
   · rw [if_neg c3] at H
     have c3b0 : (a0 == 10) = false := beq_eq_false_iff_ne.mpr c3
     have c3b1 : (a0 != 10) = true := bne_iff_ne.mpr c3
     by_cases c4 : a0 = 12
     · rw [if_pos c4] at H
       have c4b0 : (a0 == 12) = true := beq_iff_eq.mpr c4
       have c4b1 : (a0 != 12) = false := bne_eq_false_iff_eq.mpr c4
       clear c4
       obtain rfl := Option.some.inj H
       go_enter Try.func126, Try.ntmps126
       go_wp2
       go_ret
       exact ⟨by first | rfl | (simp; done) | (simp [*]; done), by repeat (first | exact Drawn0.refl _ | apply Drawn0.step)⟩
     · rw [if_neg c4] at H
       have c4b0 : (a0 == 12) = false := beq_eq_false_iff_ne.mpr c4
       have c4b1 : (a0 != 12) = true := bne_iff_ne.mpr c4
       obtain rfl := Option.some.inj H
       go_enter Try.func126, Try.ntmps126
       go_wp2
       go_ret
       exact ⟨by first | rfl | (simp; done) | (simp [*]; done), by repeat (first | exact Drawn0.refl _ | apply Drawn0.step)⟩
def impl_isOuter.f (a0 : Int) : Option (Bool) := (impl_IsBlank.f a0).bind fun t101 => (if t101 = true then (some true) else (if a0 = 47 then (some true) else (if a0 = 62 then (some true) else (if a0 = 0 then (some true) else ((impl_inRange.f a0 65 90).bind fun t102 => (some t102))))))
set_option maxHeartbeats 8000000 in
set_option maxRecDepth 100000 in
theorem impl_isOuter.calls (a0 : Int) (r : Bool) (w : World) (h : impl_isOuter.f a0 = some r) :
 Calls Try.prog 110 #[.int .i64 a0] w fun e w' => e = .returned (.bool r) ∧ Drawn0 w w' := by
 have H : ((impl_IsBlank.f a0).bind fun t101 => (if t101 = true then (some true) else (if a0 = 47 then (some true) else (if a0 = 62 then (some true) else (if a0 = 0 then (some true) else ((impl_inRange.f a0 65 90).bind fun t102 => (some t102))))))) = some r := h
 clear h
 replace H := Option.bind_eq_some_iff.mp H
 obtain ⟨t101, A20, H⟩ := H
 replace H : (if t101 = true then (some true) else (if a0 = 47 then (some true) else (if a0 = 62 then (some true) else (if a0 = 0 then (some true) else ((impl_inRange.f a0 65 90).bind fun t102 => (some t102)))))) = some r := H
 have A2 := Aside0.mk A20
 clear A20
 by_cases c3 : t101 = true
 · subst c3
   rw [if_pos rfl] at H
   obtain rfl := Option.some.inj H
   go_enter Try.func110, Try.ntmps110
   go_wp2_with (first | ((with_reducible refine gate_callee (f := 126) rfl ?_); refine goesL_ (some 4) rfl rfl Try.func126 (by kernel_rfl) rfl #[.int .i64 a0] rfl (by (try simp only [List.map_toArray, List.map_cons, List.map_nil]); first | done | rfl | (simp only [List.length_drop, List.length_take]; rfl)) ?_; (with_reducible refine (impl_IsBlank.calls a0 true _ A2.out).mono ?_); rintro e w' ⟨rfl, ⟨nd, rfl⟩⟩; refine ⟨_, rfl, ?_⟩))
   go_ret
   exact ⟨by first | rfl | (simp; done) | (simp [*]; done), by repeat (first | exact Drawn0.refl _ | apply Drawn0.step)⟩
 · replace c3 := Bool.eq_false_iff.mpr c3
   subst c3
   rw [if_neg (show ¬ (false = true) by decide)] at H
   by_cases c4 : a0 = 47
   · rw [if_pos c4] at H
     have c4b0 : (a0 == 47) = true := beq_iff_eq.mpr c4
     have c4b1 : (a0 != 47) = false := bne_eq_false_iff_eq.mpr c4
     clear c4
     obtain rfl := Option.some.inj H
     go_enter Try.func110, Try.ntmps110
     go_wp2_with (first | ((with_reducible refine gate_callee (f := 126) rfl ?_); refine goesL_ (some 4) rfl rfl Try.func126 (by kernel_rfl) rfl #[.int .i64 a0] rfl (by (try simp only [List.map_toArray, List.map_cons, List.map_nil]); first | done | rfl | (simp only [List.length_drop, List.length_take]; rfl)) ?_; (with_reducible refine (impl_IsBlank.calls a0 false _ A2.out).mono ?_); rintro e w' ⟨rfl, ⟨nd, rfl⟩⟩; refine ⟨_, rfl, ?_⟩))
     go_ret
     exact ⟨by first | rfl | (simp; done) | (simp [*]; done), by repeat (first | exact Drawn0.refl _ | apply Drawn0.step)⟩
   · rw [if_neg c4] at H
     have c4b0 : (a0 == 47) = false := beq_eq_false_iff_ne.mpr c4
     have c4b1 : (a0 != 47) = true := bne_iff_ne.mpr c4
     by_cases c5 : a0 = 62
     · rw [if_pos c5] at H
       have c5b0 : (a0 == 62) = true := beq_iff_eq.mpr c5
       have c5b1 : (a0 != 62) = false := bne_eq_false_iff_eq.mpr c5
       clear c5
       obtain rfl := Option.some.inj H
       go_enter Try.func110, Try.ntmps110
       go_wp2_with (first | ((with_reducible refine gate_callee (f := 126) rfl ?_); refine goesL_ (some 4) rfl rfl Try.func126 (by kernel_rfl) rfl #[.int .i64 a0] rfl (by (try simp only [List.map_toArray, List.map_cons, List.map_nil]); first | done | rfl | (simp only [List.length_drop, List.length_take]; rfl)) ?_; (with_reducible refine (impl_IsBlank.calls a0 false _ A2.out).mono ?_); rintro e w' ⟨rfl, ⟨nd, rfl⟩⟩; refine ⟨_, rfl, ?_⟩))
       go_ret
       exact ⟨by first | rfl | (simp; done) | (simp [*]; done), by repeat (first | exact Drawn0.refl _ | apply Drawn0.step)⟩
     · rw [if_neg c5] at H
       have c5b0 : (a0 == 62) = false := beq_eq_false_iff_ne.mpr c5
       have c5b1 : (a0 != 62) = true := bne_iff_ne.mpr c5
       by_cases c6 : a0 = 0
       · rw [if_pos c6] at H
         have c6b0 : (a0 == 0) = true := beq_iff_eq.mpr c6
         have c6b1 : (a0 != 0) = false := bne_eq_false_iff_eq.mpr c6
         clear c6
         obtain rfl := Option.some.inj H
         go_enter Try.func110, Try.ntmps110
         go_wp2_with (first | ((with_reducible refine gate_callee (f := 126) rfl ?_); refine goesL_ (some 4) rfl rfl Try.func126 (by kernel_rfl) rfl #[.int .i64 a0] rfl (by (try simp only [List.map_toArray, List.map_cons, List.map_nil]); first | done | rfl | (simp only [List.length_drop, List.length_take]; rfl)) ?_; (with_reducible refine (impl_IsBlank.calls a0 false _ A2.out).mono ?_); rintro e w' ⟨rfl, ⟨nd, rfl⟩⟩; refine ⟨_, rfl, ?_⟩))
         go_ret
         exact ⟨by first | rfl | (simp; done) | (simp [*]; done), by repeat (first | exact Drawn0.refl _ | apply Drawn0.step)⟩
       · rw [if_neg c6] at H
         have c6b0 : (a0 == 0) = false := beq_eq_false_iff_ne.mpr c6
         have c6b1 : (a0 != 0) = true := bne_iff_ne.mpr c6
         replace H := Option.bind_eq_some_iff.mp H
         obtain ⟨t102, A70, H⟩ := H
         replace H : (some t102) = some r := H
         have A7 := Aside0.mk A70
         clear A70
         obtain rfl := Option.some.inj H
         go_enter Try.func110, Try.ntmps110
         go_wp2_with (first | ((with_reducible refine gate_callee (f := 126) rfl ?_); refine goesL_ (some 4) rfl rfl Try.func126 (by kernel_rfl) rfl #[.int .i64 a0] rfl (by (try simp only [List.map_toArray, List.map_cons, List.map_nil]); first | done | rfl | (simp only [List.length_drop, List.length_take]; rfl)) ?_; (with_reducible refine (impl_IsBlank.calls a0 false _ A2.out).mono ?_); rintro e w' ⟨rfl, ⟨nd, rfl⟩⟩; refine ⟨_, rfl, ?_⟩) | (go_at_call 40; (with_reducible refine (impl_inRange.calls a0 65 90 t102 _ A7.out).mono ?_); rintro e w' ⟨rfl, ⟨nd, rfl⟩⟩))
         go_ret
         exact ⟨by first | rfl | (simp; done) | (simp [*]; done), by repeat (first | exact Drawn0.refl _ | apply Drawn0.step)⟩
mutual
def impl_NameOk.j0 : Nat → ByteArray → Bool → Option (Bool)
 | 0, _, _ => none
 | k + 1, x0, x23 => if x23 = true then (some false) else (if x0.size ≤ 140737488355328 then ((some (bytesOf x0 : List Int)).bind fun y103 => (impl_NameOk.l0 k y103 (y103.length : Int) 0)) else (none))
def impl_NameOk.l0 : Nat → List Int → Int → Int → Option (Bool)
 | 0, _, _, _ => none
 | k + 1, x25, x26, x27 => if x27 < x26 then (if 0 ≤ x27 then (if x27 < (x25.length : Int) then ((impl_isOuter.f (wrap64 (rd x25 x27))).bind fun t107 => (if t107 = true then (some false) else (impl_NameOk.l0 k x25 x26 (wrap64 (x27 + 1))))) else (none)) else (none)) else (some true)
end
def impl_NameOk.f (k : Nat) (a0 : ByteArray) : Option (Bool) := (impl_inRange.f (a0.size : Int) 1 60).bind fun t101 => (if t101 = true then (if 0 < (a0.size : Int) then (if (bt a0 0) < 97 then (impl_NameOk.j0 k a0 true) else (if (bt a0 0) > 122 then (impl_NameOk.j0 k a0 true) else ((impl_textOk.f k a0).bind fun t102 => (impl_NameOk.j0 k a0 (!t102))))) else (none)) else (impl_NameOk.j0 k a0 true))
theorem impl_NameOk.mono_l : ∀ k, (∀ y0 y1, LeO (impl_NameOk.j0 k y0 y1) (impl_NameOk.j0 (k + 1) y0 y1)) ∧ (∀ y0 y1 y2, LeO (impl_NameOk.l0 k y0 y1 y2) (impl_NameOk.l0 (k + 1) y0 y1 y2))
 | 0 => ⟨fun _ _ r h => by simp [impl_NameOk.j0] at h, fun _ _ _ r h => by simp [impl_NameOk.l0] at h⟩
 | k + 1 => by
  obtain ⟨ih0, ih1⟩ := impl_NameOk.mono_l k
  refine ⟨?_, ?_⟩
  · intro y0 y1
    unfold impl_NameOk.j0
    repeat' first
    | (with_reducible exact ih0 _ _)
    | (with_reducible exact ih1 _ _ _)
    | (with_reducible exact impl_textOk.mono _ _)
    | (with_reducible exact LeO.refl _)
    | (with_reducible exact LeO.none _)
    | (with_reducible refine LeO.ite ?_ ?_)
    | (with_reducible refine LeO.bind ?_ (fun _ => ?_))
    | exact ih0 _ _
    | exact ih1 _ _ _
    | exact impl_textOk.mono _ _
    | exact LeO.none _
    | refine LeO.ite ?_ ?_
    | refine LeO.bind ?_ (fun _ => ?_)
  · intro y0 y1 y2
    unfold impl_NameOk.l0
    repeat' first
    | (with_reducible exact ih0 _ _)
    | (with_reducible exact ih1 _ _ _)
    | (with_reducible exact impl_textOk.mono _ _)
    | (with_reducible exact LeO.refl _)
    | (with_reducible exact LeO.none _)
    | (with_reducible refine LeO.ite ?_ ?_)
    | (with_reducible refine LeO.bind ?_ (fun _ => ?_))
    | exact ih0 _ _
    | exact ih1 _ _ _
    | exact impl_textOk.mono _ _
    | exact LeO.none _
    | refine LeO.ite ?_ ?_
    | refine LeO.bind ?_ (fun _ => ?_)
theorem impl_NameOk.mono : ∀ a0 k, LeO (impl_NameOk.f k a0) (impl_NameOk.f (k + 1) a0) := by
 intro a0 k
 obtain ⟨ih0, ih1⟩ := impl_NameOk.mono_l k
 unfold impl_NameOk.f
 repeat' first
  | (with_reducible exact ih0 _ _)
  | (with_reducible exact ih1 _ _ _)
  | (with_reducible exact impl_textOk.mono _ _)
  | (with_reducible exact LeO.refl _)
  | (with_reducible exact LeO.none _)
  | (with_reducible refine LeO.ite ?_ ?_)
  | (with_reducible refine LeO.bind ?_ (fun _ => ?_))
  | exact ih0 _ _
  | exact ih1 _ _ _
  | exact impl_textOk.mono _ _
  | exact LeO.none _
  | refine LeO.ite ?_ ?_
  | refine LeO.bind ?_ (fun _ => ?_)
set_option maxHeartbeats 8000000 in
set_option maxRecDepth 100000 in
theorem impl_NameOk.calls (k : Nat) (a0 : ByteArray) (r : Bool) (w : World) (h : impl_NameOk.f k a0 = some r) :
 Calls Try.prog 84 #[.string a0] w fun e w' => e = .returned (.bool r) ∧ Below w.heap.size w w' := by
 have HB := Aside0.mk (Below.refl w.heap.size w)
 have H : ((impl_inRange.f (a0.size : Int) 1 60).bind fun t101 => (if t101 = true then (if 0 < (a0.size : Int) then (if (bt a0 0) < 97 then (impl_NameOk.j0 k a0 true) else (if (bt a0 0) > 122 then (impl_NameOk.j0 k a0 true) else ((impl_textOk.f k a0).bind fun t102 => (impl_NameOk.j0 k a0 (!t102))))) else (none)) else (impl_NameOk.j0 k a0 true))) = some r := h
 clear h
 have HC2 := Aside0.mk H
 clear H
 go_enter Try.func84, Try.ntmps84
 go_upto_region 1 with (fail)
 go_cut [23] (fun v23 wc => ∃ (kq : Nat) (x23_1 : Bool), v23 = .bool x23_1 ∧ Aside0 (impl_NameOk.j0 kq a0 x23_1 = some r) ∧ Aside0 (kq ≤ k) ∧ Aside0 (Below w.heap.size w wc))
 case first =>
  have H := HC2.out
  clear HC2
  replace H := Option.bind_eq_some_iff.mp H
  obtain ⟨t101, A30, H⟩ := H
  replace H : (if t101 = true then (if 0 < (a0.size : Int) then (if (bt a0 0) < 97 then (impl_NameOk.j0 k a0 true) else (if (bt a0 0) > 122 then (impl_NameOk.j0 k a0 true) else ((impl_textOk.f k a0).bind fun t102 => (impl_NameOk.j0 k a0 (!t102))))) else (none)) else (impl_NameOk.j0 k a0 true)) = some r := H
  have A3 := Aside0.mk A30
  clear A30
  by_cases c4 : t101 = true
  · subst c4
    rw [if_pos rfl] at H
    by_cases c5 : 0 < (a0.size : Int)
    · rw [if_pos c5] at H
      have c5b0 : decide (0 < (a0.size : Int)) = true := decide_eq_true c5
      have c5b1 : decide (0 < a0.size) = true := decide_eq_true (by omega)
      clear c5
      (first | rw [c5b0] | (simp only [i64_w, i32_w]; rw [c5b0]) | skip)
      by_cases c7 : (bt a0 0) < 97
      · rw [if_pos c7] at H
        have c7b0 : decide ((bt a0 0) < 97) = true := decide_eq_true c7
        clear c7
        have H' := Aside0.mk H
        clear H
        go_wp2_with (first | ((with_reducible refine gate_callee (f := 40) rfl ?_); refine goesL_ (some 7) rfl rfl Try.func40 (by kernel_rfl) rfl #[.int .i64 (a0.size : Int), .int .i64 1, .int .i64 60] rfl (by (try simp only [List.map_toArray, List.map_cons, List.map_nil]); first | done | rfl | (simp only [List.length_drop, List.length_take]; rfl)) ?_; (with_reducible refine (impl_inRange.calls (a0.size : Int) 1 60 true _ A3.out).mono ?_); rintro e w' ⟨rfl, ⟨nd, rfl⟩⟩; refine ⟨_, rfl, ?_⟩; have p6 : 0 ≤ (0 : Int) := (by omega); have q6 : 0 < a0.size := (by have : (0 : Int) < (a0.size : Int) := of_decide_eq_true (by assumption); omega); have hx6 : ∀ h : 0 < a0.size, ((a0[0]'h).toNat : Int) = bt a0 0 := bt_at a0 0; clear p6; have qi6 : (0 < (a0.size : Int)) = True := eq_true (of_decide_eq_true (by assumption)); replace q6 := eq_true q6))
        go_meet
        case rel => exact ⟨_, (true), (by first | rfl | (simp; done) | (simp [*]; done)), H', ⟨by first | omega | exact Nat.le_refl _⟩, ⟨by repeat (first | exact HB.out | apply below_alloc | apply pw_below_drewN | apply below_drew1)⟩⟩
      · rw [if_neg c7] at H
        have c7b0 : decide ((bt a0 0) < 97) = false := decide_eq_false c7
        clear c7
        by_cases c9 : (bt a0 0) > 122
        · rw [if_pos c9] at H
          have c9b0 : decide (122 < (bt a0 0)) = true := decide_eq_true c9
          clear c9
          have H' := Aside0.mk H
          clear H
          go_wp2_with (first | ((with_reducible refine gate_callee (f := 40) rfl ?_); refine goesL_ (some 7) rfl rfl Try.func40 (by kernel_rfl) rfl #[.int .i64 (a0.size : Int), .int .i64 1, .int .i64 60] rfl (by (try simp only [List.map_toArray, List.map_cons, List.map_nil]); first | done | rfl | (simp only [List.length_drop, List.length_take]; rfl)) ?_; (with_reducible refine (impl_inRange.calls (a0.size : Int) 1 60 true _ A3.out).mono ?_); rintro e w' ⟨rfl, ⟨nd, rfl⟩⟩; refine ⟨_, rfl, ?_⟩; have p6 : 0 ≤ (0 : Int) := (by omega); have q6 : 0 < a0.size := (by have : (0 : Int) < (a0.size : Int) := of_decide_eq_true (by assumption); omega); have hx6 : ∀ h : 0 < a0.size, ((a0[0]'h).toNat : Int) = bt a0 0 := bt_at a0 0; clear p6; have qi6 : (0 < (a0.size : Int)) = True := eq_true (of_decide_eq_true (by assumption)); replace q6 := eq_true q6; have p8 : 0 ≤ (0 : Int) := (by omega); have q8 : 0 < a0.size := (by have : (0 : Int) < (a0.size : Int) := of_decide_eq_true (by assumption); omega); have hx8 : ∀ h : 0 < a0.size, ((a0[0]'h).toNat : Int) = bt a0 0 := bt_at a0 0; clear p8; have qi8 : (0 < (a0.size : Int)) = True := eq_true (of_decide_eq_true (by assumption)); replace q8 := eq_true q8))
          go_meet
          case rel => exact ⟨_, (true), (by first | rfl | (simp; done) | (simp [*]; done)), H', ⟨by first | omega | exact Nat.le_refl _⟩, ⟨by repeat (first | exact HB.out | apply below_alloc | apply pw_below_drewN | apply below_drew1)⟩⟩
        · rw [if_neg c9] at H
          have c9b0 : decide (122 < (bt a0 0)) = false := decide_eq_false c9
          clear c9
          replace H := Option.bind_eq_some_iff.mp H
          obtain ⟨t102, A100, H⟩ := H
          replace H : (impl_NameOk.j0 k a0 (!t102)) = some r := H
          have A10 := Aside0.mk A100
          clear A100
          have H' := Aside0.mk H
          clear H
          go_wp2_with (first | ((with_reducible refine gate_callee (f := 40) rfl ?_); refine goesL_ (some 7) rfl rfl Try.func40 (by kernel_rfl) rfl #[.int .i64 (a0.size : Int), .int .i64 1, .int .i64 60] rfl (by (try simp only [List.map_toArray, List.map_cons, List.map_nil]); first | done | rfl | (simp only [List.length_drop, List.length_take]; rfl)) ?_; (with_reducible refine (impl_inRange.calls (a0.size : Int) 1 60 true _ A3.out).mono ?_); rintro e w' ⟨rfl, ⟨nd, rfl⟩⟩; refine ⟨_, rfl, ?_⟩; have p6 : 0 ≤ (0 : Int) := (by omega); have q6 : 0 < a0.size := (by have : (0 : Int) < (a0.size : Int) := of_decide_eq_true (by assumption); omega); have hx6 : ∀ h : 0 < a0.size, ((a0[0]'h).toNat : Int) = bt a0 0 := bt_at a0 0; clear p6; have qi6 : (0 < (a0.size : Int)) = True := eq_true (of_decide_eq_true (by assumption)); replace q6 := eq_true q6; have p8 : 0 ≤ (0 : Int) := (by omega); have q8 : 0 < a0.size := (by have : (0 : Int) < (a0.size : Int) := of_decide_eq_true (by assumption); omega); have hx8 : ∀ h : 0 < a0.size, ((a0[0]'h).toNat : Int) = bt a0 0 := bt_at a0 0; clear p8; have qi8 : (0 < (a0.size : Int)) = True := eq_true (of_decide_eq_true (by assumption)); replace q8 := eq_true q8) | (go_at_call 86; (with_reducible refine (impl_textOk.calls k a0 t102 _ A10.out).mono ?_); rintro e w11 ⟨rfl, hb⟩; have n0_ := Aside0.mk (below_step (by repeat (first | exact HB.out | apply below_alloc | apply pw_below_drewN | apply below_drew1)) hb); clear HB; have HB := n0_; clear n0_; (try clear hb); (try clear hb2); (try clear hk); (try clear hi)))
          go_meet
          case rel => exact ⟨_, (!t102), (by first | rfl | (simp; done) | (simp [*]; done)), H', ⟨by first | omega | exact Nat.le_refl _⟩, ⟨by repeat (first | exact HB.out | apply below_alloc | apply pw_below_drewN | apply below_drew1)⟩⟩
    · rw [if_neg c5] at H
      exact absurd H (by simp)
  · replace c4 := Bool.eq_false_iff.mpr c4
    subst c4
    rw [if_neg (show ¬ (false = true) by decide)] at H
    have H' := Aside0.mk H
    clear H
    go_wp2_with (first | ((with_reducible refine gate_callee (f := 40) rfl ?_); refine goesL_ (some 7) rfl rfl Try.func40 (by kernel_rfl) rfl #[.int .i64 (a0.size : Int), .int .i64 1, .int .i64 60] rfl (by (try simp only [List.map_toArray, List.map_cons, List.map_nil]); first | done | rfl | (simp only [List.length_drop, List.length_take]; rfl)) ?_; (with_reducible refine (impl_inRange.calls (a0.size : Int) 1 60 false _ A3.out).mono ?_); rintro e w' ⟨rfl, ⟨nd, rfl⟩⟩; refine ⟨_, rfl, ?_⟩))
    go_meet
    case rel => exact ⟨_, (true), (by first | rfl | (simp; done) | (simp [*]; done)), H', ⟨by first | omega | exact Nat.le_refl _⟩, ⟨by repeat (first | exact HB.out | apply below_alloc | apply pw_below_drewN | apply below_drew1)⟩⟩
 case rest =>
  clear HC2
  try clear p2
  try clear c4
  try clear c5
  try clear c5b0
  try clear c5b1
  try clear p6
  try clear q6
  try clear hx6
  try clear qi6
  try clear c7
  try clear c7b0
  try clear c8
  try clear p8
  try clear q8
  try clear hx8
  try clear qi8
  try clear c9
  try clear c9b0
  try clear p6
  try clear p8
  try clear q6
  try clear q8
  obtain ⟨kq, x23_1, rfl, HA, HJ1, HB⟩ := hcut
  cases kq with
  | zero => exact absurd HA.out (by simp [impl_NameOk.j0])
  | succ kj1 =>
   have H := HA.out
   clear HA
   simp only [impl_NameOk.j0] at H
   by_cases c12 : x23_1 = true
   · subst c12
     rw [if_pos rfl] at H
     obtain rfl := Option.some.inj H
     go_wp2
     go_ret
     exact ⟨by first | rfl | (simp [*] <;> rfl), by repeat (first | exact HB.out | apply below_alloc | apply pw_below_drewN | apply below_drew1)⟩
   · replace c12 := Bool.eq_false_iff.mpr c12
     subst c12
     rw [if_neg (show ¬ (false = true) by decide)] at H
     by_cases c13 : a0.size ≤ 140737488355328
     · rw [if_pos c13] at H
       have c13b0 := eq_true c13
       have c13b1 : decide (a0.size ≤ 140737488355328) = true := decide_eq_true c13
       clear c13
       obtain ⟨y103, hy103⟩ : ∃ y_ : List Int, y_ = (bytesOf a0) := ⟨_, rfl⟩
       replace H : (impl_NameOk.l0 kj1 y103 (y103.length : Int) 0) = some r := by first | (rw [hy103]; with_reducible exact H) | (have H2_ := (Option.bind_some _ _).symm.trans H; rw [hy103]; with_reducible exact H2_) | (have H2_ := (Option.bind_some _ _).symm.trans H; with_reducible exact H2_) | with_reducible exact H | (rw [hy103]; exact H) | exact H
       have Ny103 := Aside0.mk hy103
       clear hy103
       have H' := Aside0.mk H
       clear H
       go_wp2_with (first | ((with_reducible refine gate_dst (N := 25) rfl ?_); refine conv_V _ 5 rfl (N' := 25) rfl 9 52 _ rfl a0 rfl Try.underlying9 Try.underlying52 Try.underlying5 (of_decide_eq_true (by assumption) : a0.size ≤ 140737488355328) (ok := fun k_ => wc.heap.size ≤ k_) (Nat.le_refl _) (Below.refl _ _) (Nat.le_refl _) ?_; intro v104 w14 ho15 hb hg_ hnew_; clear hg_ hnew_; (first | rw [← Ny103.out] at ho15 | (simp only [Int.reduceToNat] at ho15; rw [← Ny103.out] at ho15)); have n0_ := Aside0.mk (Kd.V_lower (Kd.V_mono (ok' := fun k_ => True) ho15 (fun k_ hk_ => trivial)) (below_size (by repeat (first | exact HB.out | apply below_alloc | apply pw_below_drewN | apply below_drew1)))); have n1_ := Aside0.mk (below_step (by repeat (first | exact HB.out | apply below_alloc | apply pw_below_drewN | apply below_drew1)) hb); clear HB; have HO105 := n0_; have HB := n1_; clear n0_ n1_; clear hb ho15; obtain ⟨Ao16, co16, eo16⟩ := Kd.V_slice HO105.out; subst eo16))
       go_loopg [27] kj1 (fun kq v27 w' => ∃ (x27_2 : Int), v27 = .int .i64 x27_2 ∧ Aside0 (impl_NameOk.l0 kq y103 (y103.length : Int) x27_2 = some r) ∧ Aside0 (kq ≤ kj1) ∧ Aside0 (Kd.V (Kd.int .u8) 5 w' w.heap.size (fun _ => True) (.slice Ao16 y103.length co16) y103) ∧ Aside0 (Below w.heap.size w w'))
       case atStart => exact ⟨(0), (by first | rfl | (simp; done) | (simp [*]; done)), H', ⟨Nat.le_refl _⟩, ⟨by (with_reducible repeat (first | apply Kd.V_alloc | apply Kd.V_drewN | apply Kd.V_drew)); exact HO105.out⟩, ⟨by repeat (first | exact HB.out | apply below_alloc | apply pw_below_drewN | apply below_drew1)⟩⟩
       case round =>
        clear H'
        try clear c1
        try clear p2
        try clear c4
        try clear c5
        try clear c5b0
        try clear c5b1
        try clear p6
        try clear q6
        try clear hx6
        try clear qi6
        try clear c7
        try clear c7b0
        try clear c8
        try clear p8
        try clear q8
        try clear hx8
        try clear qi8
        try clear c9
        try clear c9b0
        try clear c12
        try clear c13
        try clear c13b0
        try clear c13b1
        try clear p2
        try clear p6
        try clear p8
        try clear q6
        try clear q8
        obtain ⟨x27_2, rfl, HA, HK2, HO_25, HB⟩ := hrel
        cases gk with
        | zero => exact absurd HA.out (by simp [impl_NameOk.l0])
        | succ k2 =>
         have H := HA.out
         clear HA
         simp only [impl_NameOk.l0] at H
         by_cases c17 : x27_2 < (y103.length : Int)
         · rw [if_pos c17] at H
           have c17b0 : decide (x27_2 < (y103.length : Int)) = true := decide_eq_true c17
           clear c17
           by_cases c18 : 0 ≤ x27_2
           · rw [if_pos c18] at H
             have c18b0 : decide (0 ≤ x27_2) = true := decide_eq_true c18
             clear c18
             by_cases c19 : x27_2 < (y103.length : Int)
             · rw [if_pos c19] at H
               have c19b0 : decide (x27_2 < (y103.length : Int)) = true := decide_eq_true c19
               clear c19
               replace H := Option.bind_eq_some_iff.mp H
               obtain ⟨t107, A200, H⟩ := H
               replace H : (if t107 = true then (some false) else (impl_NameOk.l0 k2 y103 (y103.length : Int) (wrap64 (x27_2 + 1)))) = some r := H
               have A20 := Aside0.mk A200
               clear A200
               by_cases c21 : t107 = true
               · subst c21
                 rw [if_pos rfl] at H
                 obtain rfl := Option.some.inj H
                 have p106 : 0 ≤ (x27_2 : Int) := of_decide_eq_true (by assumption)
                 have q106 : x27_2 < (y103.length : Int) := of_decide_eq_true (by assumption)
                 obtain ⟨ad106, e106, hx106_0⟩ := Kd.at_int (Kd.V_reads' HO_25.out).2.2 x27_2 p106 q106
                 cases e106
                 replace p106 := eq_true p106
                 replace q106 := eq_true q106
                 go_wp2_with (first | ((with_reducible refine gate_callee (f := 110) rfl ?_); refine goesL_ (some 33) rfl rfl Try.func110 (by kernel_rfl) rfl #[.int .i64 (wrap64 (rd y103 x27_2))] rfl (by (try simp only [List.map_toArray, List.map_cons, List.map_nil]); first | done | rfl | (simp only [List.length_drop, List.length_take]; rfl)) ?_; (with_reducible refine (impl_isOuter.calls (wrap64 (rd y103 x27_2)) true _ A20.out).mono ?_); rintro e w' ⟨rfl, ⟨nd, rfl⟩⟩; refine ⟨_, rfl, ?_⟩))
                 go_ret
                 exact ⟨by first | rfl | (simp [*] <;> rfl), by repeat (first | exact HB.out | apply below_alloc | apply pw_below_drewN | apply below_drew1)⟩
               · replace c21 := Bool.eq_false_iff.mpr c21
                 subst c21
                 rw [if_neg (show ¬ (false = true) by decide)] at H
                 have H' := Aside0.mk H
                 clear H
                 have p106 : 0 ≤ (x27_2 : Int) := of_decide_eq_true (by assumption)
                 have q106 : x27_2 < (y103.length : Int) := of_decide_eq_true (by assumption)
                 obtain ⟨ad106, e106, hx106_0⟩ := Kd.at_int (Kd.V_reads' HO_25.out).2.2 x27_2 p106 q106
                 cases e106
                 replace p106 := eq_true p106
                 replace q106 := eq_true q106
                 go_wp2_with (first | ((with_reducible refine gate_callee (f := 110) rfl ?_); refine goesL_ (some 33) rfl rfl Try.func110 (by kernel_rfl) rfl #[.int .i64 (wrap64 (rd y103 x27_2))] rfl (by (try simp only [List.map_toArray, List.map_cons, List.map_nil]); first | done | rfl | (simp only [List.length_drop, List.length_take]; rfl)) ?_; (with_reducible refine (impl_isOuter.calls (wrap64 (rd y103 x27_2)) false _ A20.out).mono ?_); rintro e w' ⟨rfl, ⟨nd, rfl⟩⟩; refine ⟨_, rfl, ?_⟩))
                 go_roundg k2
                 case measure => have := HJ1.out; have := HK2.out; omega
                 case rel => exact ⟨(wrap64 (x27_2 + 1)), (by first | rfl | (simp; done) | (simp [*]; done)), H', ⟨by have := HJ1.out; have := HK2.out; omega⟩, ⟨by (with_reducible repeat (first | apply Kd.V_alloc | apply Kd.V_drewN | apply Kd.V_drew)); exact HO_25.out⟩, ⟨by repeat (first | exact HB.out | apply below_alloc | apply pw_below_drewN | apply below_drew1)⟩⟩
             · rw [if_neg c19] at H
               exact absurd H (by simp)
           · rw [if_neg c18] at H
             exact absurd H (by simp)
         · rw [if_neg c17] at H
           have c17b0 : decide (x27_2 < (y103.length : Int)) = false := decide_eq_false c17
           clear c17
           obtain rfl := Option.some.inj H
           go_wp2
           go_ret
           exact ⟨by first | rfl | (simp [*] <;> rfl), by repeat (first | exact HB.out | apply below_alloc | apply pw_below_drewN | apply below_drew1)⟩
     · rw [if_neg c13] at H
       exact absurd H (by simp)
def impl_attrAt.l0 : Nat → List (S98) → ByteArray → Int → Option (Int)
 | 0, _, _, _ => none
 | k + 1, x0, x1, x6 => if x6 < (x0.length : Int) then (if 0 ≤ x6 then (if ((rd_T98 x0 x6).f0).toList = x1.toList then (some x6) else (impl_attrAt.l0 k x0 x1 (wrap64 (x6 + 1)))) else (none)) else (some (-1))
def impl_attrAt.f (k : Nat) (l0 : List (S98)) (a1 : ByteArray) : Option (Int) := impl_attrAt.l0 k l0 a1 0
theorem impl_attrAt.mono_l : ∀ k, (∀ y0 y1 y2, LeO (impl_attrAt.l0 k y0 y1 y2) (impl_attrAt.l0 (k + 1) y0 y1 y2))
 | 0 => fun _ _ _ r h => by simp [impl_attrAt.l0] at h
 | k + 1 => by
  have ih0 := impl_attrAt.mono_l k
  · intro y0 y1 y2
    unfold impl_attrAt.l0
    repeat' first
    | (with_reducible exact ih0 _ _ _)
    | (with_reducible exact LeO.refl _)
    | (with_reducible exact LeO.none _)
    | (with_reducible refine LeO.ite ?_ ?_)
    | exact ih0 _ _ _
    | exact LeO.none _
    | refine LeO.ite ?_ ?_
theorem impl_attrAt.mono : ∀ a0 a1 k, LeO (impl_attrAt.f k a0 a1) (impl_attrAt.f (k + 1) a0 a1) := fun a0 a1 k => impl_attrAt.mono_l k a0 a1 0
set_option maxHeartbeats 8000000 in
set_option maxRecDepth 100000 in
/-- The function value: is it this name. -/
theorem impl_attrAt.one (x : S98) (s : ByteArray) (B : Nat) (W : World) (hB : B < W.heap.size) (hc : W.cell? ⟨B, 0, none⟩ = some (.string s)) :
 Calls Try.prog 128 #[.agg #[.string x.f0, .string x.f1], .pointer (some ⟨B, 0, none⟩)] W fun e w' => e = .returned (.bool (x.f0.toList == s.toList)) ∧ Below W.heap.size W w' := by
 have hne : B ≠ W.heap.size := by omega
 go_enter Try.func128, Try.ntmps128
 go_wp2
 go_ret
 exact ⟨by first | rfl | (simp; done) | (simp [*]; done), (Below.refl _ _).alloc (Nat.le_refl _) _⟩
set_option maxHeartbeats 8000000 in
set_option maxRecDepth 100000 in
/-- The library's search, with that function value. -/
theorem impl_attrAt.search (k : Nat) (A0 : Option Addr) (c0 : Nat) (l0 : List (S98)) (a1 : ByteArray) (B : Nat) (r : Int) (w : World) (hr0 : Kd.C k98 w A0 l0.length l0) (hc0 : l0.length ≤ c0) (hB : B < w.heap.size) (hc : w.cell? ⟨B, 0, none⟩ = some (.string a1)) (h : impl_attrAt.l0 k l0 a1 0 = some r) :
 Calls Try.prog 127 #[.slice A0 l0.length c0, .func (.func 128) #[] #[.pointer (some ⟨B, 0, none⟩)]] w fun e w' => e = .returned (.int .i64 r) ∧ Below w.heap.size w w' := by
 have HR0 := Aside0.mk hr0
 have HC0 := Aside0.mk hc0
 clear hr0 hc0
 have HBs := Aside0.mk hB
 have HCc := Aside0.mk hc
 clear hB hc
 have HB := Aside0.mk (Below.refl w.heap.size w)
 have H' := Aside0.mk h
 clear h
 have eg : ∀ args w, (callFunc 128 args).run Try.prog w = .ok (.enter 128 args) w := Go.Proofs.enters_of Try.func128 (by kernel_rfl) rfl
 go_enter Try.func127, Try.ntmps127
 go_wp2
 go_loopg [8] k (fun kq v8 w' => ∃ (x8_1 : Int), v8 = .int .i64 x8_1 ∧ Aside0 (impl_attrAt.l0 kq l0 a1 x8_1 = some r) ∧ Aside0 (kq ≤ k) ∧ Aside0 (Below w.heap.size w w'))
 case atStart => exact ⟨(0), (by first | rfl | (simp; done) | (simp [*]; done)), H', ⟨Nat.le_refl _⟩, HB⟩
 case round =>
  clear H'
  obtain ⟨x8_1, rfl, HA, HK1, HB⟩ := hrel
  cases gk with
  | zero => exact absurd HA.out (by simp [impl_attrAt.l0])
  | succ k1 =>
   have H := HA.out
   clear HA
   simp only [impl_attrAt.l0] at H
   by_cases c3 : x8_1 < (l0.length : Int)
   · rw [if_pos c3] at H
     have c3b0 : decide (x8_1 < (l0.length : Int)) = true := decide_eq_true c3
     by_cases c4 : 0 ≤ x8_1
     · rw [if_pos c4] at H
       have c4b0 : decide (0 ≤ x8_1) = true := decide_eq_true c4
       obtain ⟨ad, e_, hx_0, hx_1⟩ := at_T98 (Kd.C_below HR0.out HB.out) x8_1 c4 c3
       cases e_
       have hb8 := Aside0.mk (impl_attrAt.one (rd_T98 l0 x8_1) a1 B wr (Nat.lt_of_lt_of_le HBs.out HB.out.size) ((HB.out.cell (p := ⟨B, 0, none⟩) HBs.out).trans HCc.out))
       have p3 := eq_true c4
       have q3 := eq_true c3
       clear c3 c4
       by_cases c5 : ((rd_T98 l0 x8_1).f0).toList = a1.toList
       · rw [if_pos c5] at H
         have c5b0 : (((rd_T98 l0 x8_1).f0).toList == a1.toList) = true := beq_iff_eq.mpr c5
         clear c5
         obtain rfl := Option.some.inj H
         have hb9 := Aside0.mk (show Calls Try.prog 128 #[.agg #[.string (rd_T98 l0 x8_1).f0, .string (rd_T98 l0 x8_1).f1], .pointer (some ⟨B, 0, none⟩)] wr fun e w' => e = .returned (.bool true) ∧ Below wr.heap.size wr w' from by rw [← c5b0]; exact hb8.out)
         go_wp2_with (go_at_fn 128; refine hb9.out.mono ?_; rintro e w' ⟨rfl, hb'⟩; have n_ := Aside0.mk (below_step HB.out hb'); clear HB hb'; have HB := n_; clear n_)
         go_ret
         exact ⟨by first | rfl | (simp; done) | (simp [*]; done), HB.out⟩
       · rw [if_neg c5] at H
         have c5b0 : (((rd_T98 l0 x8_1).f0).toList == a1.toList) = false := beq_eq_false_iff_ne.mpr c5
         clear c5
         have H' := Aside0.mk H
         clear H
         have hb9 := Aside0.mk (show Calls Try.prog 128 #[.agg #[.string (rd_T98 l0 x8_1).f0, .string (rd_T98 l0 x8_1).f1], .pointer (some ⟨B, 0, none⟩)] wr fun e w' => e = .returned (.bool false) ∧ Below wr.heap.size wr w' from by rw [← c5b0]; exact hb8.out)
         go_wp2_with (go_at_fn 128; refine hb9.out.mono ?_; rintro e w' ⟨rfl, hb'⟩; have n_ := Aside0.mk (below_step HB.out hb'); clear HB hb'; have HB := n_; clear n_)
         go_roundg k1
         case measure => have := HK1.out; omega
         case rel => exact ⟨(wrap64 (x8_1 + 1)), (by first | rfl | (simp; done) | (simp [*]; done)), H', ⟨by have := HK1.out; omega⟩, HB⟩
     · rw [if_neg c4] at H
       exact absurd H (by simp)
   · rw [if_neg c3] at H
     have c3b0 : decide (x8_1 < (l0.length : Int)) = false := decide_eq_false c3
     clear c3
     obtain rfl := Option.some.inj H
     go_wp2
     go_ret
     exact ⟨by first | rfl | (simp; done) | (simp [*]; done), HB.out⟩
set_option maxHeartbeats 8000000 in
set_option maxRecDepth 100000 in
theorem impl_attrAt.calls (k : Nat) (A0 : Option Addr) (c0 : Nat) (l0 : List (S98)) (a1 : ByteArray) (r : Int) (w : World) (hr0 : Kd.C k98 w A0 l0.length l0) (hc0 : l0.length ≤ c0) (h : impl_attrAt.f k l0 a1 = some r) :
 Calls Try.prog 111 #[.slice A0 l0.length c0, .string a1] w fun e w' => e = .returned (.int .i64 r) ∧ Below w.heap.size w w' := by
 have C8 := Aside0.mk (impl_attrAt.search k A0 c0 l0 a1 w.heap.size r (w.alloc (.cells #[.string a1] 9)) (Kd.C_alloc hr0 _) hc0 (by simp) (by simp) h)
 clear hr0 hc0 h
 go_enter Try.func111, Try.ntmps111
 go_wp2_with (go_at_call 127; refine C8.out.mono ?_; rintro e w' ⟨rfl, hb'⟩)
 go_ret
 exact ⟨rfl, below_step ((Below.refl _ w).alloc (Nat.le_refl _) _) hb'⟩
def impl_attrOk.f (k : Nat) (a0_0 : ByteArray) (a0_1 : ByteArray) : Option (Bool) := (impl_inRange.f (a0_0.size : Int) 1 60).bind fun t102 => (if t102 = true then (if (a0_1.size : Int) ≤ 3000 then ((impl_textOk.f k a0_0).bind fun t103 => (if t103 = true then ((impl_textOk.f k a0_1).bind fun t104 => (some t104)) else (some false))) else (some false)) else (some false))
theorem impl_attrOk.mono : ∀ a0 a1 k, LeO (impl_attrOk.f k a0 a1) (impl_attrOk.f (k + 1) a0 a1) := by
 intro a0 a1 k
 unfold impl_attrOk.f
 repeat' first
  | (with_reducible exact impl_textOk.mono _ _)
  | (with_reducible exact LeO.refl _)
  | (with_reducible exact LeO.none _)
  | (with_reducible refine LeO.ite ?_ ?_)
  | (with_reducible refine LeO.bind ?_ (fun _ => ?_))
  | exact impl_textOk.mono _ _
  | exact LeO.none _
  | refine LeO.ite ?_ ?_
  | refine LeO.bind ?_ (fun _ => ?_)
set_option maxHeartbeats 8000000 in
set_option maxRecDepth 100000 in
theorem impl_attrOk.calls (k : Nat) (a0_0 : ByteArray) (a0_1 : ByteArray) (r : Bool) (w : World) (h : impl_attrOk.f k a0_0 a0_1 = some r) :
 Calls Try.prog 112 #[.agg #[.string a0_0, .string a0_1]] w fun e w' => e = .returned (.bool r) ∧ Below w.heap.size w w' := by
 have hu98 := Try.underlying98
 have HB := Aside0.mk (Below.refl w.heap.size w)
 have H : ((impl_inRange.f (a0_0.size : Int) 1 60).bind fun t102 => (if t102 = true then (if (a0_1.size : Int) ≤ 3000 then ((impl_textOk.f k a0_0).bind fun t103 => (if t103 = true then ((impl_textOk.f k a0_1).bind fun t104 => (some t104)) else (some false))) else (some false)) else (some false))) = some r := h
 clear h
 replace H := Option.bind_eq_some_iff.mp H
 obtain ⟨t102, A20, H⟩ := H
 replace H : (if t102 = true then (if (a0_1.size : Int) ≤ 3000 then ((impl_textOk.f k a0_0).bind fun t103 => (if t103 = true then ((impl_textOk.f k a0_1).bind fun t104 => (some t104)) else (some false))) else (some false)) else (some false)) = some r := H
 have A2 := Aside0.mk A20
 clear A20
 by_cases c3 : t102 = true
 · subst c3
   rw [if_pos rfl] at H
   by_cases c4 : (a0_1.size : Int) ≤ 3000
   · rw [if_pos c4] at H
     have c4b0 : decide ((a0_1.size : Int) ≤ 3000) = true := decide_eq_true c4
     have c4b1 : decide (a0_1.size ≤ 3000) = true := decide_eq_true (by omega)
     clear c4
     replace H := Option.bind_eq_some_iff.mp H
     obtain ⟨t103, A50, H⟩ := H
     replace H : (if t103 = true then ((impl_textOk.f k a0_1).bind fun t104 => (some t104)) else (some false)) = some r := H
     have A5 := Aside0.mk A50
     clear A50
     by_cases c6 : t103 = true
     · subst c6
       rw [if_pos rfl] at H
       replace H := Option.bind_eq_some_iff.mp H
       obtain ⟨t104, A70, H⟩ := H
       replace H : (some t104) = some r := H
       have A7 := Aside0.mk A70
       clear A70
       obtain rfl := Option.some.inj H
       go_enter Try.func112, Try.ntmps112
       go_wp2_with (first | ((with_reducible refine gate_dst (N := 1) rfl ?_); (try (refine gate_guard (by rfl) ?_; dsimp only)); refine box_event ?hg (N := 1) ?hd (cs := #[.string a0_0, .string a0_1]) (t := 98) ?hr ?_; (case hd => rfl); (case hg => rfl); (case hr => first | (go_simp; done) | (go_simp; rfl)); intro gb101 hg w8 hbox hb; have n0_ := Aside0.mk (below_step (by repeat (first | exact HB.out | apply below_alloc | apply pw_below_drewN | apply below_drew1)) hb); have n1_ := Aside0.mk (hbox); have n2_ := Aside0.mk ((by rw [hg]; exact (below_size (by repeat (first | exact HB.out | apply below_alloc | apply pw_below_drewN | apply below_drew1))) : w.heap.size ≤ gb101)); have n3_ := n2_; clear HB; have HB := n0_; have BK101 := n1_; have GW101 := n2_; have GE101 := n3_; clear n0_ n1_ n2_ n3_; clear hb hbox hg; have hcz9_0 := blk_cell BK101.out 0; have hcz9_1 := blk_cell BK101.out 1; have hfz9_0 := blk_frozen BK101.out 0; have hfz9_1 := blk_frozen BK101.out 1) | ((with_reducible refine gate_callee (f := 40) rfl ?_); refine goesL_ (some 6) rfl rfl Try.func40 (by kernel_rfl) rfl #[.int .i64 (a0_0.size : Int), .int .i64 1, .int .i64 60] rfl (by (try simp only [List.map_toArray, List.map_cons, List.map_nil]); first | done | rfl | (simp only [List.length_drop, List.length_take]; rfl)) ?_; (with_reducible refine (impl_inRange.calls (a0_0.size : Int) 1 60 true _ A2.out).mono ?_); rintro e w' ⟨rfl, ⟨nd, rfl⟩⟩; refine ⟨_, rfl, ?_⟩) | (go_at_call 86; (with_reducible refine (impl_textOk.calls k a0_0 true _ A5.out).mono ?_); rintro e w10 ⟨rfl, hb⟩; have n0_ := Aside0.mk (blk_below (g := gb101) (o := .cells #[.string a0_0, .string a0_1] 98 (0, 0)) (by (with_reducible repeat (first | refine blk_drewN ?_ _ | refine blk_drew ?_ | refine blk_alloc ?_ _)); exact BK101.out) hb); have n1_ := Aside0.mk (below_step (by repeat (first | exact HB.out | apply below_alloc | apply pw_below_drewN | apply below_drew1 | refine below_set ?_ GE101.out)) hb); clear BK101; clear HB; have BK101 := n0_; have HB := n1_; clear n0_ n1_; (try clear hb); (try clear hb2); (try clear hk); (try clear hi); have hcz11_0 := blk_cell BK101.out 0; have hcz11_1 := blk_cell BK101.out 1; have hfz11_0 := blk_frozen BK101.out 0; have hfz11_1 := blk_frozen BK101.out 1) | (go_at_call 86; (with_reducible refine (impl_textOk.calls k a0_1 t104 _ A7.out).mono ?_); rintro e w12 ⟨rfl, hb⟩; have n0_ := Aside0.mk (blk_below (g := gb101) (o := .cells #[.string a0_0, .string a0_1] 98 (0, 0)) (by (with_reducible repeat (first | refine blk_drewN ?_ _ | refine blk_drew ?_ | refine blk_alloc ?_ _)); exact BK101.out) hb); have n1_ := Aside0.mk (below_step (by repeat (first | exact HB.out | apply below_alloc | apply pw_below_drewN | apply below_drew1 | refine below_set ?_ GE101.out)) hb); clear BK101; clear HB; have BK101 := n0_; have HB := n1_; clear n0_ n1_; (try clear hb); (try clear hb2); (try clear hk); (try clear hi)))
       go_ret
       exact ⟨by first | rfl | (simp [*] <;> rfl), by repeat (first | exact HB.out | apply below_alloc | apply pw_below_drewN | apply below_drew1 | refine below_set ?_ GE101.out)⟩
     · replace c6 := Bool.eq_false_iff.mpr c6
       subst c6
       rw [if_neg (show ¬ (false = true) by decide)] at H
       obtain rfl := Option.some.inj H
       go_enter Try.func112, Try.ntmps112
       go_wp2_with (first | ((with_reducible refine gate_dst (N := 1) rfl ?_); (try (refine gate_guard (by rfl) ?_; dsimp only)); refine box_event ?hg (N := 1) ?hd (cs := #[.string a0_0, .string a0_1]) (t := 98) ?hr ?_; (case hd => rfl); (case hg => rfl); (case hr => first | (go_simp; done) | (go_simp; rfl)); intro gb101 hg w13 hbox hb; have n0_ := Aside0.mk (below_step (by repeat (first | exact HB.out | apply below_alloc | apply pw_below_drewN | apply below_drew1)) hb); have n1_ := Aside0.mk (hbox); have n2_ := Aside0.mk ((by rw [hg]; exact (below_size (by repeat (first | exact HB.out | apply below_alloc | apply pw_below_drewN | apply below_drew1))) : w.heap.size ≤ gb101)); have n3_ := n2_; clear HB; have HB := n0_; have BK101 := n1_; have GW101 := n2_; have GE101 := n3_; clear n0_ n1_ n2_ n3_; clear hb hbox hg; have hcz14_0 := blk_cell BK101.out 0; have hcz14_1 := blk_cell BK101.out 1; have hfz14_0 := blk_frozen BK101.out 0; have hfz14_1 := blk_frozen BK101.out 1) | ((with_reducible refine gate_callee (f := 40) rfl ?_); refine goesL_ (some 6) rfl rfl Try.func40 (by kernel_rfl) rfl #[.int .i64 (a0_0.size : Int), .int .i64 1, .int .i64 60] rfl (by (try simp only [List.map_toArray, List.map_cons, List.map_nil]); first | done | rfl | (simp only [List.length_drop, List.length_take]; rfl)) ?_; (with_reducible refine (impl_inRange.calls (a0_0.size : Int) 1 60 true _ A2.out).mono ?_); rintro e w' ⟨rfl, ⟨nd, rfl⟩⟩; refine ⟨_, rfl, ?_⟩) | (go_at_call 86; (with_reducible refine (impl_textOk.calls k a0_0 false _ A5.out).mono ?_); rintro e w15 ⟨rfl, hb⟩; have n0_ := Aside0.mk (blk_below (g := gb101) (o := .cells #[.string a0_0, .string a0_1] 98 (0, 0)) (by (with_reducible repeat (first | refine blk_drewN ?_ _ | refine blk_drew ?_ | refine blk_alloc ?_ _)); exact BK101.out) hb); have n1_ := Aside0.mk (below_step (by repeat (first | exact HB.out | apply below_alloc | apply pw_below_drewN | apply below_drew1 | refine below_set ?_ GE101.out)) hb); clear BK101; clear HB; have BK101 := n0_; have HB := n1_; clear n0_ n1_; (try clear hb); (try clear hb2); (try clear hk); (try clear hi)))
       go_ret
       exact ⟨by first | rfl | (simp [*] <;> rfl), by repeat (first | exact HB.out | apply below_alloc | apply pw_below_drewN | apply below_drew1 | refine below_set ?_ GE101.out)⟩
   · rw [if_neg c4] at H
     have c4b0 : decide ((a0_1.size : Int) ≤ 3000) = false := decide_eq_false c4
     have c4b1 : decide (a0_1.size ≤ 3000) = false := decide_eq_false (by omega)
     clear c4
     obtain rfl := Option.some.inj H
     go_enter Try.func112, Try.ntmps112
     go_wp2_with (first | ((with_reducible refine gate_dst (N := 1) rfl ?_); (try (refine gate_guard (by rfl) ?_; dsimp only)); refine box_event ?hg (N := 1) ?hd (cs := #[.string a0_0, .string a0_1]) (t := 98) ?hr ?_; (case hd => rfl); (case hg => rfl); (case hr => first | (go_simp; done) | (go_simp; rfl)); intro gb101 hg w16 hbox hb; have n0_ := Aside0.mk (below_step (by repeat (first | exact HB.out | apply below_alloc | apply pw_below_drewN | apply below_drew1)) hb); have n1_ := Aside0.mk (hbox); have n2_ := Aside0.mk ((by rw [hg]; exact (below_size (by repeat (first | exact HB.out | apply below_alloc | apply pw_below_drewN | apply below_drew1))) : w.heap.size ≤ gb101)); have n3_ := n2_; clear HB; have HB := n0_; have BK101 := n1_; have GW101 := n2_; have GE101 := n3_; clear n0_ n1_ n2_ n3_; clear hb hbox hg; have hcz17_0 := blk_cell BK101.out 0; have hcz17_1 := blk_cell BK101.out 1; have hfz17_0 := blk_frozen BK101.out 0; have hfz17_1 := blk_frozen BK101.out 1) | ((with_reducible refine gate_callee (f := 40) rfl ?_); refine goesL_ (some 6) rfl rfl Try.func40 (by kernel_rfl) rfl #[.int .i64 (a0_0.size : Int), .int .i64 1, .int .i64 60] rfl (by (try simp only [List.map_toArray, List.map_cons, List.map_nil]); first | done | rfl | (simp only [List.length_drop, List.length_take]; rfl)) ?_; (with_reducible refine (impl_inRange.calls (a0_0.size : Int) 1 60 true _ A2.out).mono ?_); rintro e w' ⟨rfl, ⟨nd, rfl⟩⟩; refine ⟨_, rfl, ?_⟩))
     go_ret
     exact ⟨by first | rfl | (simp [*] <;> rfl), by repeat (first | exact HB.out | apply below_alloc | apply pw_below_drewN | apply below_drew1 | refine below_set ?_ GE101.out)⟩
 · replace c3 := Bool.eq_false_iff.mpr c3
   subst c3
   rw [if_neg (show ¬ (false = true) by decide)] at H
   obtain rfl := Option.some.inj H
   go_enter Try.func112, Try.ntmps112
   go_wp2_with (first | ((with_reducible refine gate_dst (N := 1) rfl ?_); (try (refine gate_guard (by rfl) ?_; dsimp only)); refine box_event ?hg (N := 1) ?hd (cs := #[.string a0_0, .string a0_1]) (t := 98) ?hr ?_; (case hd => rfl); (case hg => rfl); (case hr => first | (go_simp; done) | (go_simp; rfl)); intro gb101 hg w18 hbox hb; have n0_ := Aside0.mk (below_step (by repeat (first | exact HB.out | apply below_alloc | apply pw_below_drewN | apply below_drew1)) hb); have n1_ := Aside0.mk (hbox); have n2_ := Aside0.mk ((by rw [hg]; exact (below_size (by repeat (first | exact HB.out | apply below_alloc | apply pw_below_drewN | apply below_drew1))) : w.heap.size ≤ gb101)); have n3_ := n2_; clear HB; have HB := n0_; have BK101 := n1_; have GW101 := n2_; have GE101 := n3_; clear n0_ n1_ n2_ n3_; clear hb hbox hg; have hcz19_0 := blk_cell BK101.out 0; have hcz19_1 := blk_cell BK101.out 1; have hfz19_0 := blk_frozen BK101.out 0; have hfz19_1 := blk_frozen BK101.out 1) | ((with_reducible refine gate_callee (f := 40) rfl ?_); refine goesL_ (some 6) rfl rfl Try.func40 (by kernel_rfl) rfl #[.int .i64 (a0_0.size : Int), .int .i64 1, .int .i64 60] rfl (by (try simp only [List.map_toArray, List.map_cons, List.map_nil]); first | done | rfl | (simp only [List.length_drop, List.length_take]; rfl)) ?_; (with_reducible refine (impl_inRange.calls (a0_0.size : Int) 1 60 false _ A2.out).mono ?_); rintro e w' ⟨rfl, ⟨nd, rfl⟩⟩; refine ⟨_, rfl, ?_⟩))
   go_ret
   exact ⟨by first | rfl | (simp [*] <;> rfl), by repeat (first | exact HB.out | apply below_alloc | apply pw_below_drewN | apply below_drew1 | refine below_set ?_ GE101.out)⟩
def impl_AttrsOk.l0 : Nat → List (S98) → List (S98) → Int → Int → Option (Bool)
 | 0, _, _, _, _ => none
 | k + 1, x0, x8, x9, x10 => if x10 < x9 then (if 0 ≤ x10 then (if x10 < (x8.length : Int) then ((impl_attrAt.f k x0 ((rd_T98 x8 x10).f0)).bind fun t103 => (if t103 = x10 then ((impl_attrOk.f k ((rd_T98 x8 x10).f0) ((rd_T98 x8 x10).f1)).bind fun t104 => (if t104 = true then (impl_AttrsOk.l0 k x0 x8 x9 (wrap64 (x10 + 1))) else (some false))) else (some false))) else (none)) else (none)) else (some true)
def impl_AttrsOk.f (k : Nat) (l0 : List (S98)) : Option (Bool) := if (l0.length : Int) > 20 then (some false) else (impl_AttrsOk.l0 k l0 l0 (l0.length : Int) 0)
theorem impl_AttrsOk.mono_l : ∀ k, (∀ y0 y1 y2 y3, LeO (impl_AttrsOk.l0 k y0 y1 y2 y3) (impl_AttrsOk.l0 (k + 1) y0 y1 y2 y3))
 | 0 => fun _ _ _ _ r h => by simp [impl_AttrsOk.l0] at h
 | k + 1 => by
  have ih0 := impl_AttrsOk.mono_l k
  · intro y0 y1 y2 y3
    unfold impl_AttrsOk.l0
    repeat' first
    | (with_reducible exact ih0 _ _ _ _)
    | (with_reducible exact impl_attrAt.mono _ _ _)
    | (with_reducible exact impl_attrOk.mono _ _ _)
    | (with_reducible exact LeO.refl _)
    | (with_reducible exact LeO.none _)
    | (with_reducible refine LeO.ite ?_ ?_)
    | (with_reducible refine LeO.bind ?_ (fun _ => ?_))
    | exact ih0 _ _ _ _
    | exact impl_attrAt.mono _ _ _
    | exact impl_attrOk.mono _ _ _
    | exact LeO.none _
    | refine LeO.ite ?_ ?_
    | refine LeO.bind ?_ (fun _ => ?_)
theorem impl_AttrsOk.mono : ∀ a0 k, LeO (impl_AttrsOk.f k a0) (impl_AttrsOk.f (k + 1) a0) := by
 intro a0 k
 have ih0 := impl_AttrsOk.mono_l k
 unfold impl_AttrsOk.f
 repeat' first
  | (with_reducible exact ih0 _ _ _ _)
  | (with_reducible exact impl_attrAt.mono _ _ _)
  | (with_reducible exact impl_attrOk.mono _ _ _)
  | (with_reducible exact LeO.refl _)
  | (with_reducible exact LeO.none _)
  | (with_reducible refine LeO.ite ?_ ?_)
  | (with_reducible refine LeO.bind ?_ (fun _ => ?_))
  | exact ih0 _ _ _ _
  | exact impl_attrAt.mono _ _ _
  | exact impl_attrOk.mono _ _ _
  | exact LeO.none _
  | refine LeO.ite ?_ ?_
  | refine LeO.bind ?_ (fun _ => ?_)
set_option maxHeartbeats 8000000 in
set_option maxRecDepth 100000 in
theorem impl_AttrsOk.calls (k : Nat) (A0 : Option Addr) (c0 : Nat) (l0 : List (S98)) (r : Bool) (w : World) (hr0 : Kd.C k98 w A0 l0.length l0) (hc0 : l0.length ≤ c0) (h : impl_AttrsOk.f k l0 = some r) :
 Calls Try.prog 85 #[.slice A0 l0.length c0] w fun e w' => e = .returned (.bool r) ∧ Below w.heap.size w w' := by
 have hu98 := Try.underlying98
 have HR0 := Aside0.mk hr0
 have HC0 := Aside0.mk hc0
 clear hr0 hc0
 have HB := Aside0.mk (Below.refl w.heap.size w)
 have H : (if (l0.length : Int) > 20 then (some false) else (impl_AttrsOk.l0 k l0 l0 (l0.length : Int) 0)) = some r := h
 clear h
 by_cases c2 : (l0.length : Int) > 20
 · rw [if_pos c2] at H
   have c2b0 : decide (20 < (l0.length : Int)) = true := decide_eq_true c2
   have c2b1 : decide (20 < l0.length) = true := decide_eq_true (by omega)
   clear c2
   obtain rfl := Option.some.inj H
   go_enter Try.func85, Try.ntmps85
   go_wp2
   go_ret
   exact ⟨by first | rfl | (simp [*] <;> rfl), by repeat (first | exact HB.out | apply below_alloc | apply pw_below_drewN | apply below_drew1)⟩
 · rw [if_neg c2] at H
   have c2b0 : decide (20 < (l0.length : Int)) = false := decide_eq_false c2
   have c2b1 : decide (20 < l0.length) = false := decide_eq_false (by omega)
   clear c2
   have H' := Aside0.mk H
   clear H
   go_enter Try.func85, Try.ntmps85
   go_wp2
   go_loopg [10] k (fun kq v10 w' => ∃ (x10_1 : Int), v10 = .int .i64 x10_1 ∧ Aside0 (impl_AttrsOk.l0 kq l0 l0 (l0.length : Int) x10_1 = some r) ∧ Aside0 (kq ≤ k) ∧ Aside0 (Below w.heap.size w w'))
   case atStart => exact ⟨(0), (by first | rfl | (simp; done) | (simp [*]; done)), H', ⟨Nat.le_refl _⟩, ⟨by repeat (first | exact HB.out | apply below_alloc | apply pw_below_drewN | apply below_drew1)⟩⟩
   case round =>
    clear H'
    try clear c2
    try clear c2b0
    try clear c2b1
    try clear p2
    obtain ⟨x10_1, rfl, HA, HK1, HB⟩ := hrel
    cases gk with
    | zero => exact absurd HA.out (by simp [impl_AttrsOk.l0])
    | succ k1 =>
     have H := HA.out
     clear HA
     simp only [impl_AttrsOk.l0] at H
     by_cases c3 : x10_1 < (l0.length : Int)
     · rw [if_pos c3] at H
       have c3b0 : decide (x10_1 < (l0.length : Int)) = true := decide_eq_true c3
       clear c3
       by_cases c4 : 0 ≤ x10_1
       · rw [if_pos c4] at H
         have c4b0 : decide (0 ≤ x10_1) = true := decide_eq_true c4
         clear c4
         by_cases c5 : x10_1 < (l0.length : Int)
         · rw [if_pos c5] at H
           have c5b0 : decide (x10_1 < (l0.length : Int)) = true := decide_eq_true c5
           clear c5
           replace H := Option.bind_eq_some_iff.mp H
           obtain ⟨t103, A60, H⟩ := H
           replace H : (if t103 = x10_1 then ((impl_attrOk.f k1 ((rd_T98 l0 x10_1).f0) ((rd_T98 l0 x10_1).f1)).bind fun t104 => (if t104 = true then (impl_AttrsOk.l0 k1 l0 l0 (l0.length : Int) (wrap64 (x10_1 + 1))) else (some false))) else (some false)) = some r := H
           have A6 := Aside0.mk A60
           clear A60
           by_cases c7 : t103 = x10_1
           · rw [if_pos c7] at H
             have c7b0 : (t103 == x10_1) = true := beq_iff_eq.mpr c7
             have c7b1 : (t103 != x10_1) = false := bne_eq_false_iff_eq.mpr c7
             clear c7
             replace H := Option.bind_eq_some_iff.mp H
             obtain ⟨t104, A80, H⟩ := H
             replace H : (if t104 = true then (impl_AttrsOk.l0 k1 l0 l0 (l0.length : Int) (wrap64 (x10_1 + 1))) else (some false)) = some r := H
             have A8 := Aside0.mk A80
             clear A80
             by_cases c9 : t104 = true
             · subst c9
               rw [if_pos rfl] at H
               have H' := Aside0.mk H
               clear H
               have p101 : 0 ≤ (x10_1 : Int) := of_decide_eq_true (by assumption)
               have q101 : x10_1 < (l0.length : Int) := of_decide_eq_true (by assumption)
               obtain ⟨ad101, e101, hx101_0, hx101_1⟩ := at_T98 HR0.out x10_1 p101 q101
               cases e101
               replace hx101_0 := pw_cell_below HB.out hx101_0
               replace hx101_1 := pw_cell_below HB.out hx101_1
               replace p101 := eq_true p101
               replace q101 := eq_true q101
               go_wp2_with (first | ((with_reducible refine gate_dst (N := 4) rfl ?_); refine box_event ?hg (N := 4) ?hd (cs := #[.string (⟨#[]⟩ : ByteArray), .string (⟨#[]⟩ : ByteArray)]) (t := 98) ?hr ?_; (case hd => rfl); (case hg => rfl); (case hr => first | (go_simp; done) | (go_simp; rfl)); intro gb102 hg w10 hbox hb; have n0_ := Aside0.mk (below_step (by repeat (first | exact HB.out | apply below_alloc | apply pw_below_drewN | apply below_drew1)) hb); have n1_ := Aside0.mk (hbox); have n2_ := Aside0.mk ((by rw [hg]; exact (below_size (by repeat (first | exact HB.out | apply below_alloc | apply pw_below_drewN | apply below_drew1))) : w.heap.size ≤ gb102)); have n3_ := n2_; clear HB; have HB := n0_; have BK102 := n1_; have GW102 := n2_; have GE102 := n3_; clear n0_ n1_ n2_ n3_; clear hb hbox hg; have hcz11_0 := blk_cell BK102.out 0; have hcz11_1 := blk_cell BK102.out 1; have hfz11_0 := blk_frozen BK102.out 0; have hfz11_1 := blk_frozen BK102.out 1) | ((with_reducible refine gate_callee (f := 111) rfl ?_); refine goesL_ (some 18) rfl rfl Try.func111 (by kernel_rfl) rfl #[.slice (some ad101) l0.length c0, .string ((rd_T98 l0 x10_1).f0)] rfl (by (try simp only [List.map_toArray, List.map_cons, List.map_nil]); first | done | rfl | (simp only [List.length_drop, List.length_take]; rfl)) ?_; (with_reducible refine (impl_attrAt.calls k1 _ _ l0 ((rd_T98 l0 x10_1).f0) t103 _ ?side1 ?side2 A6.out).mono ?_); (case side1 => exact Kd.C_below HR0.out (by repeat (first | exact HB.out | apply below_alloc | apply pw_below_drewN | apply below_drew1 | refine below_set ?_ GE102.out))); (case side2 => exact HC0.out); rintro e w12 ⟨rfl, hb⟩; refine ⟨_, rfl, ?_⟩; have n0_ := Aside0.mk (blk_below (g := gb102) (o := .cells #[.string ((rd_T98 l0 x10_1).f0), .string ((rd_T98 l0 x10_1).f1)] 98 (0, 0)) (by (with_reducible repeat (first | refine blk_drewN ?_ _ | refine blk_drew ?_ | refine blk_alloc ?_ _)); refine blk_put (cs := #[.string ((rd_T98 l0 x10_1).f0), .string (⟨#[]⟩ : ByteArray)]) ?_ 1 _ rfl; (with_reducible repeat (first | refine blk_drewN ?_ _ | refine blk_drew ?_ | refine blk_alloc ?_ _)); refine blk_put (cs := #[.string (⟨#[]⟩ : ByteArray), .string (⟨#[]⟩ : ByteArray)]) ?_ 0 _ rfl; (with_reducible repeat (first | refine blk_drewN ?_ _ | refine blk_drew ?_ | refine blk_alloc ?_ _)); exact BK102.out) hb); have n1_ := Aside0.mk (below_step (by repeat (first | exact HB.out | apply below_alloc | apply pw_below_drewN | apply below_drew1 | refine below_set ?_ GE102.out)) hb); clear BK102; clear HB; have BK102 := n0_; have HB := n1_; clear n0_ n1_; (try clear hb); (try clear hb2); (try clear hk); (try clear hi); have hcz13_0 := blk_cell BK102.out 0; have hcz13_1 := blk_cell BK102.out 1; have hfz13_0 := blk_frozen BK102.out 0; have hfz13_1 := blk_frozen BK102.out 1) | (go_at_call 112; (with_reducible refine (impl_attrOk.calls k1 ((rd_T98 l0 x10_1).f0) ((rd_T98 l0 x10_1).f1) true _ A8.out).mono ?_); rintro e w14 ⟨rfl, hb⟩; have n0_ := Aside0.mk (blk_below (g := gb102) (o := .cells #[.string ((rd_T98 l0 x10_1).f0), .string ((rd_T98 l0 x10_1).f1)] 98 (0, 0)) (by (with_reducible repeat (first | refine blk_drewN ?_ _ | refine blk_drew ?_ | refine blk_alloc ?_ _)); exact BK102.out) hb); have n1_ := Aside0.mk (below_step (by repeat (first | exact HB.out | apply below_alloc | apply pw_below_drewN | apply below_drew1 | refine below_set ?_ GE102.out)) hb); clear BK102; clear HB; have BK102 := n0_; have HB := n1_; clear n0_ n1_; (try clear hb); (try clear hb2); (try clear hk); (try clear hi)))
               go_roundg k1
               case measure => have := HK1.out; omega
               case rel => exact ⟨(wrap64 (x10_1 + 1)), (by first | rfl | (simp; done) | (simp [*]; done)), H', ⟨by have := HK1.out; omega⟩, ⟨by repeat (first | exact HB.out | apply below_alloc | apply pw_below_drewN | apply below_drew1 | refine below_set ?_ GE102.out)⟩⟩
             · replace c9 := Bool.eq_false_iff.mpr c9
               subst c9
               rw [if_neg (show ¬ (false = true) by decide)] at H
               obtain rfl := Option.some.inj H
               have p101 : 0 ≤ (x10_1 : Int) := of_decide_eq_true (by assumption)
               have q101 : x10_1 < (l0.length : Int) := of_decide_eq_true (by assumption)
               obtain ⟨ad101, e101, hx101_0, hx101_1⟩ := at_T98 HR0.out x10_1 p101 q101
               cases e101
               replace hx101_0 := pw_cell_below HB.out hx101_0
               replace hx101_1 := pw_cell_below HB.out hx101_1
               replace p101 := eq_true p101
               replace q101 := eq_true q101
               go_wp2_with (first | ((with_reducible refine gate_dst (N := 4) rfl ?_); refine box_event ?hg (N := 4) ?hd (cs := #[.string (⟨#[]⟩ : ByteArray), .string (⟨#[]⟩ : ByteArray)]) (t := 98) ?hr ?_; (case hd => rfl); (case hg => rfl); (case hr => first | (go_simp; done) | (go_simp; rfl)); intro gb102 hg w15 hbox hb; have n0_ := Aside0.mk (below_step (by repeat (first | exact HB.out | apply below_alloc | apply pw_below_drewN | apply below_drew1)) hb); have n1_ := Aside0.mk (hbox); have n2_ := Aside0.mk ((by rw [hg]; exact (below_size (by repeat (first | exact HB.out | apply below_alloc | apply pw_below_drewN | apply below_drew1))) : w.heap.size ≤ gb102)); have n3_ := n2_; clear HB; have HB := n0_; have BK102 := n1_; have GW102 := n2_; have GE102 := n3_; clear n0_ n1_ n2_ n3_; clear hb hbox hg; have hcz16_0 := blk_cell BK102.out 0; have hcz16_1 := blk_cell BK102.out 1; have hfz16_0 := blk_frozen BK102.out 0; have hfz16_1 := blk_frozen BK102.out 1) | ((with_reducible refine gate_callee (f := 111) rfl ?_); refine goesL_ (some 18) rfl rfl Try.func111 (by kernel_rfl) rfl #[.slice (some ad101) l0.length c0, .string ((rd_T98 l0 x10_1).f0)] rfl (by (try simp only [List.map_toArray, List.map_cons, List.map_nil]); first | done | rfl | (simp only [List.length_drop, List.length_take]; rfl)) ?_; (with_reducible refine (impl_attrAt.calls k1 _ _ l0 ((rd_T98 l0 x10_1).f0) t103 _ ?side1 ?side2 A6.out).mono ?_); (case side1 => exact Kd.C_below HR0.out (by repeat (first | exact HB.out | apply below_alloc | apply pw_below_drewN | apply below_drew1 | refine below_set ?_ GE102.out))); (case side2 => exact HC0.out); rintro e w17 ⟨rfl, hb⟩; refine ⟨_, rfl, ?_⟩; have n0_ := Aside0.mk (blk_below (g := gb102) (o := .cells #[.string ((rd_T98 l0 x10_1).f0), .string ((rd_T98 l0 x10_1).f1)] 98 (0, 0)) (by (with_reducible repeat (first | refine blk_drewN ?_ _ | refine blk_drew ?_ | refine blk_alloc ?_ _)); refine blk_put (cs := #[.string ((rd_T98 l0 x10_1).f0), .string (⟨#[]⟩ : ByteArray)]) ?_ 1 _ rfl; (with_reducible repeat (first | refine blk_drewN ?_ _ | refine blk_drew ?_ | refine blk_alloc ?_ _)); refine blk_put (cs := #[.string (⟨#[]⟩ : ByteArray), .string (⟨#[]⟩ : ByteArray)]) ?_ 0 _ rfl; (with_reducible repeat (first | refine blk_drewN ?_ _ | refine blk_drew ?_ | refine blk_alloc ?_ _)); exact BK102.out) hb); have n1_ := Aside0.mk (below_step (by repeat (first | exact HB.out | apply below_alloc | apply pw_below_drewN | apply below_drew1 | refine below_set ?_ GE102.out)) hb); clear BK102; clear HB; have BK102 := n0_; have HB := n1_; clear n0_ n1_; (try clear hb); (try clear hb2); (try clear hk); (try clear hi); have hcz18_0 := blk_cell BK102.out 0; have hcz18_1 := blk_cell BK102.out 1; have hfz18_0 := blk_frozen BK102.out 0; have hfz18_1 := blk_frozen BK102.out 1) | (go_at_call 112; (with_reducible refine (impl_attrOk.calls k1 ((rd_T98 l0 x10_1).f0) ((rd_T98 l0 x10_1).f1) false _ A8.out).mono ?_); rintro e w19 ⟨rfl, hb⟩; have n0_ := Aside0.mk (blk_below (g := gb102) (o := .cells #[.string ((rd_T98 l0 x10_1).f0), .string ((rd_T98 l0 x10_1).f1)] 98 (0, 0)) (by (with_reducible repeat (first | refine blk_drewN ?_ _ | refine blk_drew ?_ | refine blk_alloc ?_ _)); exact BK102.out) hb); have n1_ := Aside0.mk (below_step (by repeat (first | exact HB.out | apply below_alloc | apply pw_below_drewN | apply below_drew1 | refine below_set ?_ GE102.out)) hb); clear BK102; clear HB; have BK102 := n0_; have HB := n1_; clear n0_ n1_; (try clear hb); (try clear hb2); (try clear hk); (try clear hi)))
               go_ret
               exact ⟨by first | rfl | (simp [*] <;> rfl), by repeat (first | exact HB.out | apply below_alloc | apply pw_below_drewN | apply below_drew1 | refine below_set ?_ GE102.out)⟩
           · rw [if_neg c7] at H
             have c7b0 : (t103 == x10_1) = false := beq_eq_false_iff_ne.mpr c7
             have c7b1 : (t103 != x10_1) = true := bne_iff_ne.mpr c7
             obtain rfl := Option.some.inj H
             have p101 : 0 ≤ (x10_1 : Int) := of_decide_eq_true (by assumption)
             have q101 : x10_1 < (l0.length : Int) := of_decide_eq_true (by assumption)
             obtain ⟨ad101, e101, hx101_0, hx101_1⟩ := at_T98 HR0.out x10_1 p101 q101
             cases e101
             replace hx101_0 := pw_cell_below HB.out hx101_0
             replace hx101_1 := pw_cell_below HB.out hx101_1
             replace p101 := eq_true p101
             replace q101 := eq_true q101
             go_wp2_with (first | ((with_reducible refine gate_dst (N := 4) rfl ?_); refine box_event ?hg (N := 4) ?hd (cs := #[.string (⟨#[]⟩ : ByteArray), .string (⟨#[]⟩ : ByteArray)]) (t := 98) ?hr ?_; (case hd => rfl); (case hg => rfl); (case hr => first | (go_simp; done) | (go_simp; rfl)); intro gb102 hg w20 hbox hb; have n0_ := Aside0.mk (below_step (by repeat (first | exact HB.out | apply below_alloc | apply pw_below_drewN | apply below_drew1)) hb); have n1_ := Aside0.mk (hbox); have n2_ := Aside0.mk ((by rw [hg]; exact (below_size (by repeat (first | exact HB.out | apply below_alloc | apply pw_below_drewN | apply below_drew1))) : w.heap.size ≤ gb102)); have n3_ := n2_; clear HB; have HB := n0_; have BK102 := n1_; have GW102 := n2_; have GE102 := n3_; clear n0_ n1_ n2_ n3_; clear hb hbox hg; have hcz21_0 := blk_cell BK102.out 0; have hcz21_1 := blk_cell BK102.out 1; have hfz21_0 := blk_frozen BK102.out 0; have hfz21_1 := blk_frozen BK102.out 1) | ((with_reducible refine gate_callee (f := 111) rfl ?_); refine goesL_ (some 18) rfl rfl Try.func111 (by kernel_rfl) rfl #[.slice (some ad101) l0.length c0, .string ((rd_T98 l0 x10_1).f0)] rfl (by (try simp only [List.map_toArray, List.map_cons, List.map_nil]); first | done | rfl | (simp only [List.length_drop, List.length_take]; rfl)) ?_; (with_reducible refine (impl_attrAt.calls k1 _ _ l0 ((rd_T98 l0 x10_1).f0) t103 _ ?side1 ?side2 A6.out).mono ?_); (case side1 => exact Kd.C_below HR0.out (by repeat (first | exact HB.out | apply below_alloc | apply pw_below_drewN | apply below_drew1 | refine below_set ?_ GE102.out))); (case side2 => exact HC0.out); rintro e w22 ⟨rfl, hb⟩; refine ⟨_, rfl, ?_⟩; have n0_ := Aside0.mk (blk_below (g := gb102) (o := .cells #[.string ((rd_T98 l0 x10_1).f0), .string ((rd_T98 l0 x10_1).f1)] 98 (0, 0)) (by (with_reducible repeat (first | refine blk_drewN ?_ _ | refine blk_drew ?_ | refine blk_alloc ?_ _)); refine blk_put (cs := #[.string ((rd_T98 l0 x10_1).f0), .string (⟨#[]⟩ : ByteArray)]) ?_ 1 _ rfl; (with_reducible repeat (first | refine blk_drewN ?_ _ | refine blk_drew ?_ | refine blk_alloc ?_ _)); refine blk_put (cs := #[.string (⟨#[]⟩ : ByteArray), .string (⟨#[]⟩ : ByteArray)]) ?_ 0 _ rfl; (with_reducible repeat (first | refine blk_drewN ?_ _ | refine blk_drew ?_ | refine blk_alloc ?_ _)); exact BK102.out) hb); have n1_ := Aside0.mk (below_step (by repeat (first | exact HB.out | apply below_alloc | apply pw_below_drewN | apply below_drew1 | refine below_set ?_ GE102.out)) hb); clear BK102; clear HB; have BK102 := n0_; have HB := n1_; clear n0_ n1_; (try clear hb); (try clear hb2); (try clear hk); (try clear hi)))
             go_ret
             exact ⟨by first | rfl | (simp [*] <;> rfl), by repeat (first | exact HB.out | apply below_alloc | apply pw_below_drewN | apply below_drew1 | refine below_set ?_ GE102.out)⟩
         · rw [if_neg c5] at H
           exact absurd H (by simp)
       · rw [if_neg c4] at H
         exact absurd H (by simp)
     · rw [if_neg c3] at H
       have c3b0 : decide (x10_1 < (l0.length : Int)) = false := decide_eq_false c3
       clear c3
       obtain rfl := Option.some.inj H
       go_wp2
       go_ret
       exact ⟨by first | rfl | (simp [*] <;> rfl), by repeat (first | exact HB.out | apply below_alloc | apply pw_below_drewN | apply below_drew1)⟩
end Go.Proofs.Ytgneacekgbjkkaa.X
