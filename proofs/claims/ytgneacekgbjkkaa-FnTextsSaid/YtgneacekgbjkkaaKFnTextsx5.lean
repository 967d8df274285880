/- What the Go functions that FnTexts reaches compute, and that their walks come to just that (written by a program of this project over the kit's print). Conditions: as each states. -/
import Derived.Test.YtgneacekgbjkkaaKFnTextsx4
set_option maxHeartbeats 64000000
set_option maxRecDepth 100000
namespace Go.Proofs.Ytgneacekgbjkkaa.X
open Go.RowKit Go.Proofs.YtgneacekgbjkkaaW.PrintWords Go.Proofs.YtgneacekgbjkkaaW.PrintLast Go.Proofs.YtgneacekgbjkkaaW.PrintMore
attribute [local go_sem] max2_int min2_int max_two min_two max_three min_three max_four min_four
set_option linter.unusedVariables false
set_option linter.unusedSimpArgs false
def spec_l6DrawTree.turn (m : Int) (xs : List S45) (a : Int) (b : List Int) (i h : Int) : Option (List S45 × Int × Int) := if m = 5 then some ([], i, h) else if 0 ≤ m ∧ m ≤ 4 then (if 0 ≤ a then (if a < (xs.length : Int) then (if m = 0 then (spec_l1Below.f b i h 4).bind fun q => some (xs.set a.toNat ⟨(rd_T45 xs a).f0, (rd_T45 xs a).f1, (rd_T45 xs a).f2, (rd_T45 xs a).f3, wrap64 (q.1 - 1), (rd_T45 xs a).f5⟩, q.2.1, q.2.2) else if m = 1 then (if (rd_T45 xs a).f5.length < 1000000 then (spec_l1Below.f b i h (wrap64 ((xs.length : Int) + 1))).bind fun q => some (xs.set a.toNat ⟨(rd_T45 xs a).f0, (rd_T45 xs a).f1, (rd_T45 xs a).f2, (rd_T45 xs a).f3, (rd_T45 xs a).f4, (rd_T45 xs a).f5 ++ [q.1]⟩, q.2.1, q.2.2) else none) else if m = 2 then (spec_l1Below.f b i h 7).bind fun q => some (xs.set a.toNat ⟨q.1, (rd_T45 xs a).f1, (rd_T45 xs a).f2, (rd_T45 xs a).f3, (rd_T45 xs a).f4, (rd_T45 xs a).f5⟩, q.2.1, q.2.2) else if m = 3 then some (xs.set a.toNat ⟨(rd_T45 xs a).f0, (rd_T45 xs a).f1, (rd_T45 xs a).f2, ⟨#[255]⟩, (rd_T45 xs a).f4, (rd_T45 xs a).f5⟩, i, h) else some (xs.set a.toNat ⟨(rd_T45 xs a).f0, ⟨#[80]⟩, (rd_T45 xs a).f2, (rd_T45 xs a).f3, (rd_T45 xs a).f4, (rd_T45 xs a).f5⟩, i, h)) else none) else none) else some (xs, i, h)
def spec_l6DrawTree.f (k : Nat) (b : List Int) (i h : Int) : Option (List S45 × Int × Int) := (spec_l6DrawRight.f k b i h).bind fun x => (spec_l1Below.f b x.2.1 x.2.2 (x.1.length : Int)).bind fun a => (spec_l1Below.f b a.2.1 a.2.2 25).bind fun m => spec_l6DrawTree.turn m.1 x.1 a.1 b m.2.1 m.2.2
theorem spec_l6DrawTree.mono : ∀ a0 a1 a2 k, LeO (spec_l6DrawTree.f k a0 a1 a2) (spec_l6DrawTree.f (k + 1) a0 a1 a2) := fun _ _ _ k => LeO.bind (spec_l6DrawRight.mono _ _ _ k) (fun _ => LeO.refl _)
theorem ElemW.kind {W : World} {base g n cap : Nat} {ok oki : Nat → Prop} {xs : List S45} {i : Int} {x : S45} {v2 v5 : Value} (h : ElemW W base ok g n cap xs i oki x v2 v5) (y : Int) :
 Kd.S k45 45 (W.setCell ⟨g, i.toNat * 6, none⟩ (.int .i64 y)) base ok (.slice (some ⟨g, 0, none⟩) n cap) (xs.set i.toNat ⟨y, x.f1, x.f2, x.f3, x.f4, x.f5⟩) := by
 obtain ⟨g1, _⟩ := Kd.H_seg h.hole h.h0 h.h1 (seg := [.int .i64 y]) (j := 0) (show 0 + 1 ≤ 6 by omega) (fun q hq => by rw [List.mem_singleton.1 hq]; rfl)
 refine Kd.H_back (w := W.setCell ⟨g, i.toNat * 6, none⟩ (.int .i64 y)) (show Kd.H k45 45 _ _ _ _ _ _ _ _ from g1) (k45_mkM _ _ oki ⟨y, x.f1, x.f2, x.f3, x.f4, x.f5⟩ (Kd.R_far (p := ⟨g, i.toNat * 6, none⟩) h.r2 h.ne _) (Kd.R_far (p := ⟨g, i.toNat * 6, none⟩) h.r5 h.ne _)) (fun _ hk => hk)
theorem ElemW.name {W : World} {base g n cap : Nat} {ok oki : Nat → Prop} {xs : List S45} {i : Int} {x : S45} {v2 v5 : Value} (h : ElemW W base ok g n cap xs i oki x v2 v5) (y : ByteArray) :
 Kd.S k45 45 (W.setCell ⟨g, i.toNat * 6 + 1, none⟩ (.string y)) base ok (.slice (some ⟨g, 0, none⟩) n cap) (xs.set i.toNat ⟨x.f0, y, x.f2, x.f3, x.f4, x.f5⟩) := by
 obtain ⟨g1, _⟩ := Kd.H_seg h.hole h.h0 h.h1 (seg := [.string y]) (j := 1) (show 1 + 1 ≤ 6 by omega) (fun q hq => by rw [List.mem_singleton.1 hq]; rfl)
 refine Kd.H_back (w := W.setCell ⟨g, i.toNat * 6 + 1, none⟩ (.string y)) (show Kd.H k45 45 _ _ _ _ _ _ _ _ from g1) (k45_mkM _ _ oki ⟨x.f0, y, x.f2, x.f3, x.f4, x.f5⟩ (Kd.R_far (p := ⟨g, i.toNat * 6 + 1, none⟩) h.r2 h.ne _) (Kd.R_far (p := ⟨g, i.toNat * 6 + 1, none⟩) h.r5 h.ne _)) (fun _ hk => hk)
theorem ElemW.text {W : World} {base g n cap : Nat} {ok oki : Nat → Prop} {xs : List S45} {i : Int} {x : S45} {v2 v5 : Value} (h : ElemW W base ok g n cap xs i oki x v2 v5) (y : ByteArray) :
 Kd.S k45 45 (W.setCell ⟨g, i.toNat * 6 + 3, none⟩ (.string y)) base ok (.slice (some ⟨g, 0, none⟩) n cap) (xs.set i.toNat ⟨x.f0, x.f1, x.f2, y, x.f4, x.f5⟩) := by
 obtain ⟨g1, _⟩ := Kd.H_seg h.hole h.h0 h.h1 (seg := [.string y]) (j := 3) (show 3 + 1 ≤ 6 by omega) (fun q hq => by rw [List.mem_singleton.1 hq]; rfl)
 refine Kd.H_back (w := W.setCell ⟨g, i.toNat * 6 + 3, none⟩ (.string y)) (show Kd.H k45 45 _ _ _ _ _ _ _ _ from g1) (k45_mkM _ _ oki ⟨x.f0, x.f1, x.f2, y, x.f4, x.f5⟩ (Kd.R_far (p := ⟨g, i.toNat * 6 + 3, none⟩) h.r2 h.ne _) (Kd.R_far (p := ⟨g, i.toNat * 6 + 3, none⟩) h.r5 h.ne _)) (fun _ hk => hk)
section
variable {w0 w W W2 : World} {g gt gr gx n cap : Nat} {v : Value} {xs ys : List S45}
theorem DrwW.elem (h : DrwW w0 w W g gt gr (.slice (some ⟨gx, 0, none⟩) n cap) xs) {p : Nat} {u : Value} (hS : Kd.S k45 45 (W.setCell ⟨gx, p, none⟩ u) w0.heap.size (fun k => w.heap.size ≤ k ∧ k ≠ gt ∧ k ≠ gr) (.slice (some ⟨gx, 0, none⟩) n cap) ys) : DrwW w0 w (W.setCell ⟨gx, p, none⟩ u) g gt gr (.slice (some ⟨gx, 0, none⟩) n cap) ys :=
 have hg := (Kd.S_R h.s).1 gx rfl
 ⟨blk_far (p := ⟨gx, p, none⟩) h.bt (Ne.symm hg.2.1) _, blk_far (p := ⟨gx, p, none⟩) h.br (Ne.symm hg.2.2) _, hS, below_set h.low (Nat.le_trans h.w0w hg.1), keep_set h.kp hg.1 _, h.gt_, h.gr_, h.ne, h.gc, h.g0⟩
theorem DrwW.free (h : DrwW w0 w W g gt gr (.slice (some ⟨gx, 0, none⟩) n cap) xs) (j : Nat) : W.frozen? ⟨gx, j, none⟩ = false := by
 obtain ⟨cells, hc⟩ := Kd.R_typed (Kd.S_R h.s) gx rfl
 exact blk_frozen hc j
theorem DrwW.okx (h : DrwW w0 w W g gt gr (.slice (some ⟨gx, 0, none⟩) n cap) xs) : w.heap.size ≤ gx ∧ gx ≠ gt ∧ gx ≠ gr := (Kd.S_R h.s).1 gx rfl
theorem ElemW.gfree {base : Nat} {ok oki : Nat → Prop} {i : Int} {x : S45} {v2 v5 : Value} (h : ElemW W base ok gx n cap xs i oki x v2 v5) (hg : W.grownBy W2 v5.ownBlock) (j : Nat) : W2.frozen? ⟨gx, j, none⟩ = false :=
 H_freeN (Kd.H_step h.hole (fun k _ hn hlt => hg.block k hlt (fun e => hn (h.r5.1 k e.symm)))) h.h0 h.h1 j
theorem ElemW.gcell {base : Nat} {ok oki : Nat → Prop} {i : Int} {x : S45} {v2 v5 : Value} (h : ElemW W base ok gx n cap xs i oki x v2 v5) (hg : W.grownBy W2 v5.ownBlock) (j : Nat) (u : Value) (hu : ([.int .i64 x.f0, .string x.f1, v2, .string x.f3, .int .i64 x.f4, v5] : List Value)[j]? = some u) : W2.cell? ⟨gx, i.toNat * 6 + j, none⟩ = some u :=
 H_cellN (Kd.H_step h.hole (fun k _ hn hlt => hg.block k hlt (fun e => hn (h.r5.1 k e.symm)))) h.h0 h.h1 j u hu
theorem ElemW.keepb {base : Nat} {ok oki : Nat → Prop} {i : Int} {x : S45} {v2 v5 : Value} (h : ElemW W base ok gx n cap xs i oki x v2 v5) (hk : KeepBut W W2 g none) (hc : ∀ k, ok k → k ≠ g) : ElemW W2 base ok gx n cap xs i oki x v2 v5 :=
 ⟨h.h0, h.h1, Kd.H_step h.hole (fun k ho _ hlt => hk.2 k hlt (hc k ho) (by simp)), Kd.R_keep h.r2 hk (fun k ho => hc k (h.sub k ho)), Kd.R_keep h.r5 hk (fun k ho => hc k (h.sub k ho)), h.ne, fun k h1 h2 => h.new k h1 (Nat.le_trans hk.1 h2), h.sub⟩
theorem DrwW.kid {i : Int} {oki : Nat → Prop} {x : S45} {v2 v5 v5n : Value} {ks : List Int} (h : DrwW w0 w W g gt gr (.slice (some ⟨gx, 0, none⟩) n cap) xs) (E : ElemW W w0.heap.size (fun k => w.heap.size ≤ k ∧ k ≠ gt ∧ k ≠ gr) gx n cap xs i oki x v2 v5) (r5 : Kd.R (Kd.int .i64) 3 W2 w0.heap.size oki v5n ks) (hl : Below w0.heap.size w0 W2) (hg : W.grownBy W2 v5.ownBlock) : DrwW w0 w (W2.setCell ⟨gx, i.toNat * 6 + 5, none⟩ v5n) g gt gr (.slice (some ⟨gx, 0, none⟩) n cap) (xs.set i.toNat ⟨x.f0, x.f1, x.f2, x.f3, x.f4, ks⟩) :=
 have hx := (Kd.S_R h.s).1 gx rfl
 ⟨blk_far (p := ⟨gx, i.toNat * 6 + 5, none⟩) (blk_grown h.bt hg (Kd.R_ne E.r5 h.bt (by decide))) (Ne.symm hx.2.1) _, blk_far (p := ⟨gx, i.toNat * 6 + 5, none⟩) (blk_grown h.br hg (Kd.R_ne E.r5 h.br (by decide))) (Ne.symm hx.2.2) _, E.kids r5 ⟨hg.size, fun i hi hn => hg.block i hi hn⟩, below_set hl (Nat.le_trans h.w0w hx.1), keep_set (Kept.keep h.kp (S2 := fun k => some k = v5.ownBlock) ⟨hg.size, fun i hi hn => hg.block i hi hn⟩ (fun k e => (E.sub k (E.r5.1 k e.symm)).1)) hx.1 _, h.gt_, h.gr_, h.ne, h.gc, h.g0⟩
end
theorem spec_l6DrawTree.calls (k : Nat) (g : Nat) (b : List Int) (i h : Int) (r1 : List S45) (r2 r3 : Int) (w0 w : World) (hI : IsS117 w0 w g b i h) (hB : Below w0.heap.size w0 w) (hf : spec_l6DrawTree.f k b i h = some (r1, r2, r3)) :
 Calls Try.prog 69 #[.pointer (some ⟨g, 0, none⟩)] w fun e w' => ∃ v_ : Value, e = .returned (.agg #[v_]) ∧ Kd.S k45 45 w' w0.heap.size (fun k_ => w.heap.size ≤ k_) v_ r1 ∧ IsS117 w0 w' g b r2 r3 ∧ Below w0.heap.size w0 w' ∧ KeepBut w w' g none := by
 unfold spec_l6DrawTree.f at hf
 obtain ⟨⟨xs, i1, h1⟩, E0, hf⟩ := Option.bind_eq_some_iff.1 hf
 obtain ⟨⟨a, i2, h2⟩, E1, hf⟩ := Option.bind_eq_some_iff.1 hf
 obtain ⟨⟨m, i3, h3⟩, E2, hf⟩ := Option.bind_eq_some_iff.1 hf
 dsimp only at E0 E1 E2 hf
 replace E0 := Ak E0
 replace E1 := Ak E1
 replace E2 := Ak E2
 have HA := Ak hf
 have HI := Ak hI
 have HB := Ak hB
 clear hf hI hB
 go_enter Try.func69, Try.ntmps69
 go_upto_region 2 with (first | ((with_reducible refine gate_dst (N := 2) rfl ?_); refine box_event ?hg (N := 2) ?hd (cs := #[.slice none 0 0]) (t := 29) ?hr ?_; (case hd => rfl); (case hg => rfl); (case hr => first | (go_simp; done) | (go_simp; rfl)); intro gr hg w1 hbox hb; have HR := Ak hbox; have HL1 := Ak hb; have HGR := Ak (show w.heap.size ≤ gr by rw [hg]; exact Nat.le_refl _); clear hbox hb hg) | (go_at_call 100; (with_reducible refine (spec_l6DrawRight.calls k g b i h xs i1 h1 w0 w1 (HI.out.below HL1.out) (below_step HB.out HL1.out) E0.out).mono ?_); rintro e w2 ⟨v, rfl, hS, hi, hl, hk⟩; obtain ⟨Ax, cx, rfl⟩ := Kd.S_slice hS; have HS2 := Ak hS; have HI2 := Ak hi; have HL2 := Ak hl; have HK2 := Ak hk; clear hS hi hl hk))
 have HD := Ak (show DrwW w0 w (w2.alloc (.cells #[.slice Ax xs.length cx] 29)) g w2.heap.size gr (.slice Ax xs.length cx) xs from ⟨blk_new _ _, blk_below (HK2.out.blk HR.out (by have := HGR.out; have := HI.out.lt; omega) (by simp)) (below_alloc (Below.refl _ _) _), Kd.S_below (Kd.S_mono (Kd.S_bound HS2.out) (fun k_ hk => ⟨Nat.le_trans HL1.out.size hk.1, by have := hk.2.2.1; omega, by have := hk.1; have := blk_lt HR.out; omega⟩)) (below_alloc (Below.refl _ _) _), below_step HL2.out (below_alloc (Below.refl _ _) _), keep_below (keep_trans (keep_below (KeepBut.refl _ _ _) HL1.out) HK2.out) (below_alloc (Below.refl _ _) _), by have := HL1.out.size; have := HK2.out.1; omega, HGR.out, by have := blk_lt HR.out; have := HK2.out.1; omega, HI.out.lt, HI.out.ge⟩)
 have HI3 := Ak (HI2.out.below (below_alloc (Below.refl _ _) (.cells #[.slice Ax xs.length cx] 29)))
 generalize w2.alloc (.cells #[.slice Ax xs.length cx] 29) = w3 at HD HI3 ⊢
 generalize w2.heap.size = gt at HD ⊢
 clear HS2 HI2 HL2 HK2 HR HL1 HGR HI
 have hct := blk_cell HD.out.bt 0
 go_upto_region 4 with (first | (go_at_call 101; (with_reducible refine (spec_l1Below.calls g b i1 h1 (xs.length : Int) a i2 h2 w0 w3 HI3.out HD.out.low E1.out).mono ?_); rintro e w4 ⟨rfl, hi, hl, hk⟩; have HD4 := Ak (HD.out.keep hl hk); have HI4 := Ak hi; clear hi hl hk) | (go_at_call 101; (with_reducible refine (spec_l1Below.calls g b i2 h2 25 m i3 h3 w0 w4 HI4.out HD4.out.low E2.out).mono ?_); rintro e w5 ⟨rfl, hi, hl, hk⟩; have HD5 := Ak (HD4.out.keep hl hk); have HI5 := Ak hi; clear hi hl hk))
 clear hct HD HI3 HD4 HI4 E0 E1 E2
 have H := HA.out
 unfold spec_l6DrawTree.turn at H
 have hct := blk_cell HD5.out.bt 0
 have hcr := blk_cell HD5.out.br 0
 have hfr := blk_frozen HD5.out.br
 have hft := blk_frozen HD5.out.bt
 by_cases m5 : m = 5
 ·subst m5
  rw [if_pos rfl] at H
  injection H with H
  injection H with e1 H
  injection H with e2 e3
  subst e1 e2 e3
  have HD6 := Ak (HD5.out.b.put HD5.out.g0 (Kd.S_nil k45 45 w5 w0.heap.size (fun k => w.heap.size ≤ k)) (fun _ h_ => h_))
  have hct6 := blk_cell HD6.out.bt 0
  have hcr6 := blk_cell HD6.out.br 0
  have hfr6 := blk_frozen HD6.out.br
  go_wp2
  refine bodyPost_ret (results_cell_row rfl _ _ gr 29 #[.slice none 0 0] (0, 0) _ rfl (blk_put (cs := #[.slice none 0 0]) HD6.out.br 0 _ rfl) Try.underlying29 rfl (by kernel_rfl)) rfl ?_
  exact ⟨_, rfl, HD6.out.done.1, (HI5.out.far (p := ⟨gt, 0, none⟩) (by have := HD5.out.gt_; have := HD5.out.gc; show g ≠ gt; omega) (.slice none 0 0)).far (by have := HD6.out.gr_; have := HD6.out.gc; show g ≠ gr; omega) _, HD6.out.done.2.1, HD6.out.done.2.2⟩
 ·rw [if_neg m5] at H
  have b5 : (m == 5) = false := beq_eq_false_iff_ne.2 m5
  by_cases m04 : 0 ≤ m ∧ m ≤ 4
  ·rw [if_pos m04] at H
   by_cases c1 : 0 ≤ a
   ·rw [if_pos c1] at H
    by_cases c2 : a < (xs.length : Int)
    ·rw [if_pos c2] at H
     obtain ⟨gx, cap, evx, _, _, _⟩ := Kd.S_form HD5.out.s (by omega)
     injection evx with ev1 _ ev2
     subst ev1 ev2
     have C1 := Ak c1
     have C2 := Ak c2
     replace c1 := eq_true c1
     replace c2 := eq_true c2
     clear HA
     by_cases m0 : m = 0
     ·subst m0
      rw [if_pos rfl] at H
      obtain ⟨⟨y, i4, h4⟩, A1, H⟩ := Option.bind_eq_some_iff.1 H
      dsimp only at A1 H
      injection H with H
      injection H with e1 H
      injection H with e2 e3
      subst e1 e2 e3
      have HA1 := Ak A1
      clear A1
      go_upto_region 5 with (fail)
      clear hct hcr hfr hft
      have HDD := Ak (show DrwW w0 w w5.drew g gt gr (.slice (some ⟨gx, 0, none⟩) xs.length cx) xs from HD5.out.below (pw_below_drewN (Below.refl _ _) 1))
      have HID := Ak (show IsS117 w0 w5.drew g b i3 h3 from HI5.out)
      have hct := blk_cell HDD.out.bt 0
      refine wp_region_N (n := 8) (S := (fun w' => w'.cell? ⟨gt, 0, none⟩ = some (.slice (some ⟨gx, 0, none⟩) xs.length cx))) (by kernel_rfl) hct (fun hHeld => ?_)
      generalize w5.drew = WD at HDD HID hct hHeld ⊢
      refine wpAnyN_take (i := 0) (v := ?v100) rfl (by kernel_rfl) (by kernel_rfl) (by kernel_rfl) (by kernel_rfl) (fun _ _ _ h => h) (Or.inl ⟨by rfl, ?h100⟩) hHeld ?r100
      case h100 => (intro w_ hSw; (try dsimp only at hSw); go_simp; (try with_reducible rfl))
      refine wpAnyN_take (i := 1) (v := ?v201) rfl (by kernel_rfl) (by kernel_rfl) (by kernel_rfl) (by kernel_rfl) (fun _ _ _ h => h) (Or.inl ⟨by rfl, ?h201⟩) hHeld ?r201
      case h201 => (intro w_ hSw; (try dsimp only at hSw); go_simp; (try with_reducible rfl))
      refine wpAnyN_take (i := 2) (v := ?v302) rfl (by kernel_rfl) (by kernel_rfl) (by kernel_rfl) (by kernel_rfl) (fun _ _ _ h => h) (Or.inl ⟨by rfl, ?h302⟩) hHeld ?r302
      case h302 => (intro w_ hSw; (try dsimp only at hSw); go_simp; (try with_reducible rfl))
      refine wpAnyN_take (i := 3) (v := ?v403) rfl (by kernel_rfl) (by kernel_rfl) (by kernel_rfl) (by kernel_rfl) (fun _ _ _ h => h) (Or.inl ⟨by rfl, ?h403⟩) hHeld ?r403
      case h403 => (intro w_ hSw; (try dsimp only at hSw); go_simp; (try with_reducible rfl))
      refine wpAnyN_one (i := 4) (by kernel_rfl) rfl (fun K hK => ?_)
      go_simp
      go_at_call 101
      with_reducible refine (spec_l1Below.calls g b i3 h3 4 y i4 h4 w0 WD HID.out HDD.out.low HA1.out).mono ?_
      rintro e w6 ⟨rfl, hi, hl, hk⟩
      have HD6 := Ak (HDD.out.keep hl hk)
      have HI6 := Ak hi
      have hct6 := blk_cell HD6.out.bt 0
      clear hi hl hk
      go_wp2_with fail
      refine hK.out _ _ ?_ (fun hHc => ?_)
      ·(try dsimp only); exact hct6
      clear hK K
      refine wpAnyN_one (i := 5) (by kernel_rfl) rfl (fun K hK => ?_)
      go_simp
      refine hK.out _ _ ?_ (fun hHd5 => ?_)
      ·(try dsimp only); exact hHc
      clear hK K
      refine wpAnyN_one (i := 6) (by kernel_rfl) rfl (fun K hK => ?_)
      go_simp
      refine hK.out _ _ ?_ (fun hHd6 => ?_)
      ·(try dsimp only); exact hHc
      clear hK K
      refine wpAnyN_one (i := 7) (by kernel_rfl) rfl (fun K hK => ?_)
      go_simp
      refine hK.out _ _ ?_ (fun hHd7 => ?_)
      ·(try dsimp only); exact hHc
      clear hK K
      have hfx := HD6.out.free
      have hcx := (ElemW.cell (ElemW.of HD6.out.s a C1.out (by have := C2.out; omega)).choose_spec.choose_spec.choose_spec 4 _ rfl)
      refine wpAnyN_last (by kernel_rfl) (by kernel_rfl) rfl (fun K hK => ?_)
      go_simp
      refine hK.out _ _ ?_
      clear hK K
      obtain ⟨oki, v2, v5, HE⟩ := ElemW.of HD6.out.s a C1.out (by have := C2.out; omega)
      have HD7 := Ak (HD6.out.elem (HE.parent (IntKind.i64.wrap (y - 1))))
      have HI7 := Ak (HI6.out.far (p := ⟨gx, a.toNat * 6 + 4, none⟩) (by have := HD6.out.okx; have := HD6.out.gc; show g ≠ gx; omega) (.int .i64 (IntKind.i64.wrap (y - 1))))
      clear hcx hfx hct6 hHc hHeld hct HE
      generalize World.setCell w6 ⟨gx, a.toNat * 6 + 4, none⟩ (.int .i64 (IntKind.i64.wrap (y - 1))) = w7 at HD7 HI7 ⊢
      have hct7 := blk_cell HD7.out.bt 0
      have hcr7 := blk_cell HD7.out.br 0
      have hfr7 := blk_frozen HD7.out.br
      go_wp2
      refine bodyPost_ret (results_cell_row rfl _ _ gr 29 #[(.slice (some ⟨gx, 0, none⟩) xs.length cx)] (0, 0) _ rfl (blk_put (cs := #[.slice none 0 0]) HD7.out.br 0 _ rfl) Try.underlying29 rfl (by kernel_rfl)) rfl ?_
      rw [show wrap64 (y - 1) = IntKind.i64.wrap (y - 1) from (i64_w _).symm]
      exact ⟨_, rfl, HD7.out.done.1, HI7.out.far (by have := HD7.out.gr_; have := HD7.out.gc; show g ≠ gr; omega) _, HD7.out.done.2.1, HD7.out.done.2.2⟩
     ·rw [if_neg m0] at H
      have b0 : (m == 0) = false := beq_eq_false_iff_ne.2 m0
      by_cases m1 : m = 1
      ·subst m1
       rw [if_pos rfl] at H
       by_cases c5 : (rd_T45 xs a).f5.length < 1000000
       ·rw [if_pos c5] at H
        have C5 := Ak c5
        clear c5
        obtain ⟨⟨y, i4, h4⟩, A1, H⟩ := Option.bind_eq_some_iff.1 H
        dsimp only at A1 H
        injection H with H
        injection H with e1 H
        injection H with e2 e3
        subst e1 e2 e3
        have HA1 := Ak A1
        clear A1
        go_upto_region 7 with (fail)
        clear hct hcr hfr hft
        have HDD := Ak (show DrwW w0 w w5.drew g gt gr (.slice (some ⟨gx, 0, none⟩) xs.length cx) xs from HD5.out.below (pw_below_drewN (Below.refl _ _) 1))
        have HID := Ak (show IsS117 w0 w5.drew g b i3 h3 from HI5.out)
        have hct := blk_cell HDD.out.bt 0
        obtain ⟨oki, v2, v5, he⟩ := ElemW.of HDD.out.s a C1.out (by have := C2.out; omega)
        have HE := Ak he
        clear he
        have he5 := HE.out.cell 5 _ rfl
        refine wp_region_N (n := 19) (S := (fun w' => w'.cell? ⟨gt, 0, none⟩ = some (.slice (some ⟨gx, 0, none⟩) xs.length cx) ∧ w'.cell? ⟨gx, a.toNat * 6 + 5, none⟩ = some v5)) (by kernel_rfl) ⟨hct, he5⟩ (fun hHeld => ?_)
        generalize w5.drew = WD at HDD HID HE hct he5 hHeld ⊢
        refine wpAnyN_take (i := 0) (v := ?v900) rfl (by kernel_rfl) (by kernel_rfl) (by kernel_rfl) (by kernel_rfl) (fun _ _ _ h => h) (Or.inl ⟨by rfl, ?h900⟩) hHeld ?r900
        case h900 => (intro w_ hSw; (try dsimp only at hSw); go_simp; (try with_reducible rfl))
        refine wpAnyN_take (i := 1) (v := ?v1001) rfl (by kernel_rfl) (by kernel_rfl) (by kernel_rfl) (by kernel_rfl) (fun _ _ _ h => h) (Or.inl ⟨by rfl, ?h1001⟩) hHeld ?r1001
        case h1001 => (intro w_ hSw; (try dsimp only at hSw); go_simp; (try with_reducible rfl))
        refine wpAnyN_take (i := 2) (v := ?v1102) rfl (by kernel_rfl) (by kernel_rfl) (by kernel_rfl) (by kernel_rfl) (fun _ _ _ h => h) (Or.inl ⟨by rfl, ?h1102⟩) hHeld ?r1102
        case h1102 => (intro w_ hSw; (try dsimp only at hSw); go_simp; (try with_reducible rfl))
        refine wpAnyN_take (i := 3) (v := ?v1203) rfl (by kernel_rfl) (by kernel_rfl) (by kernel_rfl) (by kernel_rfl) (fun _ _ _ h => h) (Or.inl ⟨by rfl, ?h1203⟩) hHeld ?r1203
        case h1203 => (intro w_ hSw; (try dsimp only at hSw); go_simp; (try with_reducible rfl))
        refine wpAnyN_take (i := 4) (v := ?v1304) rfl (by kernel_rfl) (by kernel_rfl) (by kernel_rfl) (by kernel_rfl) (fun _ _ _ h => h) (Or.inl ⟨by rfl, ?h1304⟩) hHeld ?r1304
        case h1304 => (intro w_ hSw; (try dsimp only at hSw); go_simp; (try with_reducible rfl))
        refine wpAnyN_take (i := 5) (v := ?v1405) rfl (by kernel_rfl) (by kernel_rfl) (by kernel_rfl) (by kernel_rfl) (fun _ _ _ h => h) (Or.inl ⟨by rfl, ?h1405⟩) hHeld ?r1405
        case h1405 => (intro w_ hSw; (try dsimp only at hSw); go_simp; (try with_reducible rfl))
        refine wpAnyN_take (i := 6) (v := ?v1506) rfl (by kernel_rfl) (by kernel_rfl) (by kernel_rfl) (by kernel_rfl) (fun _ _ _ h => h) (Or.inl ⟨by rfl, ?h1506⟩) hHeld ?r1506
        case h1506 => (intro w_ hSw; (try dsimp only at hSw); go_simp; (try with_reducible rfl))
        refine wpAnyN_take (i := 7) (v := ?v1607) rfl (by kernel_rfl) (by kernel_rfl) (by kernel_rfl) (by kernel_rfl) (fun _ _ _ h => h) (Or.inl ⟨by rfl, ?h1607⟩) hHeld ?r1607
        case h1607 => (intro w_ hSw; (try dsimp only at hSw); go_simp; (try with_reducible rfl))
        refine wpAnyN_take (i := 8) (v := ?v1708) rfl (by kernel_rfl) (by kernel_rfl) (by kernel_rfl) (by kernel_rfl) (fun _ _ _ h => h) (Or.inl ⟨by rfl, ?h1708⟩) hHeld ?r1708
        case h1708 => (intro w_ hSw; (try dsimp only at hSw); go_simp; (try with_reducible rfl))
        refine wpAnyN_take (i := 9) (v := ?v1809) rfl (by kernel_rfl) (by kernel_rfl) (by kernel_rfl) (by kernel_rfl) (fun _ _ _ h => h) (Or.inl ⟨by rfl, ?h1809⟩) hHeld ?r1809
        case h1809 => (intro w_ hSw; (try dsimp only at hSw); go_simp; (try with_reducible rfl))
        refine wpAnyN_take (i := 10) (v := ?v1910) rfl (by kernel_rfl) (by kernel_rfl) (by kernel_rfl) (by kernel_rfl) (fun _ _ _ h => h) (Or.inl ⟨by rfl, ?h1910⟩) hHeld ?r1910
        case h1910 => (intro w_ hSw; (try dsimp only at hSw); go_simp; (try with_reducible rfl))
        refine wpAnyN_take (i := 11) (v := ?v2011) rfl (by kernel_rfl) (by kernel_rfl) (by kernel_rfl) (by kernel_rfl) (fun _ _ _ h => h) (Or.inl ⟨by rfl, ?h2011⟩) hHeld ?r2011
        case h2011 => (intro w_ hSw; (try dsimp only at hSw); go_simp; (try with_reducible rfl))
        refine wpAnyN_take (i := 12) (v := ?v2112) rfl (by kernel_rfl) (by kernel_rfl) (by kernel_rfl) (by kernel_rfl) (fun _ _ _ h => h) (Or.inl ⟨by rfl, ?h2112⟩) hHeld ?r2112
        case h2112 => (intro w_ hSw; (try dsimp only at hSw); go_simp; (try with_reducible rfl))
        refine wpAnyN_take (i := 13) (v := ?v2213) rfl (by kernel_rfl) (by kernel_rfl) (by kernel_rfl) (by kernel_rfl) (fun _ _ _ h => h) (Or.inl ⟨by rfl, ?h2213⟩) hHeld ?r2213
        case h2213 => (intro w_ hSw; (try dsimp only at hSw); go_simp; (try with_reducible rfl))
        refine wpAnyN_one (i := 14) (by kernel_rfl) rfl (fun K hK => ?_)
        go_simp
        go_at_call 101
        with_reducible refine (spec_l1Below.calls g b i3 h3 (IntKind.i64.wrap ((xs.length : Int) + 1)) y i4 h4 w0 WD HID.out HDD.out.low (by rw [i64_w]; exact HA1.out)).mono ?_
        rintro e w6 ⟨rfl, hi, hl, hk⟩
        have HD6 := Ak (HDD.out.keep hl hk)
        have HI6 := Ak hi
        have HE6 := Ak (HE.out.keepb hk (fun k_ hk_ => by have := HDD.out.gc; omega))
        have hct6 := blk_cell HD6.out.bt 0
        have he6 := HE6.out.cell 5 _ rfl
        clear hi hl hk
        go_wp2_with fail
        refine hK.out _ _ ?_ (fun hHc => ?_)
        ·(try dsimp only); exact ⟨hct6, he6⟩
        clear hK K
        refine wpAnyN_one (i := 15) (by kernel_rfl) rfl (fun K hK => ?_)
        go_simp
        refine hK.out _ _ ?_ (fun hHb => ?_)
        ·(try dsimp only); exact ⟨pw_cell_below (below_alloc (Below.refl _ _) _) hct6, pw_cell_below (below_alloc (Below.refl _ _) _) he6⟩
        clear hK K
        refine wpAnyN_one (i := 16) (by kernel_rfl) rfl (fun K hK => ?_)
        refine Kd.R_append_step (Kd.int .i64) (w0 := w0) w0.heap.size (by rfl) (.tmp 34) (.tmp 41) 37 3 (.int .i64 0) 8 rfl Try.underlying37 info3 rfl (by decide) (by omega) v5 (rd_T45 xs a).f5 y [.int .i64 y] oki (fun _ => False) rfl rfl rfl (fun _ hk => hk.elim) (fun k_ hk => HE6.out.new k_ (by have := HD6.out.kp.1; have := blk_lt HD6.out.bt; have := blk_lt HD6.out.br; omega) hk) HE6.out.r5 HD6.out.low HD6.out.low.size (by have := C5.out; omega) ?_
        intro v5n wB ho5 hlow hgw hat
        have HD7 := Ak (HD6.out.kid HE6.out ho5 hlow hgw)
        have HI7 := Ak ((HI6.out.grown hgw (HI6.out.own_ne HE6.out.r5 (by decide))).far (p := ⟨gx, a.toNat * 6 + 5, none⟩) (by have := HD6.out.okx; have := HD6.out.gc; show g ≠ gx; omega) v5n)
        have hfk := HE6.out.gfree hgw
        have hck := HE6.out.gcell hgw 5 _ rfl
        have hcb := (blk_cell (blk_grown HD6.out.bt hgw (Kd.R_ne HE6.out.r5 HD6.out.bt (by decide))) 0)
        obtain ⟨B5, d5, ev5⟩ := Kd.R_slice ho5
        rw [List.length_append, List.length_singleton] at ev5
        subst ev5
        clear ho5 hlow hgw hat
        refine hK.out _ _ ?_ (fun hHg => ?_)
        ·exact ⟨hcb, hck⟩
        clear hK K
        refine wpAnyN_one (i := 17) (by kernel_rfl) rfl (fun K hK => ?_)
        go_simp
        refine hK.out _ _ ?_ (fun hHh17 => ?_)
        ·(try dsimp only); exact hHg
        clear hK K
        refine wpAnyN_one (i := 18) (by kernel_rfl) rfl (fun K hK => ?_)
        go_simp
        refine hK.out _ _ ?_ (fun hHh18 => ?_)
        ·(try dsimp only); exact hHg
        clear hK K
        refine wpAnyN_last (by kernel_rfl) (by kernel_rfl) rfl (fun K hK => ?_)
        go_simp
        refine hK.out _ _ ?_
        clear hK K
        clear hHeld hHc hHb hHg hck hfk hcb hct6 he6 hct he5 HE HE6 HD6 HI6 HDD HID
        generalize World.setCell wB ⟨gx, a.toNat * 6 + 5, none⟩ _ = w7 at HD7 HI7 ⊢
        have hct7 := blk_cell HD7.out.bt 0
        have hcr7 := blk_cell HD7.out.br 0
        have hfr7 := blk_frozen HD7.out.br
        go_wp2
        refine bodyPost_ret (results_cell_row rfl _ _ gr 29 #[(.slice (some ⟨gx, 0, none⟩) xs.length cx)] (0, 0) _ rfl (blk_put (cs := #[.slice none 0 0]) HD7.out.br 0 _ rfl) Try.underlying29 rfl (by kernel_rfl)) rfl ?_
        exact ⟨_, rfl, HD7.out.done.1, HI7.out.far (by have := HD7.out.gr_; have := HD7.out.gc; show g ≠ gr; omega) _, HD7.out.done.2.1, HD7.out.done.2.2⟩
       ·rw [if_neg c5] at H; cases H
      ·rw [if_neg m1] at H
       have b1 : (m == 1) = false := beq_eq_false_iff_ne.2 m1
       by_cases m2 : m = 2
       ·subst m2
        rw [if_pos rfl] at H
        obtain ⟨⟨y, i4, h4⟩, A1, H⟩ := Option.bind_eq_some_iff.1 H
        dsimp only at A1 H
        injection H with H
        injection H with e1 H
        injection H with e2 e3
        subst e1 e2 e3
        have HA1 := Ak A1
        clear A1
        go_upto_region 9 with (fail)
        clear hct hcr hfr hft
        have HDD := Ak (show DrwW w0 w w5.drew g gt gr (.slice (some ⟨gx, 0, none⟩) xs.length cx) xs from HD5.out.below (pw_below_drewN (Below.refl _ _) 1))
        have HID := Ak (show IsS117 w0 w5.drew g b i3 h3 from HI5.out)
        have hct := blk_cell HDD.out.bt 0
        refine wp_region_N (n := 7) (S := (fun w' => w'.cell? ⟨gt, 0, none⟩ = some (.slice (some ⟨gx, 0, none⟩) xs.length cx))) (by kernel_rfl) hct (fun hHeld => ?_)
        generalize w5.drew = WD at HDD HID hct hHeld ⊢
        refine wpAnyN_take (i := 0) (v := ?v500) rfl (by kernel_rfl) (by kernel_rfl) (by kernel_rfl) (by kernel_rfl) (fun _ _ _ h => h) (Or.inl ⟨by rfl, ?h500⟩) hHeld ?r500
        case h500 => (intro w_ hSw; (try dsimp only at hSw); go_simp; (try with_reducible rfl))
        refine wpAnyN_take (i := 1) (v := ?v601) rfl (by kernel_rfl) (by kernel_rfl) (by kernel_rfl) (by kernel_rfl) (fun _ _ _ h => h) (Or.inl ⟨by rfl, ?h601⟩) hHeld ?r601
        case h601 => (intro w_ hSw; (try dsimp only at hSw); go_simp; (try with_reducible rfl))
        refine wpAnyN_take (i := 2) (v := ?v702) rfl (by kernel_rfl) (by kernel_rfl) (by kernel_rfl) (by kernel_rfl) (fun _ _ _ h => h) (Or.inl ⟨by rfl, ?h702⟩) hHeld ?r702
        case h702 => (intro w_ hSw; (try dsimp only at hSw); go_simp; (try with_reducible rfl))
        refine wpAnyN_take (i := 3) (v := ?v803) rfl (by kernel_rfl) (by kernel_rfl) (by kernel_rfl) (by kernel_rfl) (fun _ _ _ h => h) (Or.inl ⟨by rfl, ?h803⟩) hHeld ?r803
        case h803 => (intro w_ hSw; (try dsimp only at hSw); go_simp; (try with_reducible rfl))
        refine wpAnyN_one (i := 4) (by kernel_rfl) rfl (fun K hK => ?_)
        go_simp
        go_at_call 101
        with_reducible refine (spec_l1Below.calls g b i3 h3 7 y i4 h4 w0 WD HID.out HDD.out.low HA1.out).mono ?_
        rintro e w6 ⟨rfl, hi, hl, hk⟩
        have HD6 := Ak (HDD.out.keep hl hk)
        have HI6 := Ak hi
        have hct6 := blk_cell HD6.out.bt 0
        clear hi hl hk
        go_wp2_with fail
        refine hK.out _ _ ?_ (fun hHc => ?_)
        ·(try dsimp only); exact hct6
        clear hK K
        refine wpAnyN_one (i := 5) (by kernel_rfl) rfl (fun K hK => ?_)
        go_simp
        refine hK.out _ _ ?_ (fun hHd5 => ?_)
        ·(try dsimp only); exact hHc
        clear hK K
        refine wpAnyN_one (i := 6) (by kernel_rfl) rfl (fun K hK => ?_)
        go_simp
        refine hK.out _ _ ?_ (fun hHd6 => ?_)
        ·(try dsimp only); exact hHc
        clear hK K
        have hfx := HD6.out.free
        have hcx := (ElemW.cell (ElemW.of HD6.out.s a C1.out (by have := C2.out; omega)).choose_spec.choose_spec.choose_spec 0 _ rfl)
        rw [Nat.add_zero] at hcx
        refine wpAnyN_last (by kernel_rfl) (by kernel_rfl) rfl (fun K hK => ?_)
        go_simp
        refine hK.out _ _ ?_
        clear hK K
        obtain ⟨oki, v2, v5, HE⟩ := ElemW.of HD6.out.s a C1.out (by have := C2.out; omega)
        have HD7 := Ak (HD6.out.elem (HE.kind y))
        have HI7 := Ak (HI6.out.far (p := ⟨gx, a.toNat * 6, none⟩) (by have := HD6.out.okx; have := HD6.out.gc; show g ≠ gx; omega) (.int .i64 y))
        clear hcx hfx hct6 hHc hHeld hct HE
        generalize World.setCell w6 ⟨gx, a.toNat * 6, none⟩ (.int .i64 y) = w7 at HD7 HI7 ⊢
        have hct7 := blk_cell HD7.out.bt 0
        have hcr7 := blk_cell HD7.out.br 0
        have hfr7 := blk_frozen HD7.out.br
        go_wp2
        refine bodyPost_ret (results_cell_row rfl _ _ gr 29 #[(.slice (some ⟨gx, 0, none⟩) xs.length cx)] (0, 0) _ rfl (blk_put (cs := #[.slice none 0 0]) HD7.out.br 0 _ rfl) Try.underlying29 rfl (by kernel_rfl)) rfl ?_
        exact ⟨_, rfl, HD7.out.done.1, HI7.out.far (by have := HD7.out.gr_; have := HD7.out.gc; show g ≠ gr; omega) _, HD7.out.done.2.1, HD7.out.done.2.2⟩
       ·rw [if_neg m2] at H
        have b2 : (m == 2) = false := beq_eq_false_iff_ne.2 m2
        by_cases m3 : m = 3
        ·subst m3
         rw [if_pos rfl] at H
         injection H with H
         injection H with e1 H
         injection H with e2 e3
         subst e1 e2 e3
         have hfx := HD5.out.free
         have hcx := (ElemW.cell (ElemW.of HD5.out.s a C1.out (by have := C2.out; omega)).choose_spec.choose_spec.choose_spec 3 _ rfl)
         go_upto_region 16 with (fail)
         obtain ⟨oki, v2, v5, HE⟩ := ElemW.of HD5.out.s a C1.out (by have := C2.out; omega)
         have HD7 := Ak (HD5.out.elem (HE.text ⟨#[255]⟩))
         have HI7 := Ak (HI5.out.far (p := ⟨gx, a.toNat * 6 + 3, none⟩) (by have := HD5.out.okx; have := HD5.out.gc; show g ≠ gx; omega) (.string ⟨#[255]⟩))
         clear hcx hfx hct hcr hfr hft HE
         generalize World.setCell w5 ⟨gx, a.toNat * 6 + 3, none⟩ (.string ⟨#[255]⟩) = w7 at HD7 HI7 ⊢
         have hct7 := blk_cell HD7.out.bt 0
         have hcr7 := blk_cell HD7.out.br 0
         have hfr7 := blk_frozen HD7.out.br
         go_wp2
         refine bodyPost_ret (results_cell_row rfl _ _ gr 29 #[(.slice (some ⟨gx, 0, none⟩) xs.length cx)] (0, 0) _ rfl (blk_put (cs := #[.slice none 0 0]) HD7.out.br 0 _ rfl) Try.underlying29 rfl (by kernel_rfl)) rfl ?_
         exact ⟨_, rfl, HD7.out.done.1, HI7.out.far (by have := HD7.out.gr_; have := HD7.out.gc; show g ≠ gr; omega) _, HD7.out.done.2.1, HD7.out.done.2.2⟩
        ·rw [if_neg m3] at H
         have b3 : (m == 3) = false := beq_eq_false_iff_ne.2 m3
         obtain rfl : m = 4 := by omega
         injection H with H
         injection H with e1 H
         injection H with e2 e3
         subst e1 e2 e3
         have hfx := HD5.out.free
         have hcx := (ElemW.cell (ElemW.of HD5.out.s a C1.out (by have := C2.out; omega)).choose_spec.choose_spec.choose_spec 1 _ rfl)
         go_upto_region 16 with (fail)
         obtain ⟨oki, v2, v5, HE⟩ := ElemW.of HD5.out.s a C1.out (by have := C2.out; omega)
         have HD7 := Ak (HD5.out.elem (HE.name ⟨#[80]⟩))
         have HI7 := Ak (HI5.out.far (p := ⟨gx, a.toNat * 6 + 1, none⟩) (by have := HD5.out.okx; have := HD5.out.gc; show g ≠ gx; omega) (.string ⟨#[80]⟩))
         clear hcx hfx hct hcr hfr hft HE
         generalize World.setCell w5 ⟨gx, a.toNat * 6 + 1, none⟩ (.string ⟨#[80]⟩) = w7 at HD7 HI7 ⊢
         have hct7 := blk_cell HD7.out.bt 0
         have hcr7 := blk_cell HD7.out.br 0
         have hfr7 := blk_frozen HD7.out.br
         go_wp2
         refine bodyPost_ret (results_cell_row rfl _ _ gr 29 #[(.slice (some ⟨gx, 0, none⟩) xs.length cx)] (0, 0) _ rfl (blk_put (cs := #[.slice none 0 0]) HD7.out.br 0 _ rfl) Try.underlying29 rfl (by kernel_rfl)) rfl ?_
         exact ⟨_, rfl, HD7.out.done.1, HI7.out.far (by have := HD7.out.gr_; have := HD7.out.gc; show g ≠ gr; omega) _, HD7.out.done.2.1, HD7.out.done.2.2⟩
    ·rw [if_neg c2] at H; cases H
   ·rw [if_neg c1] at H; cases H
  ·rw [if_neg m04] at H
   injection H with H
   injection H with e1 H
   injection H with e2 e3
   subst e1 e2 e3
   have b0 : (m == 0) = false := beq_eq_false_iff_ne.2 (by omega)
   have b1 : (m == 1) = false := beq_eq_false_iff_ne.2 (by omega)
   have b2 : (m == 2) = false := beq_eq_false_iff_ne.2 (by omega)
   have b3 : (m == 3) = false := beq_eq_false_iff_ne.2 (by omega)
   have b4 : (m == 4) = false := beq_eq_false_iff_ne.2 (by omega)
   go_wp2
   refine bodyPost_ret (results_cell_row rfl _ _ gr 29 #[.slice Ax xs.length cx] (0, 0) _ rfl (blk_put (cs := #[.slice none 0 0]) HD5.out.br 0 _ rfl) Try.underlying29 rfl (by kernel_rfl)) rfl ?_
   exact ⟨_, rfl, HD5.out.done.1, HI5.out.far (by have := HD5.out.gr_; have := HD5.out.gc; show g ≠ gr; omega) _, HD5.out.done.2.1, HD5.out.done.2.2⟩
def spec_l6DrawAt.f (s0_0 : List Int) (s0_1 : Int) (s0_2 : Int) (l1_0 : List (S45)) : Option (Int × Int × Int) := (spec_l1Below.f s0_0 s0_1 s0_2 (wrap64 ((l1_0.length : Int) + 1))).bind fun bt102 => ((spec_l1Below.f s0_0 bt102.2.1 bt102.2.2 20).bind fun bt105 => (some (wrap64 (bt102.1 - (wrap64 (Int.tdiv bt105.1 19))), bt105.2.1, bt105.2.2)))
theorem spec_l6DrawAt.calls (g : Nat) (s0_0 : List Int) (s0_1 : Int) (s0_2 : Int) (A1_0 : Option Addr) (c1_0 : Nat) (l1_0 : List (S45)) (r1 : Int) (r2 : Int) (r3 : Int) (w0 w : World) (hI : IsS117 w0 w g s0_0 s0_1 s0_2) (hB : Below w0.heap.size w0 w) (hr1_0 : ∀ W_, KeepBut w W_ g none → Kd.C k45 W_ A1_0 l1_0.length l1_0) (hc1_0 : l1_0.length ≤ c1_0) (h : spec_l6DrawAt.f s0_0 s0_1 s0_2 l1_0 = some (r1, r2, r3)) :
 Calls Try.prog 70 #[.pointer (some ⟨g, 0, none⟩), .agg #[.slice A1_0 l1_0.length c1_0]] w fun e w' => e = .returned (.int .i64 r1) ∧ IsS117 w0 w' g s0_0 r2 r3 ∧ Below w0.heap.size w0 w' ∧ KeepBut w w' g none := by
 have hu29 := Try.underlying29
 have HR1_0 := Ak hr1_0
 have HC1_0 := Ak hc1_0
 clear hr1_0 hc1_0
 have HI0 := Ak hI
 have HK := Ak (KeepBut.refl w g none)
 have HL := Ak hB.size
 clear hI
 have HW0 := Ak hB.size
 have HB := Ak hB
 clear hB
 have H : ((spec_l1Below.f s0_0 s0_1 s0_2 (wrap64 ((l1_0.length : Int) + 1))).bind fun bt102 => ((spec_l1Below.f s0_0 bt102.2.1 bt102.2.2 20).bind fun bt105 => (some (wrap64 (bt102.1 - (wrap64 (Int.tdiv bt105.1 19))), bt105.2.1, bt105.2.2)))) = some (r1, r2, r3) := h
 clear h
 replace H := Option.bind_eq_some_iff.mp H
 obtain ⟨⟨t102, t103, t104⟩, A30, H⟩ := H
 replace H : ((spec_l1Below.f s0_0 t103 t104 20).bind fun bt105 => (some (wrap64 (t102 - (wrap64 (Int.tdiv bt105.1 19))), bt105.2.1, bt105.2.2))) = some (r1, r2, r3) := H
 have A3 := Ak A30
 clear A30
 replace H := Option.bind_eq_some_iff.mp H
 obtain ⟨⟨t105, t106, t107⟩, A40, H⟩ := H
 replace H : (some (wrap64 (t102 - (wrap64 (Int.tdiv t105 19))), t106, t107)) = some (r1, r2, r3) := H
 have A4 := Ak A40
 clear A40
 simp only [Option.some.injEq, Prod.mk.injEq] at H
 obtain ⟨rfl, rfl, rfl⟩ := H
 go_enter Try.func70, Try.ntmps70
 go_wp2_with (first | ((with_reducible refine gate_dst (N := 3) rfl ?_); refine box_event ?hg (N := 3) ?hd (cs := #[.slice A1_0 l1_0.length c1_0]) (t := 29) ?hr ?_; (case hd => rfl); (case hg => rfl); (case hr => first | (go_simp; done) | (go_simp; rfl)); intro gb101 hg w5 hbox hb; have n0_ := Ak (IsS117.below (HI0.out) hb); have n1_ := Ak (KeepBut.trans (HK.out) (KeepBut.of_below hb g none) (.inl rfl)); have n2_ := Ak (below_step (by repeat (first | exact HB.out | apply below_alloc | apply pw_below_drewN | apply below_drew1 | refine below_set ?_ (IsS117.ge HI0.out))) hb); have n3_ := Ak (hbox); have n4_ := Ak ((by rw [hg]; exact (keep_size (w := w) (g := g) (row := none) (HK.out)) : w.heap.size ≤ gb101)); have n5_ := Ak ((Nat.le_trans HW0.out (by rw [hg]; exact (keep_size (w := w) (g := g) (row := none) (HK.out)) : w.heap.size ≤ gb101) : w0.heap.size ≤ gb101)); have n6_ := Ak ((by rw [hg]; exact Nat.ne_of_lt (IsS117.lt (show IsS117 w0 _ g s0_0 s0_1 s0_2 from HI0.out)) : g ≠ gb101)); have n7_ := Ak ((by rw [hg]; exact Nat.ne_of_gt (IsS117.lt (show IsS117 w0 _ g s0_0 s0_1 s0_2 from HI0.out)) : gb101 ≠ g)); clear HI0; clear HK; clear HB; have HI0 := n0_; have HK := n1_; have HB := n2_; have BK101 := n3_; have GW101 := n4_; have GE101 := n5_; have NB0_101 := n6_; have NB101_0 := n7_; clear n0_ n1_ n2_ n3_ n4_ n5_ n6_ n7_; clear hb hbox hg; have hnb6 := NB101_0.out; have hnc6 := NB0_101.out; have hcz7_0 := blk_cell BK101.out 0; have hfz7_0 := blk_frozen BK101.out 0) | ((with_reducible refine gate_callee (f := 101) rfl ?_); refine goesL_ (some 10) rfl rfl Try.func101 (by kernel_rfl) rfl #[.pointer (some ⟨g, 0, none⟩), .int .i64 (wrap64 ((l1_0.length : Int) + 1))] rfl (by (try simp only [List.map_toArray, List.map_cons, List.map_nil]); first | done | rfl | (simp only [List.length_drop, List.length_take]; rfl)) ?_; (with_reducible refine (spec_l1Below.calls g s0_0 s0_1 s0_2 (wrap64 ((l1_0.length : Int) + 1)) t102 t103 t104 w0 _ ?side1 ?side2 A3.out).mono ?_); (case side1 => repeat (first | (with_reducible first | exact HI0.out | apply IsS117.alloc | apply IsS117.drewN | apply IsS117.drew | apply IsS117.set_1 | apply IsS117.set_2 | refine IsS117.far ?_ NB0_101.out _) | exact HI0.out)); (case side2 => repeat (first | (with_reducible first | exact HB.out | apply below_alloc | apply pw_below_drewN | apply below_drew1 | refine below_set ?_ (IsS117.ge HI0.out) | refine below_set ?_ GE101.out) | exact HB.out)); rintro e w8 ⟨rfl, hi, hb, hk⟩; refine ⟨_, rfl, ?_⟩; have n0_ := Ak (KeepBut.blk hk (g' := gb101) (o := .cells #[.slice A1_0 l1_0.length c1_0] 29 (0, 0)) BK101.out NB101_0.out (by simp)); have n1_ := Ak (KeepBut.trans (HK.out) hk (.inl rfl)); have n2_ := Ak (hb); have n3_ := Ak (hi); clear BK101; clear HK; clear HB; clear HI0; have BK101 := n0_; have HK := n1_; have HB := n2_; have HI0 := n3_; clear n0_ n1_ n2_ n3_; (try clear hb)) | ((with_reducible refine gate_callee (f := 101) rfl ?_); refine goesL_ (some 12) rfl rfl Try.func101 (by kernel_rfl) rfl #[.pointer (some ⟨g, 0, none⟩), .int .i64 20] rfl (by (try simp only [List.map_toArray, List.map_cons, List.map_nil]); first | done | rfl | (simp only [List.length_drop, List.length_take]; rfl)) ?_; (with_reducible refine (spec_l1Below.calls g s0_0 t103 t104 20 t105 t106 t107 w0 _ ?side1 ?side2 A4.out).mono ?_); (case side1 => repeat (first | (with_reducible first | exact HI0.out | apply IsS117.alloc | apply IsS117.drewN | apply IsS117.drew | apply IsS117.set_1 | apply IsS117.set_2 | refine IsS117.far ?_ NB0_101.out _) | exact HI0.out)); (case side2 => repeat (first | (with_reducible first | exact HB.out | apply below_alloc | apply pw_below_drewN | apply below_drew1 | refine below_set ?_ (IsS117.ge HI0.out) | refine below_set ?_ GE101.out) | exact HB.out)); rintro e w9 ⟨rfl, hi, hb, hk⟩; refine ⟨_, rfl, ?_⟩; have n0_ := Ak (KeepBut.blk hk (g' := gb101) (o := .cells #[.slice A1_0 l1_0.length c1_0] 29 (0, 0)) BK101.out NB101_0.out (by simp)); have n1_ := Ak (KeepBut.trans (HK.out) hk (.inl rfl)); have n2_ := Ak (hb); have n3_ := Ak (hi); clear BK101; clear HK; clear HB; clear HI0; have BK101 := n0_; have HK := n1_; have HB := n2_; have HI0 := n3_; clear n0_ n1_ n2_ n3_; (try clear hb)))
 go_ret
 exact ⟨by first | rfl | (simp [*] <;> rfl), HI0.out, by repeat (first | exact HB.out | apply below_alloc | apply pw_below_drewN | apply below_drew1 | refine below_set ?_ (IsS117.ge HI0.out) | refine below_set ?_ GE101.out), HK.out⟩
def spec_DrawTextOf.f (k : Nat) (l : List Int) : Option (List S45 × Int) := (spec_l1New.f k l).bind fun c => (spec_l6DrawTree.f k c.1 c.2.1 c.2.2).bind fun t => (spec_l6DrawAt.f c.1 t.2.1 t.2.2 t.1).bind fun p => some (t.1, p.1)
theorem spec_DrawTextOf.mono : ∀ a0 k, LeO (spec_DrawTextOf.f k a0) (spec_DrawTextOf.f (k + 1) a0) := fun _ k => LeO.bind (spec_l1New.mono _ k) (fun _ => LeO.bind (spec_l6DrawTree.mono _ _ _ k) (fun _ => LeO.refl _))
structure DtoW (w W : World) (g gt gr : Nat) (v : Value) (xs : List S45) : Prop where
 bt : W.heap[gt]? = some (.cells #[v] 29 (0, 0))
 br : W.heap[gr]? = some (.cells #[.slice none 0 0] 29 (0, 0))
 s : Kd.S k45 45 W w.heap.size (fun k => w.heap.size ≤ k ∧ k ≠ gt ∧ k ≠ gr ∧ k ≠ g) v xs
 low : Below w.heap.size w W
 ge : w.heap.size ≤ gr
 gtr : gt ≠ gr
 ggt : g ≠ gt
 ggr : g ≠ gr
section
variable {w W W2 : World} {g gt gr : Nat} {v : Value} {xs : List S45}
theorem DtoW.keep (h : DtoW w W g gt gr v xs) (hl : Below w.heap.size w W2) (hk : KeepBut W W2 g none) : DtoW w W2 g gt gr v xs :=
 ⟨hk.blk h.bt (Ne.symm h.ggt) (by simp), hk.blk h.br (Ne.symm h.ggr) (by simp), Kd.S_keep h.s hk (fun k h_ => h_.2.2.2), hl, h.ge, h.gtr, h.ggt, h.ggr⟩
theorem DtoW.done (h : DtoW w W g gt gr v xs) : Kd.S k45 45 (W.setCell ⟨gr, 0, none⟩ v) w.heap.size (fun k => w.heap.size ≤ k) v xs ∧ Below w.heap.size w (W.setCell ⟨gr, 0, none⟩ v) :=
 ⟨Kd.S_mono (Kd.S_far (p := ⟨gr, 0, none⟩) h.s (fun _ hk => hk.2.2.1) _) (fun _ hk => hk.1), below_set h.low h.ge⟩
end
theorem spec_DrawTextOf.calls (k : Nat) (A0 : Option Addr) (c0 : Nat) (l0 : List Int) (r1 : List S45) (r2 : Int) (w : World) (hr0 : Kd.C (Kd.int .u8) w A0 l0.length l0) (hc0 : l0.length ≤ c0) (hf : spec_DrawTextOf.f k l0 = some (r1, r2)) :
 Calls Try.prog 30 #[.slice A0 l0.length c0] w fun e w' => ∃ v_ : Value, e = .returned (.tuple #[.agg #[v_], .int .i64 r2]) ∧ Kd.S k45 45 w' w.heap.size (fun k_ => w.heap.size ≤ k_) v_ r1 ∧ Below w.heap.size w w' := by
 unfold spec_DrawTextOf.f at hf
 obtain ⟨⟨b, i, h⟩, E0, hf⟩ := Option.bind_eq_some_iff.1 hf
 obtain ⟨⟨xs, i2, h2⟩, E1, hf⟩ := Option.bind_eq_some_iff.1 hf
 obtain ⟨⟨p, i3, h3⟩, E2, hf⟩ := Option.bind_eq_some_iff.1 hf
 dsimp only at E0 E1 E2 hf
 injection hf with hf
 injection hf with e1 e2
 subst e1 e2
 replace E0 := Ak E0
 replace E1 := Ak E1
 replace E2 := Ak E2
 have HC := Ak hr0
 have HCC := Ak hc0
 clear hr0 hc0
 go_enter Try.func30, Try.ntmps30
 go_upto_region 2 with (first | ((with_reducible refine gate_dst (N := 2) rfl ?_); refine box_event ?hg (N := 2) ?hd (cs := #[.slice none 0 0]) (t := 29) ?hr ?_; (case hd => rfl); (case hg => rfl); (case hr => first | (go_simp; done) | (go_simp; rfl)); intro gr hg w1 hbox hb; have HR := Ak hbox; have HL1 := Ak hb; have HGR := Ak (show w.heap.size ≤ gr by rw [hg]; exact Nat.le_refl _); clear hbox hb hg) | (go_at_call 68; (with_reducible refine (spec_l1New.calls k A0 c0 l0 b i h w w1 HL1.out HC.out HCC.out E0.out).mono ?_); rintro e w2 ⟨g, rfl, hi, hl, hl1⟩; have HI := Ak hi; have HL2 := Ak hl; have HL3 := Ak hl1; clear hi hl hl1))
 go_upto_region 3 with (first | (go_at_call 69; (with_reducible refine (spec_l6DrawTree.calls k g b i h xs i2 h2 w w2 HI.out HL2.out E1.out).mono ?_); rintro e w3 ⟨v, rfl, hS, hi, hl, hk⟩; obtain ⟨Ax, cx, rfl⟩ := Kd.S_slice hS; have HS3 := Ak hS; have HI3 := Ak hi; have HL4 := Ak hl; have HK3 := Ak hk; clear hS hi hl hk))
 have HR2 := Ak (blk_below HR.out HL3.out)
 have HGG := Ak (HI.out.ne_blk HR2.out (by decide))
 have HD := Ak (show DtoW w (w3.alloc (.cells #[.slice Ax xs.length cx] 29)) g w3.heap.size gr (.slice Ax xs.length cx) xs from ⟨blk_new _ _, blk_below (HK3.out.blk HR2.out (Ne.symm HGG.out) (by simp)) (below_alloc (Below.refl _ _) _), Kd.S_below (Kd.S_mono (Kd.S_bound HS3.out) (fun k_ hk => ⟨Nat.le_trans HL2.out.size hk.1, by have := hk.2.2.1; omega, by have := hk.1; have := blk_lt HR2.out; omega, by have := hk.1; have := HI.out.lt; omega⟩)) (below_alloc (Below.refl _ _) _), below_step HL4.out (below_alloc (Below.refl _ _) _), HGR.out, by have := blk_lt HR2.out; have := HK3.out.1; omega, by have := HI.out.lt; have := HK3.out.1; omega, HGG.out⟩)
 have HI4 := Ak (HI3.out.below (below_alloc (Below.refl _ _) (.cells #[.slice Ax xs.length cx] 29)))
 generalize w3.alloc (.cells #[.slice Ax xs.length cx] 29) = w4 at HD HI4 ⊢
 generalize w3.heap.size = gt at HD ⊢
 clear HS3 HI3 HL4 HK3 HR HL1 HGR HI HR2 HGG HL2 HL3
 have HDD := Ak (show DtoW w w4.drew g gt gr (.slice Ax xs.length cx) xs from HD.out.keep (below_step HD.out.low (pw_below_drewN (Below.refl _ _) 1)) ⟨Nat.le_refl _, fun _ _ _ _ => rfl⟩)
 have HID := Ak (show IsS117 w w4.drew g b i2 h2 from HI4.out)
 clear HD HI4
 have hct := blk_cell HDD.out.bt 0
 refine wp_region_N (n := 5) (S := (fun w' => w'.cell? ⟨gt, 0, none⟩ = some (.slice Ax xs.length cx))) (by kernel_rfl) hct (fun hHeld => ?_)
 generalize w4.drew = WD at HDD HID hct hHeld ⊢
 refine wpAnyN_take (i := 0) (v := ?v100) rfl (by kernel_rfl) (by kernel_rfl) (by kernel_rfl) (by kernel_rfl) (fun _ _ _ h => h) (Or.inl ⟨by rfl, ?h100⟩) hHeld ?r100
 case h100 => (intro w_ hSw; (try dsimp only at hSw); go_simp; (try with_reducible rfl))
 refine wpAnyN_take (i := 1) (v := ?v201) rfl (by kernel_rfl) (by kernel_rfl) (by kernel_rfl) (by kernel_rfl) (fun _ _ _ h => h) (Or.inl ⟨by rfl, ?h201⟩) hHeld ?r201
 case h201 => (intro w_ hSw; (try dsimp only at hSw); go_simp; (try with_reducible rfl))
 refine wpAnyN_take (i := 2) (v := ?v302) rfl (by kernel_rfl) (by kernel_rfl) (by kernel_rfl) (by kernel_rfl) (fun _ _ _ h => h) (Or.inl ⟨by rfl, ?h302⟩) hHeld ?r302
 case h302 => (intro w_ hSw; (try dsimp only at hSw); go_simp; (try with_reducible rfl))
 refine wpAnyN_one (i := 3) (by kernel_rfl) rfl (fun K hK => ?_)
 go_simp
 go_at_call 70
 with_reducible refine (spec_l6DrawAt.calls g b i2 h2 Ax cx xs p i3 h3 w WD HID.out HDD.out.low (fun W_ hk => (Kd.S_reads' (Kd.S_keep HDD.out.s hk (fun k_ h_ => h_.2.2.2))).2.2) (Kd.S_reads' HDD.out.s).2.1 E2.out).mono ?_
 rintro e w6 ⟨rfl, hi, hl, hk⟩
 have HD6 := Ak (HDD.out.keep hl hk)
 have hct6 := blk_cell HD6.out.bt 0
 have hcr6 := blk_cell HD6.out.br 0
 have hfr6 := blk_frozen HD6.out.br
 clear hi hl hk
 go_wp2_with fail
 refine hK.out _ _ ?_ (fun hHc => ?_)
 ·(try dsimp only); exact hct6
 clear hK K
 refine wpAnyN_one (i := 4) (by kernel_rfl) rfl (fun K hK => ?_)
 go_simp
 refine hK.out _ _ ?_ (fun hHd => ?_)
 ·(try dsimp only); exact blk_cell (blk_far (p := ⟨gr, 0, none⟩) HD6.out.bt HD6.out.gtr _) 0
 clear hK K
 refine wpAnyN_last (by kernel_rfl) (by kernel_rfl) rfl (fun K hK => ?_)
 go_simp
 refine hK.out _ _ ?_
 clear hK K
 clear hHeld hHc hHd hct hct6 hcr6 hfr6 HDD HID
 go_wp2
 refine bodyPost_ret (results_ct rfl _ _ gr 29 #[.slice Ax xs.length cx] (0, 0) _ rfl (blk_put (cs := #[.slice none 0 0]) HD6.out.br 0 _ rfl) Try.underlying29 rfl (by kernel_rfl)) rfl ?_
 exact ⟨_, rfl, HD6.out.done.1, HD6.out.done.2⟩
def laws_FnTexts.l0 : Nat → Int → ByteArray → List S45 → List Int → Option ByteArray
 | 0, _, _, _, _ => none
 | k + 1, i, out, xs, ks => if i < (ks.length : Int) then (if 0 ≤ i then ((impl_TextOf.f k xs (rd ks i)).bind fun t => if out.size + t.size ≤ 9223372036854775807 then laws_FnTexts.l0 k (wrap64 (i + 1)) (out ++ t) xs ks else none) else none) else some out
def laws_FnTexts.f (k : Nat) (l : List Int) : Option Bool := (laws_big.f l).bind fun t => if t = true then some true else (spec_DrawTextOf.f k l).bind fun d => (impl_TextOf.f k d.1 d.2).bind fun s => (spec_TextOf.f k d.1 d.2).bind fun z => if s.toList = z.toList then ((spec_TreeOk.f k d.1).bind fun ok => if ok = true then (if d.2 < 0 then some s.toList.isEmpty else if d.2 ≥ (d.1.length : Int) then some s.toList.isEmpty else (laws_FnTexts.l0 k 0 (if (rd_T45 d.1 d.2).f0 = 4 then (rd_T45 d.1 d.2).f3 else ⟨#[]⟩) d.1 (rd_T45 d.1 d.2).f5).bind fun out => some (out.toList == s.toList)) else some s.toList.isEmpty) else some false
theorem laws_FnTexts.mono_l : ∀ k, (∀ y0 y1 y2 y3, LeO (laws_FnTexts.l0 k y0 y1 y2 y3) (laws_FnTexts.l0 (k + 1) y0 y1 y2 y3))
 | 0 => fun _ _ _ _ r h => by simp [laws_FnTexts.l0] at h
 | k + 1 => fun y0 y1 y2 y3 => by
  simp only [laws_FnTexts.l0]
  exact LeO.ite (LeO.ite (LeO.bind (impl_TextOf.mono _ _ k) (fun _ => LeO.ite (laws_FnTexts.mono_l k _ _ _ _) (LeO.refl _))) (LeO.refl _)) (LeO.refl _)
theorem laws_FnTexts.mono : ∀ a0 k, LeO (laws_FnTexts.f k a0) (laws_FnTexts.f (k + 1) a0) := fun _ k => LeO.bind (LeO.refl _) (fun _ => LeO.ite (LeO.refl _) (LeO.bind (spec_DrawTextOf.mono _ k) (fun _ => LeO.bind (impl_TextOf.mono _ _ k) (fun _ => LeO.bind (spec_TextOf.mono _ _ k) (fun _ => LeO.ite (LeO.bind (spec_TreeOk.mono _ k) (fun _ => LeO.ite (LeO.ite (LeO.refl _) (LeO.ite (LeO.refl _) (LeO.bind (laws_FnTexts.mono_l k _ _ _ _) (fun _ => LeO.refl _)))) (LeO.refl _))) (LeO.refl _))))))
structure TxtN (w W : World) (gt gb : Nat) (ad : Addr) (c : Nat) (xs : List S45) (x : S45) (A_2 : Option Addr) (c_2 : Nat) (A_5 : Option Addr) (c_5 : Nat) : Prop where
 bt : W.heap[gt]? = some (.cells #[.slice (some ad) xs.length c] 29 (0, 0))
 bn : W.heap[gb]? = some (.cells #[.int .i64 x.f0, .string x.f1, .slice A_2 x.f2.length c_2, .string x.f3, .int .i64 x.f4, .slice A_5 x.f5.length c_5] 45 (0, 0))
 row : Kd.C k45 W (some ad) xs.length xs
 cap : xs.length ≤ c
 k5 : Kd.C (Kd.int .i64) W A_5 x.f5.length x.f5
 low : Below w.heap.size w W
section
variable {w W W2 : World} {gt gb c c_2 c_5 : Nat} {ad : Addr} {xs : List S45} {x : S45} {A_2 A_5 : Option Addr}
theorem TxtN.below (h : TxtN w W gt gb ad c xs x A_2 c_2 A_5 c_5) (hb : Below W.heap.size W W2) : TxtN w W2 gt gb ad c xs x A_2 c_2 A_5 c_5 := ⟨blk_below h.bt hb, blk_below h.bn hb, Kd.C_below h.row hb, h.cap, Kd.C_below h.k5 hb, below_step h.low hb⟩
theorem TxtN.tree (h : TxtN w W gt gb ad c xs x A_2 c_2 A_5 c_5) : W.cell? ⟨gt, 0, none⟩ = some (.slice (some ad) xs.length c) := (blk_cell h.bt 0).trans rfl
theorem TxtN.kids (h : TxtN w W gt gb ad c xs x A_2 c_2 A_5 c_5) : W.cell? ⟨gb, 5, none⟩ = some (.slice A_5 x.f5.length c_5) := (blk_cell h.bn 5).trans rfl
end
theorem laws_FnTexts.calls (k : Nat) (A0 : Option Addr) (c0 : Nat) (l0 : List Int) (r : Bool) (w : World) (hr0 : Kd.C (Kd.int .u8) w A0 l0.length l0) (hc0 : l0.length ≤ c0) (h : laws_FnTexts.f k l0 = some r) :
 Calls Try.prog 8 #[.slice A0 l0.length c0] w fun e w' => e = .returned (.bool r) ∧ Below w.heap.size w w' := by
 have HR := Ak hr0
 have HRC := Ak hc0
 clear hr0 hc0
 unfold laws_FnTexts.f at h
 obtain ⟨t, A0_, h⟩ := Option.bind_eq_some_iff.1 h
 replace A0_ := Ak A0_
 cases t with
 | true =>
  rw [if_pos rfl] at h
  obtain rfl := Option.some.inj h
  clear h
  go_enter Try.func8, Try.ntmps8
  go_wp2_with (first | (go_at_call 29; (with_reducible refine (laws_big.calls A0 c0 l0 true w HR.out HRC.out A0_.out).mono ?_); rintro e w1 ⟨rfl, ⟨nd, rfl⟩⟩))
  go_ret
  exact ⟨rfl, pw_below_drewN (Below.refl _ _) _⟩
 | false =>
  rw [if_neg (by decide)] at h
  obtain ⟨⟨xs, p⟩, A1, h⟩ := Option.bind_eq_some_iff.1 h
  obtain ⟨s, A2, h⟩ := Option.bind_eq_some_iff.1 h
  obtain ⟨z, A3, h⟩ := Option.bind_eq_some_iff.1 h
  dsimp only at A1 A2 A3 h
  replace A1 := Ak A1
  replace A2 := Ak A2
  replace A3 := Ak A3
  have HA := Ak h
  clear h
  go_enter Try.func8, Try.ntmps8
  go_upto_region 4 with (first | (go_at_call 29; (with_reducible refine (laws_big.calls A0 c0 l0 false w HR.out HRC.out A0_.out).mono ?_); rintro e w1 ⟨rfl, ⟨nd, rfl⟩⟩) | (go_at_call 30; (with_reducible refine (spec_DrawTextOf.calls k A0 c0 l0 xs p _ (Kd.C_drewN HR.out nd) HRC.out A1.out).mono ?_); rintro e w2 ⟨v, rfl, hS, hb⟩; obtain ⟨Ax, cx, rfl⟩ := Kd.S_slice hS; have HS2 := Ak hS; have HL2 := Ak hb; clear hS hb))
  have HX := Ak (show BoxW w (w2.alloc (.cells #[.slice Ax xs.length cx] 29)) w2.heap.size Ax xs.length cx from ⟨blk_new _ _, below_step (below_step (pw_below_drewN (Below.refl _ _) nd) HL2.out) (below_alloc (Below.refl _ _) _), HL2.out.size⟩)
  have HC := Ak (Kd.C_below (Kd.S_reads' HS2.out).2.2 (below_alloc (Below.refl w2.heap.size w2) (.cells #[.slice Ax xs.length cx] 29)))
  have HCC := Ak (Kd.S_reads' HS2.out).2.1
  generalize w2.alloc (.cells #[.slice Ax xs.length cx] 29) = w3 at HX HC ⊢
  generalize w2.heap.size = gt at HX ⊢
  clear HS2 HL2
  have hcg := HX.out.cell
  go_upto_region 5 with (first | (go_at_call 28; (with_reducible refine (impl_TextOf.calls k Ax cx xs p s w3 HC.out HCC.out A2.out).mono ?_); rintro e w4 ⟨rfl, hb⟩; have HX4 := Ak (HX.out.below hb); have HC4 := Ak (Kd.C_below HC.out hb); have hcg4 := HX4.out.cell; clear hb))
  have h := HA.out
  clear HA
  by_cases c1 : s.toList = z.toList
  ·rw [if_pos c1] at h
   have c1b0 : (s.toList == z.toList) = true := beq_iff_eq.mpr c1
   have c1b1 : (s.toList != z.toList) = false := bne_eq_false_iff_eq.mpr c1
   clear c1
   obtain ⟨ok, A4, h⟩ := Option.bind_eq_some_iff.1 h
   replace A4 := Ak A4
   cases ok with
   | false =>
    rw [if_neg (by decide)] at h
    obtain rfl := Option.some.inj h
    clear h
    go_wp2_with (first | (go_at_call 27; (with_reducible refine (spec_TextOf.calls k Ax cx xs p z w4 HC4.out HCC.out A3.out).mono ?_); rintro e w5 ⟨rfl, hb⟩; have HX5 := Ak (HX4.out.below hb); have HC5 := Ak (Kd.C_below HC4.out hb); have hcg5 := HX5.out.cell; clear hb) | (go_at_call 11; (with_reducible refine (spec_TreeOk.calls k Ax cx xs false w5 HC5.out HCC.out A4.out).mono ?_); rintro e w6 ⟨rfl, hb⟩; have HX6 := Ak (HX5.out.below hb); have HC6 := Ak (Kd.C_below HC5.out hb); have hcg6 := HX6.out.cell; clear hb))
    go_ret
    exact ⟨rfl, HX6.out.low⟩
   | true =>
    rw [if_pos rfl] at h
    by_cases c2 : p < 0
    ·rw [if_pos c2] at h
     obtain rfl := Option.some.inj h
     clear h
     have c2b : decide (p < 0) = true := decide_eq_true c2
     clear c2
     go_wp2_with (first | (go_at_call 27; (with_reducible refine (spec_TextOf.calls k Ax cx xs p z w4 HC4.out HCC.out A3.out).mono ?_); rintro e w5 ⟨rfl, hb⟩; have HX5 := Ak (HX4.out.below hb); have HC5 := Ak (Kd.C_below HC4.out hb); have hcg5 := HX5.out.cell; clear hb) | (go_at_call 11; (with_reducible refine (spec_TreeOk.calls k Ax cx xs true w5 HC5.out HCC.out A4.out).mono ?_); rintro e w6 ⟨rfl, hb⟩; have HX6 := Ak (HX5.out.below hb); have HC6 := Ak (Kd.C_below HC5.out hb); have hcg6 := HX6.out.cell; clear hb))
     go_ret
     exact ⟨rfl, HX6.out.low⟩
    ·rw [if_neg c2] at h
     have c2b : decide (p < 0) = false := decide_eq_false c2
     by_cases c3 : p ≥ (xs.length : Int)
     ·rw [if_pos c3] at h
      obtain rfl := Option.some.inj h
      clear h
      have c3b : decide (p ≥ (xs.length : Int)) = true := decide_eq_true c3
      have c3c : decide ((xs.length : Int) ≤ p) = true := decide_eq_true c3
      clear c2 c3
      go_wp2_with (first | (go_at_call 27; (with_reducible refine (spec_TextOf.calls k Ax cx xs p z w4 HC4.out HCC.out A3.out).mono ?_); rintro e w5 ⟨rfl, hb⟩; have HX5 := Ak (HX4.out.below hb); have HC5 := Ak (Kd.C_below HC4.out hb); have hcg5 := HX5.out.cell; clear hb) | (go_at_call 11; (with_reducible refine (spec_TreeOk.calls k Ax cx xs true w5 HC5.out HCC.out A4.out).mono ?_); rintro e w6 ⟨rfl, hb⟩; have HX6 := Ak (HX5.out.below hb); have HC6 := Ak (Kd.C_below HC5.out hb); have hcg6 := HX6.out.cell; clear hb))
      go_ret
      exact ⟨rfl, HX6.out.low⟩
     ·rw [if_neg c3] at h
      have c3b : decide (p ≥ (xs.length : Int)) = false := decide_eq_false c3
      have c3c : decide ((xs.length : Int) ≤ p) = false := decide_eq_false c3
      obtain ⟨out, A5, h⟩ := Option.bind_eq_some_iff.1 h
      obtain rfl := Option.some.inj h
      have HA5 := Ak A5
      clear A5 h
      have C2 := Ak (show 0 ≤ p by omega)
      have C3 := Ak (show p < (xs.length : Int) by omega)
      clear c2 c3
      go_upto_region 9 with (first | (go_at_call 27; (with_reducible refine (spec_TextOf.calls k Ax cx xs p z w4 HC4.out HCC.out A3.out).mono ?_); rintro e w5 ⟨rfl, hb⟩; have HX5 := Ak (HX4.out.below hb); have HC5 := Ak (Kd.C_below HC4.out hb); have hcg5 := HX5.out.cell; clear hb) | (go_at_call 11; (with_reducible refine (spec_TreeOk.calls k Ax cx xs true w5 HC5.out HCC.out A4.out).mono ?_); rintro e w6 ⟨rfl, hb⟩; have HX6 := Ak (HX5.out.below hb); have HC6 := Ak (Kd.C_below HC5.out hb); have hcg6 := HX6.out.cell; clear hb))
      clear hcg hcg4 hcg5 c1b0 c1b1 c2b c3b c3c HC HC4 HC5 HX HX4 HX5
      obtain ⟨ad, A_2, c_2, A_5, c_5, e1, hx0, hx1, hx2, hx3, hx4, hx5, hl2, hi2, hl5, hi5⟩ := at_T45 HC6.out p C2.out C3.out
      subst e1
      have HI5 := Ak hi5
      clear hl2 hi2 hl5 hi5
      have c1 := eq_true C2.out
      have c2 := eq_true C3.out
      have hq0 := hx0
      go_upto_region 10 with (first | ((with_reducible refine gate_dst (N := 6) rfl ?_); refine box_event ?hg (N := 6) ?hd (cs := #[.int .i64 0, .string (⟨#[]⟩ : ByteArray), .slice none 0 0, .string (⟨#[]⟩ : ByteArray), .int .i64 0, .slice none 0 0]) (t := 45) ?hr ?_; (case hd => rfl); (case hg => rfl); (case hr => first | (go_simp; done) | (go_simp; rfl)); intro gb hg w7 hbox hb; have HNE := Ak (show gb ≠ gt by have := blk_lt HX6.out.blk; omega); have HX7 := Ak (HX6.out.below hb); have HC7 := Ak (Kd.C_below HC6.out hb); have HGB := Ak (show w6.heap.size ≤ gb by rw [hg]; exact Nat.le_refl _); have HL7 := Ak hb; have HBX := Ak hbox; have hz0 := blk_cell hbox 0; have hz1 := blk_cell hbox 1; have hz2 := blk_cell hbox 2; have hz3 := blk_cell hbox 3; have hz4 := blk_cell hbox 4; have hz5 := blk_cell hbox 5; have hf := blk_frozen hbox; clear hbox hb hg))
      have HBN := Ak (fillN_blk (rd_T45 xs p) (.slice A_2 (rd_T45 xs p).f2.length c_2) (.slice A_5 (rd_T45 xs p).f5.length c_5) HBX.out)
      have HLF := Ak (fillN_below (w := w6) (gb := gb) (rd_T45 xs p) (.slice A_2 (rd_T45 xs p).f2.length c_2) (.slice A_5 (rd_T45 xs p).f5.length c_5) HL7.out HGB.out)
      show Code.wp _ _ _ _ (fillN w7 gb (rd_T45 xs p) (.slice A_2 (rd_T45 xs p).f2.length c_2) (.slice A_5 (rd_T45 xs p).f5.length c_5))
      have HX := Ak (show TxtN w (fillN w7 gb (rd_T45 xs p) (.slice A_2 (rd_T45 xs p).f2.length c_2) (.slice A_5 (rd_T45 xs p).f5.length c_5)) gt gb ad cx xs (rd_T45 xs p) A_2 c_2 A_5 c_5 from ⟨blk_below HX6.out.blk HLF.out, HBN.out, Kd.C_below HC6.out HLF.out, HCC.out, Kd.C_below HI5.out HLF.out, below_step HX6.out.low HLF.out⟩)
      generalize fillN w7 gb (rd_T45 xs p) (.slice A_2 (rd_T45 xs p).f2.length c_2) (.slice A_5 (rd_T45 xs p).f5.length c_5) = w8 at HX ⊢
      clear hz0 hz1 hz2 hz3 hz4 hz5 hf HBX HBN HLF HL7 HGB HNE HX7 HC7 HX6 HC6 HI5 hx0 hx1 hx2 hx3 hx4 hx5 hcg6 c1 c2 hq0
      have hn0 := blk_cell HX.out.bn 0
      have hn3 := blk_cell HX.out.bn 3
      go_upto_if 47 with (fail)
      go_cut [7] (fun v7 wc => ∃ (o0 : ByteArray), v7 = .string o0 ∧ Aside0 (laws_FnTexts.l0 k 0 o0 xs (rd_T45 xs p).f5 = some out) ∧ Aside0 (TxtN w wc gt gb ad cx xs (rd_T45 xs p) A_2 c_2 A_5 c_5))
      case first =>
       have h := HA5.out
       by_cases c4 : (rd_T45 xs p).f0 = 4
       ·rw [if_pos c4] at h
        have c4b : ((rd_T45 xs p).f0 == 4) = true := beq_iff_eq.mpr c4
        rw [c4b]
        clear c4
        have HA6 := Ak h
        clear h
        go_wp2
        go_meet
        case rel => exact ⟨_, rfl, HA6, HX⟩
       ·rw [if_neg c4] at h
        have c4b : ((rd_T45 xs p).f0 == 4) = false := beq_eq_false_iff_ne.mpr c4
        rw [c4b]
        clear c4
        have HA6 := Ak h
        clear h
        go_wp2
        go_meet
        case rel => exact ⟨_, rfl, HA6, HX⟩
      case rest =>
       clear hn0 hn3 HX HA5
       obtain ⟨o0, rfl, HA, HX⟩ := hcut
       go_wp2
       go_loopg [7, 8] k (fun kq v7 v8 w' => ∃ (o : ByteArray) (i : Int), v7 = .string o ∧ v8 = .int .i64 i ∧ Aside0 (laws_FnTexts.l0 kq i o xs (rd_T45 xs p).f5 = some out) ∧ Aside0 (kq ≤ k) ∧ Aside0 (TxtN w w' gt gb ad cx xs (rd_T45 xs p) A_2 c_2 A_5 c_5))
       case atStart => exact ⟨_, _, rfl, rfl, HA, ⟨Nat.le_refl _⟩, HX⟩
       case round =>
        clear HA HX
        obtain ⟨o, i, rfl, rfl, HA, HK, HX⟩ := hrel
        cases gk with
        | zero => exact absurd HA.out (by simp [laws_FnTexts.l0])
        | succ k1 =>
         have H := HA.out
         clear HA
         simp only [laws_FnTexts.l0] at H
         have hkc := HX.out.kids
         by_cases c1 : i < ((rd_T45 xs p).f5.length : Int)
         ·rw [if_pos c1] at H
          by_cases c2 : 0 ≤ i
          ·rw [if_pos c2] at H
           obtain ⟨t, A6, H⟩ := Option.bind_eq_some_iff.1 H
           by_cases c5 : o.size + t.size ≤ 9223372036854775807
           ·rw [if_pos c5] at H
            have HA1 := Ak A6
            have HA2 := Ak H
            clear A6 H
            have c5b : decide (o.size + t.size ≤ 9223372036854775807) = true := decide_eq_true c5
            have c5c : (9223372036854775807 < o.size + t.size) = False := eq_false (Nat.not_lt.2 c5)
            replace c5 := eq_true c5
            have c1b : decide (i < ((rd_T45 xs p).f5.length : Int)) = true := decide_eq_true c1
            obtain ⟨ak, e2, hy0⟩ := Kd.at_int HX.out.k5 i c2 c1
            subst e2
            replace c1 := eq_true c1
            replace c2 := eq_true c2
            go_upto_region 16 with (fail)
            have HX1 := Ak (HX.out.below (pw_below_drewN (Below.refl _ _) 1))
            have hcg := HX1.out.tree
            have hcn := HX1.out.kids
            have hy0 := pw_cell_below (pw_below_drewN (Below.refl wr.heap.size wr) 1) hy0
            change _ = _ at hy0
            change World.cell? wr.drew _ = _ at hy0
            replace HX1 := Ak (show TxtN w wr.drew gt gb ad cx xs (rd_T45 xs p) A_2 c_2 (some ak) c_5 from HX1.out)
            replace hcg := HX1.out.tree
            replace hcn := HX1.out.kids
            clear HX
            refine wp_region_N (n := 9) (S := (fun wh => wh.cell? ⟨gt, 0, none⟩ = some (.slice (some ad) xs.length cx) ∧ wh.cell? ⟨gb, 5, none⟩ = some (.slice (some ak) (rd_T45 xs p).f5.length c_5) ∧ wh.cell? (ak.add i.toNat) = some (.int .i64 (rd (rd_T45 xs p).f5 i)))) (by kernel_rfl) ⟨hcg, hcn, hy0⟩ (fun hHeld => ?_)
            generalize wr.drew = WD at HX1 hcg hcn hy0 hHeld ⊢
            refine wpAnyN_take (i := 0) (v := ?v100) rfl (by kernel_rfl) (by kernel_rfl) (by kernel_rfl) (by kernel_rfl) (fun _ _ _ h => h) (Or.inl ⟨by rfl, ?h100⟩) hHeld ?r100
            case h100 => (intro w_ hSw; (try dsimp only at hSw); go_simp; (try with_reducible rfl))
            refine wpAnyN_take (i := 1) (v := ?v201) rfl (by kernel_rfl) (by kernel_rfl) (by kernel_rfl) (by kernel_rfl) (fun _ _ _ h => h) (Or.inl ⟨by rfl, ?h201⟩) hHeld ?r201
            case h201 => (intro w_ hSw; (try dsimp only at hSw); go_simp; (try with_reducible rfl))
            refine wpAnyN_take (i := 2) (v := ?v302) rfl (by kernel_rfl) (by kernel_rfl) (by kernel_rfl) (by kernel_rfl) (fun _ _ _ h => h) (Or.inl ⟨by rfl, ?h302⟩) hHeld ?r302
            case h302 => (intro w_ hSw; (try dsimp only at hSw); go_simp; (try with_reducible rfl))
            refine wpAnyN_take (i := 3) (v := ?v403) rfl (by kernel_rfl) (by kernel_rfl) (by kernel_rfl) (by kernel_rfl) (fun _ _ _ h => h) (Or.inl ⟨by rfl, ?h403⟩) hHeld ?r403
            case h403 => (intro w_ hSw; (try dsimp only at hSw); go_simp; (try with_reducible rfl))
            refine wpAnyN_take (i := 4) (v := ?v504) rfl (by kernel_rfl) (by kernel_rfl) (by kernel_rfl) (by kernel_rfl) (fun _ _ _ h => h) (Or.inl ⟨by rfl, ?h504⟩) hHeld ?r504
            case h504 => (intro w_ hSw; (try dsimp only at hSw); go_simp; (try with_reducible rfl))
            refine wpAnyN_take (i := 5) (v := ?v605) rfl (by kernel_rfl) (by kernel_rfl) (by kernel_rfl) (by kernel_rfl) (fun _ _ _ h => h) (Or.inl ⟨by rfl, ?h605⟩) hHeld ?r605
            case h605 => (intro w_ hSw; (try dsimp only at hSw); go_simp; (try with_reducible rfl))
            refine wpAnyN_take (i := 6) (v := ?v706) rfl (by kernel_rfl) (by kernel_rfl) (by kernel_rfl) (by kernel_rfl) (fun _ _ _ h => h) (Or.inl ⟨by rfl, ?h706⟩) hHeld ?r706
            case h706 => (intro w_ hSw; (try dsimp only at hSw); go_simp; (try with_reducible rfl))
            refine wpAnyN_one (i := 7) (by kernel_rfl) rfl (fun K hK => ?_)
            go_simp
            go_at_call 28
            with_reducible refine (impl_TextOf.calls k1 (some ad) cx xs (rd (rd_T45 xs p).f5 i) t WD HX1.out.row HX1.out.cap HA1.out).mono ?_
            rintro e w6 ⟨rfl, hb⟩
            have HX6 := Ak (HX1.out.below hb)
            have hH6 := (show w6.cell? ⟨gt, 0, none⟩ = some (.slice (some ad) xs.length cx) ∧ w6.cell? ⟨gb, 5, none⟩ = some (.slice (some ak) (rd_T45 xs p).f5.length c_5) ∧ w6.cell? (ak.add i.toNat) = some (.int .i64 (rd (rd_T45 xs p).f5 i)) from ⟨HX6.out.tree, HX6.out.kids, pw_cell_below hb hy0⟩)
            clear hb
            go_wp2_with fail
            refine hK.out _ _ ?_ (fun hHc => ?_)
            ·(try dsimp only); exact hH6
            clear hK K
            refine wpAnyN_one (i := 8) (by kernel_rfl) rfl (fun K hK => ?_)
            go_simp
            refine hK.out _ _ ?_ (fun hHd => ?_)
            ·(try dsimp only); exact hH6
            clear hK K
            refine wpAnyN_last (by kernel_rfl) (by kernel_rfl) rfl (fun K hK => ?_)
            go_simp
            refine hK.out _ _ ?_
            clear hK K
            clear hHeld hHc hHd hH6 hcg hcn hy0 HX1
            go_wp2
            go_roundg k1
            case measure => have := HK.out; omega
            case rel => exact ⟨_, _, rfl, rfl, HA2, ⟨by have := HK.out; omega⟩, HX6⟩
           ·rw [if_neg c5] at H; cases H
          ·rw [if_neg c2] at H; cases H
         ·rw [if_neg c1] at H
          obtain rfl := Option.some.inj H
          clear H
          have c1b : decide (i < ((rd_T45 xs p).f5.length : Int)) = false := decide_eq_false c1
          clear c1
          go_wp2
          go_ret
          exact ⟨rfl, HX.out.low⟩
  ·rw [if_neg c1] at h
   obtain rfl := Option.some.inj h
   have c1b0 : (s.toList == z.toList) = false := beq_eq_false_iff_ne.mpr c1
   have c1b1 : (s.toList != z.toList) = true := bne_iff_ne.mpr c1
   clear c1 h
   go_wp2_with (first | (go_at_call 27; (with_reducible refine (spec_TextOf.calls k Ax cx xs p z w4 HC4.out HCC.out A3.out).mono ?_); rintro e w5 ⟨rfl, hb⟩; have HX5 := Ak (HX4.out.below hb); have HC5 := Ak (Kd.C_below HC4.out hb); have hcg5 := HX5.out.cell; clear hb))
   go_ret
   exact ⟨rfl, HX5.out.low⟩
def laws_FnTexts.Pure : Prop := ∀ (l0 : List Int), l0.length ≤ maxLen → l0.length * 1 ≤ 140737488351232 → (∀ x ∈ l0, (Lit.int .u8 x).wf = true) → ∃ k, laws_FnTexts.f k l0 = some true
theorem laws_FnTexts.walk (P : laws_FnTexts.Pure) (a0 : Option Addr) (len0 cap0 : Nat) (z0 : List Int) (w : World) (w0 : (a0 = none ∧ len0 = 0 ∧ cap0 = 0 ∧ z0 = []) ∨ ∃ x, a0 = some x ∧ len0 ≤ cap0 ∧ cap0 ≤ maxLen ∧ z0.length = cap0 ∧ (∀ i, i < z0.length → w.cell? (x.add i) = some (.int .u8 (z0.getD i 0))) ∧ ∀ n ∈ z0, (Lit.int .u8 n).wf = true) (y0 : len0 * 1 ≤ 140737488351232) :
 Calls Try.prog 8 #[.slice a0 len0 cap0] w fun e w' => e = .returned (.bool true) ∧ Below w.heap.size w w' := by
 obtain ⟨l0, rfl, hr0, hm0, hw0, hc0⟩ := ReadsInt.ofRowC w0
 obtain ⟨k, h⟩ := P l0 hm0 y0 hw0
 refine (laws_FnTexts.calls k _ _ l0 true w (Kd.C_of_reads (d := (0 : Int)) (h1 := fun _ => rfl) hr0) hc0 h).mono ?_
 rintro e w' ⟨rfl, hd⟩
 exact ⟨rfl, hd⟩
end Go.Proofs.Ytgneacekgbjkkaa.X
