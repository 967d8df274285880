/- What the Go functions that FnExactTreeAdd reaches compute, and that their walks come to just that (written by a program of this project over the kit's print). Conditions: as each states. -/
import Derived.Deep.RegionHeld3
import Derived.Test.YtgneacekgbjkkaaKFnExactTreeAddx2
namespace Go.Proofs.Ytgneacekgbjkkaa.X
open Go.RowKit Go.Proofs.YtgneacekgbjkkaaW.PrintWords Go.Proofs.YtgneacekgbjkkaaW.PrintLast Go.Proofs.YtgneacekgbjkkaaW.PrintMore
attribute [local go_sem] max2_int min2_int max_two min_two max_three min_three max_four min_four
set_option linter.unusedVariables false
set_option linter.unusedSimpArgs false
mutual
def spec_TreeOk.l0 : Nat → Int → List Bool → Int → List (S45) → Option (Bool)
 | 0, _, _, _, _ => none
 | k + 1, x3, x4, x5, x102000 => if x5 < x3 then (if 0 ≤ x5 then (if x5 < (x102000.length : Int) then ((spec_l6Node.f k ((rd_T45 x102000 x5).f0) ((rd_T45 x102000 x5).f1) ((rd_T45 x102000 x5).f2) ((rd_T45 x102000 x5).f3) ((rd_T45 x102000 x5).f4) ((rd_T45 x102000 x5).f5)).bind fun t108 => (if t108 = true then (if ((((rd_T45 x102000 x5).f0) == 1) != (x5 == 0)) = true then (spec_TreeOk.j1 k x3 x4 x5 true x102000 ((rd_T45 x102000 x5).f0) ((rd_T45 x102000 x5).f1) ((rd_T45 x102000 x5).f2) ((rd_T45 x102000 x5).f3) ((rd_T45 x102000 x5).f4) ((rd_T45 x102000 x5).f5)) else ((spec_l1In.f ((rd_T45 x102000 x5).f4) (-1) (wrap64 (x3 - 1))).bind fun t109 => (if t109 = true then (if x5 = 0 then (spec_TreeOk.j1 k x3 x4 x5 (((rd_T45 x102000 x5).f4) != (-1)) x102000 ((rd_T45 x102000 x5).f0) ((rd_T45 x102000 x5).f1) ((rd_T45 x102000 x5).f2) ((rd_T45 x102000 x5).f3) ((rd_T45 x102000 x5).f4) ((rd_T45 x102000 x5).f5)) else (spec_TreeOk.j1 k x3 x4 x5 false x102000 ((rd_T45 x102000 x5).f0) ((rd_T45 x102000 x5).f1) ((rd_T45 x102000 x5).f2) ((rd_T45 x102000 x5).f3) ((rd_T45 x102000 x5).f4) ((rd_T45 x102000 x5).f5))) else (spec_TreeOk.j1 k x3 x4 x5 true x102000 ((rd_T45 x102000 x5).f0) ((rd_T45 x102000 x5).f1) ((rd_T45 x102000 x5).f2) ((rd_T45 x102000 x5).f3) ((rd_T45 x102000 x5).f4) ((rd_T45 x102000 x5).f5))))) else (spec_TreeOk.j1 k x3 x4 x5 true x102000 ((rd_T45 x102000 x5).f0) ((rd_T45 x102000 x5).f1) ((rd_T45 x102000 x5).f2) ((rd_T45 x102000 x5).f3) ((rd_T45 x102000 x5).f4) ((rd_T45 x102000 x5).f5)))) else (none)) else (none)) else (spec_TreeOk.l2 k x3 x4 0 x102000)
def spec_TreeOk.j1 : Nat → Int → List Bool → Int → Bool → List (S45) → Int → ByteArray → List (S98) → ByteArray → Int → List Int → Option (Bool)
 | 0, _, _, _, _, _, _, _, _, _, _, _ => none
 | k + 1, x3, x4, x5, x57, x102000, x108000, x108001, x108002, x108003, x108004, x108005 => if x57 = true then (some false) else (spec_TreeOk.l1 k x3 x4 x5 0 x102000 x108000 x108001 x108002 x108003 x108004 x108005)
def spec_TreeOk.l1 : Nat → Int → List Bool → Int → Int → List (S45) → Int → ByteArray → List (S98) → ByteArray → Int → List Int → Option (Bool)
 | 0, _, _, _, _, _, _, _, _, _, _, _ => none
 | k + 1, x3, x4, x5, x7, x102000, x108000, x108001, x108002, x108003, x108004, x108005 => if x7 < (x108005.length : Int) then (if 0 ≤ x7 then ((spec_l1In.f (rd x108005 x7) 1 (wrap64 (x3 - 1))).bind fun t111 => (if t111 = true then (if 0 ≤ (rd x108005 x7) then (if (rd x108005 x7) < (x4.length : Int) then (if rdOf false x4 (rd x108005 x7) = true then (some false) else (if (rd x108005 x7) < (x102000.length : Int) then (if ((rd_T45 x102000 (rd x108005 x7)).f4) = x5 then (spec_TreeOk.l1 k x3 (x4.set ((rd x108005 x7) : Int).toNat true) x5 (wrap64 (x7 + 1)) x102000 x108000 x108001 x108002 x108003 x108004 x108005) else (some false)) else (none))) else (none)) else (none)) else (some false))) else (none)) else (spec_TreeOk.l0 k x3 x4 (wrap64 (x5 + 1)) x102000)
def spec_TreeOk.l2 : Nat → Int → List Bool → Int → List (S45) → Option (Bool)
 | 0, _, _, _, _ => none
 | k + 1, x3, x4, x9, x102000 => if x9 < x3 then (if 0 ≤ x9 then (if x9 < (x4.length : Int) then (if x9 < (x102000.length : Int) then (if ((rdOf false x4 x9) != (decide (((rd_T45 x102000 x9).f4) ≥ 0))) = true then (some false) else (spec_TreeOk.l3 k x3 x4 x9 x9 0 x102000)) else (none)) else (none)) else (none)) else (some true)
def spec_TreeOk.l3 : Nat → Int → List Bool → Int → Int → Int → List (S45) → Option (Bool)
 | 0, _, _, _, _, _, _ => none
 | k + 1, x3, x4, x9, x10, x11, x102000 => if x10 ≥ 0 then (if x11 > x3 then (some false) else (if 0 ≤ x10 then (if x10 < (x102000.length : Int) then (spec_TreeOk.l3 k x3 x4 x9 ((rd_T45 x102000 x10).f4) (wrap64 (x11 + 1)) x102000) else (none)) else (none))) else (spec_TreeOk.l2 k x3 x4 (wrap64 (x9 + 1)) x102000)
end
def spec_TreeOk.f (k : Nat) (l0_0 : List (S45)) : Option (Bool) := (spec_l1In.f (l0_0.length : Int) 1 500).bind fun t102 => (if t102 = true then (if 0 ≤ (l0_0.length : Int) then (if ((l0_0.length : Int) : Int).toNat ≤ 281474976710656 then (spec_TreeOk.l0 k (l0_0.length : Int) (List.replicate ((l0_0.length : Int) : Int).toNat false) 0 l0_0) else (none)) else (none)) else (some false))
theorem spec_TreeOk.mono_l : ∀ k, (∀ y0 y1 y2 y3, LeO (spec_TreeOk.l0 k y0 y1 y2 y3) (spec_TreeOk.l0 (k + 1) y0 y1 y2 y3)) ∧ (∀ y0 y1 y2 y3 y4 y5 y6 y7 y8 y9 y10, LeO (spec_TreeOk.j1 k y0 y1 y2 y3 y4 y5 y6 y7 y8 y9 y10) (spec_TreeOk.j1 (k + 1) y0 y1 y2 y3 y4 y5 y6 y7 y8 y9 y10)) ∧ (∀ y0 y1 y2 y3 y4 y5 y6 y7 y8 y9 y10, LeO (spec_TreeOk.l1 k y0 y1 y2 y3 y4 y5 y6 y7 y8 y9 y10) (spec_TreeOk.l1 (k + 1) y0 y1 y2 y3 y4 y5 y6 y7 y8 y9 y10)) ∧ (∀ y0 y1 y2 y3, LeO (spec_TreeOk.l2 k y0 y1 y2 y3) (spec_TreeOk.l2 (k + 1) y0 y1 y2 y3)) ∧ (∀ y0 y1 y2 y3 y4 y5, LeO (spec_TreeOk.l3 k y0 y1 y2 y3 y4 y5) (spec_TreeOk.l3 (k + 1) y0 y1 y2 y3 y4 y5))
 | 0 => ⟨fun _ _ _ _ r h => by simp [spec_TreeOk.l0] at h, fun _ _ _ _ _ _ _ _ _ _ _ r h => by simp [spec_TreeOk.j1] at h, fun _ _ _ _ _ _ _ _ _ _ _ r h => by simp [spec_TreeOk.l1] at h, fun _ _ _ _ r h => by simp [spec_TreeOk.l2] at h, fun _ _ _ _ _ _ r h => by simp [spec_TreeOk.l3] at h⟩
 | k + 1 => by
  obtain ⟨ih0, ih1, ih2, ih3, ih4⟩ := spec_TreeOk.mono_l k
  refine ⟨?_, ?_, ?_, ?_, ?_⟩
  · intro y0 y1 y2 y3
    unfold spec_TreeOk.l0
    repeat' first | exact ih1 _ _ _ _ _ _ _ _ _ _ _ | exact ih3 _ _ _ _ | exact spec_l6Node.mono _ _ _ _ _ _ _ | (with_reducible exact LeO.refl _) | refine LeO.ite ?_ ?_ | refine LeO.bind ?_ (fun _ => ?_)
  · intro y0 y1 y2 y3 y4 y5 y6 y7 y8 y9 y10
    unfold spec_TreeOk.j1
    exact LeO.ite (LeO.refl _) (ih2 _ _ _ _ _ _ _ _ _ _ _)
  · intro y0 y1 y2 y3 y4 y5 y6 y7 y8 y9 y10
    unfold spec_TreeOk.l1
    repeat' first | exact ih0 _ _ _ _ | exact ih2 _ _ _ _ _ _ _ _ _ _ _ | (with_reducible exact LeO.refl _) | refine LeO.ite ?_ ?_ | refine LeO.bind ?_ (fun _ => ?_)
  · intro y0 y1 y2 y3
    unfold spec_TreeOk.l2
    repeat' first | exact ih4 _ _ _ _ _ _ | (with_reducible exact LeO.refl _) | refine LeO.ite ?_ ?_
  · intro y0 y1 y2 y3 y4 y5
    unfold spec_TreeOk.l3
    repeat' first | exact ih3 _ _ _ _ | exact ih4 _ _ _ _ _ _ | (with_reducible exact LeO.refl _) | refine LeO.ite ?_ ?_
theorem spec_TreeOk.mono : ∀ a0 k, LeO (spec_TreeOk.f k a0) (spec_TreeOk.f (k + 1) a0) := fun a0 k => LeO.bind (LeO.refl _) (fun _ => LeO.ite (LeO.ite (LeO.ite ((spec_TreeOk.mono_l k).1 _ _ _ _) (LeO.refl _)) (LeO.refl _)) (LeO.refl _))
/-- What the walk holds: the boxed tree, the row 'seen', all that was. -/
structure SeenW (w W : World) (gt : Nat) (A : Option Addr) (m c : Nat) (gs cap : Nat) (s : List Bool) : Prop where
 box : BoxW w W gt A m c
 row : Kd.R Kd.bool 4 W w.heap.size (fun k => k = gs) (.slice (some ⟨gs, 0, none⟩) m cap) s
 ne : gs ≠ gt
section
variable {w W W2 : World} {gt m c gs cap : Nat} {A : Option Addr} {s : List Bool}
theorem SeenW.below (h : SeenW w W gt A m c gs cap s) (hb : Below W.heap.size W W2) : SeenW w W2 gt A m c gs cap s := ⟨h.box.below hb, Kd.R_below h.row hb, h.ne⟩
theorem SeenW.drewN (h : SeenW w W gt A m c gs cap s) (k : Nat) : SeenW w (W.drewN k) gt A m c gs cap s := ⟨h.box.drewN k, Kd.R_drewN h.row k, h.ne⟩
theorem SeenW.fill (h : SeenW w W gt A m c gs cap s) {gb : Nat} (hb : w.heap.size ≤ gb) (hne : gb ≠ gt) (hne2 : gb ≠ gs) (x : S45) (v2 v5 : Value) : SeenW w (fillN W gb x v2 v5) gt A m c gs cap s :=
 ⟨h.box.fill hb hne x v2 v5, by
  have hf : ∀ k, k = gs → k ≠ gb := fun k hk => by omega
  exact Kd.R_far (p := ⟨gb, 5, none⟩) (Kd.R_far (p := ⟨gb, 4, none⟩) (Kd.R_far (p := ⟨gb, 3, none⟩) (Kd.R_far (p := ⟨gb, 2, none⟩) (Kd.R_far (p := ⟨gb, 1, none⟩) (Kd.R_far (p := ⟨gb, 0, none⟩) h.row hf _) hf _) hf _) hf _) hf _) hf _, h.ne⟩
theorem SeenW.put (h : SeenW w W gt A m c gs cap s) (i : Int) (x : Bool) : SeenW w (W.setCell ⟨gs, i.toNat, none⟩ (.bool x)) gt A m c gs cap (s.set i.toNat x) :=
 ⟨⟨blk_far h.box.blk (p := ⟨gs, i.toNat, none⟩) (Ne.symm h.ne) _, below_set h.box.low (Kd.R_base h.row gs rfl), h.box.ge⟩, Kd.R_putn h.row i x, h.ne⟩
theorem SeenW.at_ (h : SeenW w W gt A m c gs cap s) (i : Int) (h0 : 0 ≤ i) (h1 : i < m) : W.cell? ⟨gs, i.toNat, none⟩ = some (.bool (rdOf false s i)) ∧ W.frozen? ⟨gs, i.toNat, none⟩ = false := Kd.R_celln false h.row i h0 h1
end
set_option maxHeartbeats 8000000 in
set_option maxRecDepth 100000 in
theorem spec_TreeOk.calls (k : Nat) (A0_0 : Option Addr) (c0_0 : Nat) (l0_0 : List S45) (r : Bool) (w : World) (hr0_0 : Kd.C k45 w A0_0 l0_0.length l0_0) (hc0_0 : l0_0.length ≤ c0_0) (h : spec_TreeOk.f k l0_0 = some r) :
 Calls Try.prog 11 #[.agg #[.slice A0_0 l0_0.length c0_0]] w fun e w' => e = .returned (.bool r) ∧ Below w.heap.size w w' := by
 have HC := Aside0.mk hr0_0
 clear hr0_0 hc0_0
 unfold spec_TreeOk.f at h
 obtain ⟨t, A1, h⟩ := Option.bind_eq_some_iff.mp h
 have HN0 := Aside0.mk (show t = true → 0 < l0_0.length from fun e => by
  subst e
  unfold spec_l1In.f at A1
  split at A1
  · omega
  · cases A1)
 have HN1 := Aside0.mk (show t = true → l0_0.length ≤ 500 from fun e => by
  subst e
  unfold spec_l1In.f at A1
  split at A1
  · have := of_decide_eq_true (Option.some.inj A1); omega
  · cases A1)
 replace A1 := Aside0.mk A1
 cases t with
 | false =>
  rw [if_neg (by decide)] at h
  obtain rfl := Option.some.inj h
  clear h HN0 HN1
  go_enter Try.func11, Try.ntmps11
  go_wp2_with (first | (go_at_call 37; (with_reducible refine (spec_l1In.calls _ _ _ false _ A1.out).mono ?_); rintro e w' ⟨rfl, ⟨nd, rfl⟩⟩))
  go_ret
  exact ⟨rfl, by repeat (first | exact Below.refl _ _ | apply below_alloc | apply pw_below_drewN)⟩
 | true =>
  rw [if_pos rfl, if_pos (by omega), if_pos (by have := HN1.out rfl; omega)] at h
  have HA := Aside0.mk h
  have HM0 := Aside0.mk (HN0.out rfl)
  have HM1 := Aside0.mk (HN1.out rfl)
  clear h HN0 HN1
  go_enter Try.func11, Try.ntmps11
  go_wp2_with (first
   | ((with_reducible refine gate_dst (N := 1) rfl ?_); refine box_event ?hg (N := 1) ?hd (cs := #[.slice A0_0 l0_0.length c0_0]) (t := 29) ?hr ?_; (case hd => rfl); (case hg => rfl); (case hr => first | (go_simp; done) | (go_simp; rfl)); intro gt hg w1 hbox hb; have HX := Aside0.mk (show BoxW w w1 gt A0_0 l0_0.length c0_0 from ⟨hbox, hb, by rw [hg]; exact Nat.le_refl _⟩); have hcb := HX.out.cell; clear hbox hb hg)
   | (go_at_call 37; (with_reducible refine (spec_l1In.calls _ _ _ true _ A1.out).mono ?_); rintro e w' ⟨rfl, ⟨nd, rfl⟩⟩; have HX2 := Aside0.mk (HX.out.drewN nd); clear HX)
   | ((with_reducible refine gate_dst (N := 19) rfl ?_); refine Kd.R_make (w0 := w) Kd.bool w.heap.size 4 rfl (N := 19) rfl 61 _ _ rfl (l0_0.length : Int) rfl rfl Try.underlying61 (.bool false) 1 info4 rfl (by decide) (by omega) false (ok := fun k => k ≠ gt) (okp := fun k => k ≠ gt) rfl (fun _ hk => hk) (fun e_ => by have := blk_lt HX2.out.blk; omega) (by omega) (by have := HM1.out; omega) HX2.out.low HX2.out.low.size ?_; intro vs w2 ho hb hg_ hnew_; rw [Int.toNat_natCast] at ho; obtain ⟨gs, cap, ev, _, _, _⟩ := Kd.R_form ho (by have := HM0.out; rw [List.length_replicate]; exact this); rw [List.length_replicate] at ev; subst ev; have HS := Aside0.mk (show SeenW w w2 gt A0_0 l0_0.length c0_0 gs cap (List.replicate l0_0.length false) from ⟨⟨blk_grown HX2.out.blk hg_ (by simp), hb, HX2.out.ge⟩, Kd.R_mono (Kd.R_tight rfl ho) (fun k_ hk => by simpa [Value.ownBlock] using hk), Kd.R_away ho (fun k_ hk => hk) |> fun h_ e_ => h_ (by rw [e_]; rfl)⟩); clear ho hb hg_ hnew_ HX2 hcb))
  go_loopg [5] k (fun kq v5 w' => ∃ (i : Int) (s : List Bool), v5 = .int .i64 i ∧ Aside0 (spec_TreeOk.l0 kq (l0_0.length : Int) s i l0_0 = some r) ∧ Aside0 (kq ≤ k) ∧ Aside0 (SeenW w w' gt A0_0 l0_0.length c0_0 gs cap s))
  case atStart => exact ⟨0, _, rfl, (by rw [Int.toNat_natCast] at HA; exact HA), ⟨Nat.le_refl _⟩, HS⟩
  case round =>
   clear HA HS
   obtain ⟨i, s, rfl, HA, HK, HS⟩ := hrel
   cases gk with
   | zero => exact absurd HA.out (by simp [spec_TreeOk.l0])
   | succ k1 =>
    have H := HA.out
    clear HA
    simp only [spec_TreeOk.l0] at H
    by_cases c1 : i < (l0_0.length : Int)
    · rw [if_pos c1] at H
      by_cases c2 : 0 ≤ i
      · rw [if_pos c2, if_pos c1] at H
        have c1b : decide (i < (l0_0.length : Int)) = true := decide_eq_true c1
        obtain ⟨ad, A_2, c_2, A_5, c_5, e1, hx0, hx1, hx2, hx3, hx4, hx5, hl2, hi2, hl5, hi5⟩ := at_T45 HC.out i c2 c1
        subst e1
        replace hx0 := pw_cell_below HS.out.box.low hx0
        replace hx1 := pw_cell_below HS.out.box.low hx1
        replace hx2 := pw_cell_below HS.out.box.low hx2
        replace hx3 := pw_cell_below HS.out.box.low hx3
        replace hx4 := pw_cell_below HS.out.box.low hx4
        replace hx5 := pw_cell_below HS.out.box.low hx5
        have hcb := HS.out.box.cell
        have HI2 := Aside0.mk hi2
        have HI5 := Aside0.mk hi5
        have HL2 := Aside0.mk hl2
        have HL5 := Aside0.mk hl5
        clear hl2 hi2 hl5 hi5
        replace c2 := eq_true c2
        replace c1 := eq_true c1
        go_upto_region 9 with (first | ((with_reducible refine gate_dst (N := 6) rfl ?_); refine box_event ?hg (N := 6) ?hd (cs := #[.int .i64 0, .string (⟨#[]⟩ : ByteArray), .slice none 0 0, .string (⟨#[]⟩ : ByteArray), .int .i64 0, .slice none 0 0]) (t := 45) ?hr ?_; (case hd => rfl); (case hg => rfl); (case hr => first | (go_simp; done) | (go_simp; rfl)); intro gb hg w2 hbox hb; have HNE := Aside0.mk (show gb ≠ gt by have := blk_lt HS.out.box.blk; omega); have HNG := Aside0.mk (show gs ≠ gb by have := Kd.R_lt HS.out.row gs rfl; omega); have HS2 := Aside0.mk (HS.out.below hb); have HGB := Aside0.mk (show w.heap.size ≤ gb by rw [hg]; exact below_size HS.out.box.low); have HBX := Aside0.mk hbox; have hz0 := blk_cell hbox 0; have hz1 := blk_cell hbox 1; have hz2 := blk_cell hbox 2; have hz3 := blk_cell hbox 3; have hz4 := blk_cell hbox 4; have hz5 := blk_cell hbox 5; have hf := blk_frozen hbox; clear hbox hb hg HS))
        have HB6 := Aside0.mk (fillN_blk (rd_T45 l0_0 i) (.slice A_2 (rd_T45 l0_0 i).f2.length c_2) (.slice A_5 (rd_T45 l0_0 i).f5.length c_5) HBX.out)
        have HS := Aside0.mk (HS2.out.fill HGB.out HNE.out (Ne.symm HNG.out) (rd_T45 l0_0 i) (.slice A_2 (rd_T45 l0_0 i).f2.length c_2) (.slice A_5 (rd_T45 l0_0 i).f5.length c_5))
        show Code.wp _ _ _ _ (fillN w2 gb (rd_T45 l0_0 i) (.slice A_2 (rd_T45 l0_0 i).f2.length c_2) (.slice A_5 (rd_T45 l0_0 i).f5.length c_5))
        generalize fillN w2 gb (rd_T45 l0_0 i) (.slice A_2 (rd_T45 l0_0 i).f2.length c_2) (.slice A_5 (rd_T45 l0_0 i).f5.length c_5) = w3 at HB6 HS ⊢
        clear hz0 hz1 hz2 hz3 hz4 hz5 hf HBX HS2 hx0 hx1 hx2 hx3 hx4 hx5 HNE HGB hcb
        have hz0 := blk_cell HB6.out 0
        have hz1 := blk_cell HB6.out 1
        have hz2 := blk_cell HB6.out 2
        have hz3 := blk_cell HB6.out 3
        have hz4 := blk_cell HB6.out 4
        have hz5 := blk_cell HB6.out 5
        have HJ2 := Aside0.mk (Kd.C_below HI2.out HS.out.box.low)
        have HJ5 := Aside0.mk (Kd.C_below HI5.out HS.out.box.low)
        have HH := Aside0.mk H
        clear H
        go_cut [57] (fun v57 wc => ∃ (kq : Nat) (b : Bool), v57 = .bool b ∧ Aside0 (spec_TreeOk.j1 kq (l0_0.length : Int) s i b l0_0 (rd_T45 l0_0 i).f0 (rd_T45 l0_0 i).f1 (rd_T45 l0_0 i).f2 (rd_T45 l0_0 i).f3 (rd_T45 l0_0 i).f4 (rd_T45 l0_0 i).f5 = some r) ∧ Aside0 (kq ≤ k1) ∧ Aside0 (SeenW w wc gt (some ad) l0_0.length c0_0 gs cap s) ∧ Aside0 (wc.heap[gb]? = some (.cells #[.int .i64 (rd_T45 l0_0 i).f0, .string (rd_T45 l0_0 i).f1, (.slice A_2 (rd_T45 l0_0 i).f2.length c_2), .string (rd_T45 l0_0 i).f3, .int .i64 (rd_T45 l0_0 i).f4, (.slice A_5 (rd_T45 l0_0 i).f5.length c_5)] 45 (0, 0))))
        case first =>
         have H := HH.out
         clear HH
         obtain ⟨t, A2, H⟩ := Option.bind_eq_some_iff.mp H
         replace A2 := Aside0.mk A2
         cases t with
         | false =>
          rw [if_neg (by decide)] at H
          have HA := Aside0.mk H
          clear H
          go_wp2_with (first | (go_at_call 38; (with_reducible refine (spec_l6Node.calls k1 _ _ _ _ _ _ _ _ _ _ false _ HJ2.out HL2.out HJ5.out HL5.out A2.out).mono ?_); rintro e w4 ⟨rfl, hb⟩; have HS4 := Aside0.mk (HS.out.below hb); have HB4 := Aside0.mk (blk_below HB6.out hb); have hy0 := blk_cell HB4.out 0; have hy4 := blk_cell HB4.out 4; clear hb))
          go_meet
          case rel => exact ⟨_, true, (by first | rfl | (simp; done) | (simp [*]; done)), HA, ⟨by have := HK.out; omega⟩, HS4, HB4⟩
         | true =>
          rw [if_pos rfl] at H
          by_cases c3 : (((rd_T45 l0_0 i).f0 == 1) != (i == 0)) = true
          · rw [if_pos c3] at H
            have c3b1 : decide (((rd_T45 l0_0 i).f0 == 1) = (i == 0)) = false := by simpa using c3
            have c3b2 : (((rd_T45 l0_0 i).f0 == 1) == (i == 0)) = false := by simpa using c3
            have c3b3 : ¬ (((rd_T45 l0_0 i).f0 == 1) = (i == 0)) := by simpa using c3
            have HA := Aside0.mk H
            clear H
            go_wp2_with (first | (go_at_call 38; (with_reducible refine (spec_l6Node.calls k1 _ _ _ _ _ _ _ _ _ _ true _ HJ2.out HL2.out HJ5.out HL5.out A2.out).mono ?_); rintro e w4 ⟨rfl, hb⟩; have HS4 := Aside0.mk (HS.out.below hb); have HB4 := Aside0.mk (blk_below HB6.out hb); have hy0 := blk_cell HB4.out 0; have hy4 := blk_cell HB4.out 4; clear hb))
            go_meet
            case rel => exact ⟨_, true, (by first | rfl | (simp; done) | (simp [*]; done)), HA, ⟨by have := HK.out; omega⟩, HS4, HB4⟩
          · rw [if_neg c3] at H
            obtain ⟨u, A3, H⟩ := Option.bind_eq_some_iff.mp H
            replace A3 := Aside0.mk A3
            cases u with
            | false =>
             rw [if_neg (by decide)] at H
             have c3b : (((rd_T45 l0_0 i).f0 == 1) != (i == 0)) = false := Bool.eq_false_iff.mpr c3
             have c3b1 : decide (((rd_T45 l0_0 i).f0 == 1) = (i == 0)) = true := by simpa using c3
             have c3b2 : (((rd_T45 l0_0 i).f0 == 1) == (i == 0)) = true := by simpa using c3
             clear c3
             have HA := Aside0.mk H
             clear H
             go_wp2_with (first | (go_at_call 38; (with_reducible refine (spec_l6Node.calls k1 _ _ _ _ _ _ _ _ _ _ true _ HJ2.out HL2.out HJ5.out HL5.out A2.out).mono ?_); rintro e w4 ⟨rfl, hb⟩; have HS4 := Aside0.mk (HS.out.below hb); have HB4 := Aside0.mk (blk_below HB6.out hb); have hy0 := blk_cell HB4.out 0; have hy4 := blk_cell HB4.out 4; clear hb) | (go_at_call 37; (with_reducible refine (spec_l1In.calls _ _ _ false _ A3.out).mono ?_); rintro e w5 ⟨rfl, ⟨nd, rfl⟩⟩; (try first | exact ⟨rfl, _, World.drewN_drewN _ _ _⟩ | exact ⟨rfl, _, Eq.trans (World.drewN_drewN _ _ _) (congrArg (World.drewN _) (Nat.add_assoc _ _ _))⟩)))
             go_meet
             case rel => exact ⟨_, true, (by first | rfl | (simp; done) | (simp [*]; done)), HA, ⟨by have := HK.out; omega⟩, ⟨SeenW.drewN HS4.out _⟩, HB4⟩
            | true =>
             rw [if_pos rfl] at H
             by_cases c4 : i = 0
             · rw [if_pos c4] at H
               have c3c : ((rd_T45 l0_0 i).f0 == 1) = true := by have := Bool.eq_false_iff.mpr c3; rw [beq_iff_eq.mpr c4] at this; simpa using this
               have c4b : (i == 0) = true := beq_iff_eq.mpr c4
               clear c3 c4
               have HA := Aside0.mk H
               clear H
               go_wp2_with (first | (go_at_call 38; (with_reducible refine (spec_l6Node.calls k1 _ _ _ _ _ _ _ _ _ _ true _ HJ2.out HL2.out HJ5.out HL5.out A2.out).mono ?_); rintro e w4 ⟨rfl, hb⟩; have HS4 := Aside0.mk (HS.out.below hb); have HB4 := Aside0.mk (blk_below HB6.out hb); have hy0 := blk_cell HB4.out 0; have hy4 := blk_cell HB4.out 4; clear hb) | (go_at_call 37; (with_reducible refine (spec_l1In.calls _ _ _ true _ A3.out).mono ?_); rintro e w5 ⟨rfl, ⟨nd, rfl⟩⟩; (try first | exact ⟨rfl, _, World.drewN_drewN _ _ _⟩ | exact ⟨rfl, _, Eq.trans (World.drewN_drewN _ _ _) (congrArg (World.drewN _) (Nat.add_assoc _ _ _))⟩)))
               go_meet
               case rel => exact ⟨_, ((rd_T45 l0_0 i).f4 != -1), (by first | rfl | (simp; done) | (simp [*]; done)), HA, ⟨by have := HK.out; omega⟩, ⟨SeenW.drewN HS4.out _⟩, HB4⟩
             · rw [if_neg c4] at H
               have c3c : ((rd_T45 l0_0 i).f0 == 1) = false := by have := Bool.eq_false_iff.mpr c3; rw [beq_eq_false_iff_ne.mpr c4] at this; simpa using this
               have c4b : (i == 0) = false := beq_eq_false_iff_ne.mpr c4
               clear c3 c4
               have HA := Aside0.mk H
               clear H
               go_wp2_with (first | (go_at_call 38; (with_reducible refine (spec_l6Node.calls k1 _ _ _ _ _ _ _ _ _ _ true _ HJ2.out HL2.out HJ5.out HL5.out A2.out).mono ?_); rintro e w4 ⟨rfl, hb⟩; have HS4 := Aside0.mk (HS.out.below hb); have HB4 := Aside0.mk (blk_below HB6.out hb); have hy0 := blk_cell HB4.out 0; have hy4 := blk_cell HB4.out 4; clear hb) | (go_at_call 37; (with_reducible refine (spec_l1In.calls _ _ _ true _ A3.out).mono ?_); rintro e w5 ⟨rfl, ⟨nd, rfl⟩⟩; (try first | exact ⟨rfl, _, World.drewN_drewN _ _ _⟩ | exact ⟨rfl, _, Eq.trans (World.drewN_drewN _ _ _) (congrArg (World.drewN _) (Nat.add_assoc _ _ _))⟩)))
               go_meet
               case rel => exact ⟨_, false, (by first | rfl | (simp; done) | (simp [*]; done)), HA, ⟨by have := HK.out; omega⟩, ⟨SeenW.drewN HS4.out _⟩, HB4⟩
        case rest =>
         obtain ⟨kq, b, rfl, HA, HJ, HS, HB6⟩ := hcut
         clear hz0 hz1 hz2 hz3 hz4 HJ2 HJ5 HH c1b
         cases kq with
         | zero => exact absurd HA.out (by simp [spec_TreeOk.j1])
         | succ kj =>
          have H := HA.out
          clear HA
          simp only [spec_TreeOk.j1] at H
          cases b with
          | true =>
           rw [if_pos (by trivial)] at H
           obtain rfl := Option.some.inj H
           clear H
           go_wp2
           go_ret
           exact ⟨rfl, HS.out.box.low⟩
          | false =>
           rw [if_neg (by decide)] at H
           have HA := Aside0.mk H
           clear H
           have HG5 := Aside0.mk HB6.out
           go_wp2
           go_loopg [7] kj (fun kq v7 w' => ∃ (j : Int) (s : List Bool), v7 = .int .i64 j ∧ Aside0 (spec_TreeOk.l1 kq (l0_0.length : Int) s i j l0_0 (rd_T45 l0_0 i).f0 (rd_T45 l0_0 i).f1 (rd_T45 l0_0 i).f2 (rd_T45 l0_0 i).f3 (rd_T45 l0_0 i).f4 (rd_T45 l0_0 i).f5 = some r) ∧ Aside0 (kq ≤ kj) ∧ Aside0 (SeenW w w' gt (some ad) l0_0.length c0_0 gs cap s) ∧ Aside0 (w'.heap[gb]? = some (.cells #[.int .i64 (rd_T45 l0_0 i).f0, .string (rd_T45 l0_0 i).f1, (.slice A_2 (rd_T45 l0_0 i).f2.length c_2), .string (rd_T45 l0_0 i).f3, .int .i64 (rd_T45 l0_0 i).f4, (.slice A_5 (rd_T45 l0_0 i).f5.length c_5)] 45 (0, 0))))
           case atStart => exact ⟨0, _, rfl, HA, ⟨Nat.le_refl _⟩, HS, HB6⟩
           case round =>
            clear HA HS HB6 hz5 HG5
            obtain ⟨j, s, rfl, HA, HK2, HS, HB6⟩ := hrel
            cases gk with
            | zero => exact absurd HA.out (by simp [spec_TreeOk.l1])
            | succ k2 =>
             have H := HA.out
             clear HA
             simp only [spec_TreeOk.l1] at H
             have hz5 := blk_cell HB6.out 5
             have hcb := HS.out.box.cell
             by_cases c3 : j < ((rd_T45 l0_0 i).f5.length : Int)
             · rw [if_pos c3] at H
               by_cases c4 : 0 ≤ j
               · rw [if_pos c4] at H
                 obtain ⟨t, A3, H⟩ := Option.bind_eq_some_iff.mp H
                 replace A3 := Aside0.mk A3
                 obtain ⟨ak, e2, hy0⟩ := Kd.at_int HI5.out j c4 c3
                 subst e2
                 replace hy0 := pw_cell_below HS.out.box.low hy0
                 have c3b : decide (j < ((rd_T45 l0_0 i).f5.length : Int)) = true := decide_eq_true c3
                 replace c3 := eq_true c3
                 replace c4 := eq_true c4
                 obtain ⟨kid, hkid⟩ : ∃ q : Int, q = rd (rd_T45 l0_0 i).f5 j := ⟨_, rfl⟩
                 rw [← hkid] at hy0 H A3
                 clear hkid
                 cases t with
                 | false =>
                  rw [if_neg (by decide)] at H
                  obtain rfl := Option.some.inj H
                  clear H
                  go_wp2_with (first | (go_at_call 37; (with_reducible refine (spec_l1In.calls _ _ _ false _ A3.out).mono ?_); rintro e w5 ⟨rfl, ⟨nd, rfl⟩⟩))
                  go_ret
                  exact ⟨rfl, pw_below_drewN HS.out.box.low _⟩
                 | true =>
                  rw [if_pos rfl] at H
                  by_cases c5 : 0 ≤ kid
                  · rw [if_pos c5] at H
                    by_cases c6' : kid < (s.length : Int)
                    · rw [if_pos c6'] at H
                      have c6 : kid < (l0_0.length : Int) := by have := (Kd.R_reads' HS.out.row).1; omega
                      clear c6'
                      obtain ⟨hs, hsf⟩ := HS.out.at_ kid c5 c6
                      by_cases c8 : rdOf false s kid = true
                      · rw [if_pos c8] at H
                        obtain rfl := Option.some.inj H
                        clear H
                        rw [c8] at hs
                        clear c8
                        replace c5 := eq_true c5
                        replace c6 := eq_true c6
                        go_wp2_with (first | (go_at_call 37; (with_reducible refine (spec_l1In.calls _ _ _ true _ A3.out).mono ?_); rintro e w5 ⟨rfl, ⟨nd, rfl⟩⟩))
                        go_ret
                        exact ⟨rfl, pw_below_drewN HS.out.box.low _⟩
                      · rw [if_neg c8, if_pos c6] at H
                        rw [Bool.eq_false_iff.mpr c8] at hs
                        clear c8
                        obtain ⟨ad', A_6, c_6, A_7, c_7, e3, hw0, hw1, hw2, hw3, hw4, hw5, hl6, hi6, hl7, hi7⟩ := at_T45 HC.out kid c5 c6
                        injection e3 with e3
                        subst e3
                        replace hw4 := pw_cell_below HS.out.box.low hw4
                        clear hw0 hw1 hw2 hw3 hw5 hl6 hi6 hl7 hi7
                        replace c5 := eq_true c5
                        replace c6 := eq_true c6
                        by_cases c7 : (rd_T45 l0_0 kid).f4 = i
                        · rw [if_pos c7] at H
                          have HA := Aside0.mk H
                          clear H
                          have c7b : ((rd_T45 l0_0 kid).f4 == i) = true := beq_iff_eq.mpr c7
                          have c7c : ((rd_T45 l0_0 kid).f4 != i) = false := bne_eq_false_iff_eq.mpr c7
                          clear c7
                          go_wp2_with (first | (go_at_call 37; (with_reducible refine (spec_l1In.calls _ _ _ true _ A3.out).mono ?_); rintro e w5 ⟨rfl, ⟨nd, rfl⟩⟩))
                          go_roundg k2
                          case measure => have := HK.out; have := HJ.out; have := HK2.out; omega
                          case rel => exact ⟨_, _, rfl, HA, ⟨by have := HK2.out; omega⟩, ⟨SeenW.put (SeenW.drewN HS.out _) kid true⟩, ⟨blk_far (p := ⟨gs, kid.toNat, none⟩) HB6.out (Ne.symm (HNG.out)) _⟩⟩
                        · rw [if_neg c7] at H
                          obtain rfl := Option.some.inj H
                          clear H
                          have c7b : ((rd_T45 l0_0 kid).f4 == i) = false := beq_eq_false_iff_ne.mpr c7
                          have c7c : ((rd_T45 l0_0 kid).f4 != i) = true := bne_iff_ne.mpr c7
                          clear c7
                          go_wp2_with (first | (go_at_call 37; (with_reducible refine (spec_l1In.calls _ _ _ true _ A3.out).mono ?_); rintro e w5 ⟨rfl, ⟨nd, rfl⟩⟩))
                          go_ret
                          exact ⟨rfl, pw_below_drewN HS.out.box.low _⟩
                    · rw [if_neg c6'] at H; cases H
                  · rw [if_neg c5] at H; cases H
               · rw [if_neg c4] at H; cases H
             · rw [if_neg c3] at H
               have HA := Aside0.mk H
               clear H
               have c3b : decide (j < ((rd_T45 l0_0 i).f5.length : Int)) = false := decide_eq_false c3
               clear c3
               go_wp2
               go_roundg k2
               case measure => have := HK.out; have := HJ.out; have := HK2.out; omega
               case rel => exact ⟨_, _, rfl, HA, ⟨by have := HK.out; have := HJ.out; have := HK2.out; omega⟩, HS⟩
      · rw [if_neg c2] at H; cases H
    · rw [if_neg c1] at H
      have HA := Aside0.mk H
      clear H
      have c1b : decide (i < (l0_0.length : Int)) = false := decide_eq_false c1
      clear c1
      go_wp2
      go_loopg [9] k1 (fun kq v9 w' => ∃ (i : Int), v9 = .int .i64 i ∧ Aside0 (spec_TreeOk.l2 kq (l0_0.length : Int) s i l0_0 = some r) ∧ Aside0 (kq ≤ k1) ∧ Aside0 (SeenW w w' gt A0_0 l0_0.length c0_0 gs cap s))
      case atStart => exact ⟨0, rfl, HA, ⟨Nat.le_refl _⟩, HS⟩
      case round =>
       clear HA HS c1b
       obtain ⟨i, rfl, HA, HK2, HS⟩ := hrel
       cases gk with
       | zero => exact absurd HA.out (by simp [spec_TreeOk.l2])
       | succ k2 =>
        have H := HA.out
        clear HA
        simp only [spec_TreeOk.l2] at H
        by_cases c1 : i < (l0_0.length : Int)
        · rw [if_pos c1] at H
          by_cases c2 : 0 ≤ i
          · rw [if_pos c2] at H
            by_cases c2' : i < (s.length : Int)
            · rw [if_pos c2', if_pos c1] at H
              clear c2'
              have c1b : decide (i < (l0_0.length : Int)) = true := decide_eq_true c1
              have hcb := HS.out.box.cell
              obtain ⟨hs, hsf⟩ := HS.out.at_ i c2 c1
              obtain ⟨ad, A_2, c_2, A_5, c_5, e1, hx0, hx1, hx2, hx3, hx4, hx5, hl2, hi2, hl5, hi5⟩ := at_T45 HC.out i c2 c1
              subst e1
              replace hx4 := pw_cell_below HS.out.box.low hx4
              clear hx0 hx1 hx2 hx3 hx5 hl2 hi2 hl5 hi5
              replace c2 := eq_true c2
              replace c1 := eq_true c1
              by_cases c3 : (rdOf false s i != decide ((rd_T45 l0_0 i).f4 ≥ 0)) = true
              · rw [if_pos c3] at H
                obtain rfl := Option.some.inj H
                clear H
                have c3b1 : decide (rdOf false s i = decide (0 ≤ (rd_T45 l0_0 i).f4)) = false := by simpa using c3
                have c3b2 : (rdOf false s i == decide (0 ≤ (rd_T45 l0_0 i).f4)) = false := by simpa using c3
                have c3b3 : ¬ (rdOf false s i = decide (0 ≤ (rd_T45 l0_0 i).f4)) := by simpa using c3
                have c3b4 : (rdOf false s i != decide (0 ≤ (rd_T45 l0_0 i).f4)) = true := c3
                clear c3
                go_wp2
                go_quiet (fail)
                try go_wp2
                go_ret
                exact ⟨rfl, pw_below_drewN HS.out.box.low _⟩
              · rw [if_neg c3] at H
                have HA := Aside0.mk H
                clear H
                have c3b1 : decide (rdOf false s i = decide (0 ≤ (rd_T45 l0_0 i).f4)) = true := by simpa using c3
                have c3b2 : (rdOf false s i == decide (0 ≤ (rd_T45 l0_0 i).f4)) = true := by simpa using c3
                have c3b4 : (rdOf false s i != decide (0 ≤ (rd_T45 l0_0 i).f4)) = false := Bool.eq_false_iff.mpr c3
                clear c3
                go_wp2
                go_quiet (fail)
                try go_wp2
                go_loopg [10, 11] k2 (fun kq v10 v11 w' => ∃ (u : Int) (q : Int), v10 = .int .i64 u ∧ v11 = .int .i64 q ∧ Aside0 (spec_TreeOk.l3 kq (l0_0.length : Int) s i u q l0_0 = some r) ∧ Aside0 (kq ≤ k2) ∧ Aside0 (SeenW w w' gt (some ad) l0_0.length c0_0 gs cap s))
                case atStart => exact ⟨_, 0, rfl, rfl, HA, ⟨Nat.le_refl _⟩, ⟨SeenW.drewN HS.out _⟩⟩
                case round =>
                 clear HA HS hs hsf hcb c1b c3b1 c3b2 c3b4 hx4
                 obtain ⟨u, q, rfl, rfl, HA, HK3, HS⟩ := hrel
                 cases gk with
                 | zero => exact absurd HA.out (by simp [spec_TreeOk.l3])
                 | succ k3 =>
                  have H := HA.out
                  clear HA
                  simp only [spec_TreeOk.l3] at H
                  have hcb := HS.out.box.cell
                  by_cases c4 : u ≥ 0
                  · rw [if_pos c4] at H
                    have c4b : decide (0 ≤ u) = true := decide_eq_true c4
                    by_cases c5 : q > (l0_0.length : Int)
                    · rw [if_pos c5] at H
                      obtain rfl := Option.some.inj H
                      clear H
                      have c5b : decide ((l0_0.length : Int) < q) = true := decide_eq_true c5
                      clear c4 c5
                      go_wp2
                      go_ret
                      exact ⟨rfl, HS.out.box.low⟩
                    · rw [if_neg c5] at H
                      have c5b : decide ((l0_0.length : Int) < q) = false := decide_eq_false c5
                      rw [if_pos c4] at H
                      by_cases c6 : u < (l0_0.length : Int)
                      · rw [if_pos c6] at H
                        have HA := Aside0.mk H
                        clear H
                        obtain ⟨ad', A_6, c_6, A_7, c_7, e3, hw0, hw1, hw2, hw3, hw4, hw5, hl6, hi6, hl7, hi7⟩ := at_T45 HC.out u c4 c6
                        injection e3 with e3
                        subst e3
                        replace hw4 := pw_cell_below HS.out.box.low hw4
                        clear hw0 hw1 hw2 hw3 hw5 hl6 hi6 hl7 hi7 c5
                        have c4' : (0 ≤ u) = True := eq_true c4
                        clear c4
                        replace c6 := eq_true c6
                        go_wp2
                        go_roundg k3
                        case measure => have := HK.out; have := HK2.out; have := HK3.out; omega
                        case rel => exact ⟨_, _, rfl, rfl, HA, ⟨by have := HK3.out; omega⟩, HS⟩
                      · rw [if_neg c6] at H; cases H
                  · rw [if_neg c4] at H
                    have HA := Aside0.mk H
                    clear H
                    have c4b : decide (0 ≤ u) = false := decide_eq_false c4
                    clear c4
                    go_wp2
                    go_roundg k3
                    case measure => have := HK.out; have := HK2.out; have := HK3.out; omega
                    case rel => exact ⟨_, rfl, HA, ⟨by have := HK2.out; have := HK3.out; omega⟩, HS⟩
            · rw [if_neg c2'] at H; cases H
          · rw [if_neg c2] at H; cases H
        · rw [if_neg c1] at H
          obtain rfl := Option.some.inj H
          clear H
          have c1b : decide (i < (l0_0.length : Int)) = false := decide_eq_false c1
          clear c1
          go_wp2
          go_ret
          exact ⟨rfl, HS.out.box.low⟩
theorem NodW.over {w W : World} {gb : Nat} {a0 a1 a2 a3 a4 a5 : Value} {x : S45} {v2 v5 : Value} (hblk : W.heap[gb]? = some (.cells #[a0, a1, a2, a3, a4, a5] 45 (0, 0))) (q2 : Kd.R k98 98 W w.heap.size (fun k => k ≠ gb) v2 x.f2) (q5 : Kd.R (Kd.int .i64) 3 W w.heap.size (fun k => k ≠ gb) v5 x.f5) (low : Below w.heap.size w W) (hge : w.heap.size ≤ gb) : NodW w (fillN W gb x v2 v5) gb x v2 v5 := by
 have f2 : ∀ k, k ≠ gb → k ≠ gb := fun _ h => h
 refine ⟨fillN_blk x v2 v5 hblk, ?_, ?_, fillN_below x v2 v5 low hge, hge⟩
 · exact Kd.R_far (p := ⟨gb, 5, none⟩) (Kd.R_far (p := ⟨gb, 4, none⟩) (Kd.R_far (p := ⟨gb, 3, none⟩) (Kd.R_far (p := ⟨gb, 2, none⟩) (Kd.R_far (p := ⟨gb, 1, none⟩) (Kd.R_far (p := ⟨gb, 0, none⟩) q2 f2 _) f2 _) f2 _) f2 _) f2 _) f2 _
 · exact Kd.R_far (p := ⟨gb, 5, none⟩) (Kd.R_far (p := ⟨gb, 4, none⟩) (Kd.R_far (p := ⟨gb, 3, none⟩) (Kd.R_far (p := ⟨gb, 2, none⟩) (Kd.R_far (p := ⟨gb, 1, none⟩) (Kd.R_far (p := ⟨gb, 0, none⟩) q5 f2 _) f2 _) f2 _) f2 _) f2 _) f2 _
def spec_l6Copy.l0 : Nat → Int → List S45 → List S45 → Option (List S45)
 | 0, _, _, _ => none
 | k + 1, j, xs, outs => if j < (xs.length : Int) then (if 0 ≤ j then (if (rd_T45 xs j).f2.length ≤ 1048576 then (if (rd_T45 xs j).f5.length ≤ 1048576 then (if outs.length < 1000000 then spec_l6Copy.l0 k (wrap64 (j + 1)) xs (outs ++ [⟨(rd_T45 xs j).f0, (rd_T45 xs j).f1, (rd_T45 xs j).f2, (rd_T45 xs j).f3, (rd_T45 xs j).f4, (rd_T45 xs j).f5⟩]) else none) else none) else none) else none) else some outs
def spec_l6Copy.f (k : Nat) (l0_0 : List S45) : Option (List S45) := spec_l6Copy.l0 k 0 l0_0 []
theorem spec_l6Copy.mono_l : ∀ k, (∀ y0 y1 y2, LeO (spec_l6Copy.l0 k y0 y1 y2) (spec_l6Copy.l0 (k + 1) y0 y1 y2))
 | 0 => fun _ _ _ r h => by simp [spec_l6Copy.l0] at h
 | k + 1 => by
  have ih := spec_l6Copy.mono_l k
  intro y0 y1 y2
  rw [spec_l6Copy.l0, spec_l6Copy.l0]
  exact LeO.ite (LeO.ite (LeO.ite (LeO.ite (LeO.ite (ih _ _ _) (LeO.refl _)) (LeO.refl _)) (LeO.refl _)) (LeO.refl _)) (LeO.refl _)
theorem spec_l6Copy.mono : ∀ a0 k, LeO (spec_l6Copy.f k a0) (spec_l6Copy.f (k + 1) a0) := fun _ k => spec_l6Copy.mono_l k _ _ _
set_option maxHeartbeats 8000000 in
set_option maxRecDepth 100000 in
theorem spec_l6Copy.calls (k : Nat) (A0 : Option Addr) (c0 : Nat) (xs : List S45) (r : List S45) (w : World) (hr0_0 : Kd.C k45 w A0 xs.length xs) (hc0_0 : xs.length ≤ c0) (h : spec_l6Copy.f k xs = some r) :
 Calls Try.prog 52 #[.agg #[.slice A0 xs.length c0]] w fun e w' => ∃ v0_ : Value, e = .returned (.agg #[v0_]) ∧ Kd.S k45 45 w' w.heap.size (fun _ => True) v0_ r ∧ Below w.heap.size w w' := by
 have HA := Aside0.mk h
 have HC := Aside0.mk hr0_0
 clear h hr0_0 hc0_0
 go_enter Try.func52, Try.ntmps52
 go_upto_region 1 with (first | ((with_reducible refine gate_dst (N := 1) rfl ?_); refine box_event ?hg (N := 1) ?hd (cs := #[.slice A0 xs.length c0]) (t := 29) ?hr ?_; (case hd => rfl); (case hg => rfl); (case hr => first | (go_simp; done) | (go_simp; rfl)); intro gt hg w1 hbox hb; have HT := Aside0.mk hbox; have HL := Aside0.mk hb; clear hbox hb hg) | ((with_reducible refine gate_dst (N := 2) rfl ?_); refine box_event ?hg (N := 2) ?hd (cs := #[.slice none 0 0]) (t := 29) ?hr ?_; (case hd => rfl); (case hg => rfl); (case hr => first | (go_simp; done) | (go_simp; rfl)); intro gr hg w2 hbox hb; have HT2 := Aside0.mk (blk_below HT.out hb); have HR := Aside0.mk hbox; have HL2 := Aside0.mk (below_step HL.out hb); have HGR := Aside0.mk (show w.heap.size ≤ gr by rw [hg]; exact HL.out.size); clear hbox hb hg))
 go_upto_region 2 with (fail)
 have HQ0 := Aside0.mk (show OutW w2 (w2.alloc (.cells #[.slice none 0 0] 29)) w2.heap.size (.slice none 0 0) [] from ⟨blk_new _ _, Kd.S_nil _ _ _ _ _, below_alloc (Below.refl _ _) _, Nat.le_refl _⟩)
 generalize w2.alloc (.cells #[.slice none 0 0] 29) = w3 at HQ0 ⊢
 generalize hq_ : w2.heap.size = gq at HQ0 ⊢
 clear hq_
 go_wp2_with fail
 go_loopg [4] k (fun kq v4 w' => ∃ (j : Int) (outs : List S45) (vo : Value), v4 = .int .i64 j ∧ Aside0 (spec_l6Copy.l0 kq j xs outs = some r) ∧ Aside0 (kq ≤ k) ∧ Aside0 (OutW w2 w' gq vo outs))
 case atStart => exact ⟨0, _, _, rfl, HA, ⟨Nat.le_refl _⟩, HQ0⟩
 case round =>
  clear HA HQ0
  obtain ⟨j, outs, vo, rfl, HA, HK, HQ⟩ := hrel
  have hcg := pw_cell_below HQ.out.low (blk_cell HT2.out 0)
  cases gk with
  | zero => exact absurd HA.out (by simp [spec_l6Copy.l0])
  | succ k1 =>
   have H := HA.out
   clear HA
   simp only [spec_l6Copy.l0] at H
   by_cases c1 : j < (xs.length : Int)
   · rw [if_pos c1] at H
     by_cases c2 : 0 ≤ j
     · rw [if_pos c2] at H
       by_cases c3 : (rd_T45 xs j).f2.length ≤ 1048576
       · rw [if_pos c3] at H
         by_cases c4 : (rd_T45 xs j).f5.length ≤ 1048576
         · rw [if_pos c4] at H
           by_cases c5 : outs.length < 1000000
           · rw [if_pos c5] at H
             have c1b : decide (j < (xs.length : Int)) = true := decide_eq_true c1
             obtain ⟨ad, A_2, c_2, A_5, c_5, e1, hx0, hx1, hx2, hx3, hx4, hx5, hl2, hi2, hl5, hi5⟩ := at_T45 HC.out j c2 c1
             subst e1
             have HLB := Aside0.mk HL2.out
             replace hx0 := pw_cell_below (below_step HL2.out HQ.out.low) hx0
             replace hx1 := pw_cell_below (below_step HL2.out HQ.out.low) hx1
             replace hx2 := pw_cell_below (below_step HL2.out HQ.out.low) hx2
             replace hx3 := pw_cell_below (below_step HL2.out HQ.out.low) hx3
             replace hx4 := pw_cell_below (below_step HL2.out HQ.out.low) hx4
             replace hx5 := pw_cell_below (below_step HL2.out HQ.out.low) hx5
             have HI2 := Aside0.mk hi2
             have HI5 := Aside0.mk hi5
             have HA := Aside0.mk H
             have H3 := Aside0.mk c3
             have H4 := Aside0.mk c4
             have H5 := Aside0.mk c5
             clear hl2 hi2 hl5 hi5 H c3 c4 c5
             replace c1 := eq_true c1
             replace c2 := eq_true c2
             go_upto_region 6 with (fail)
             clear hx0 hx1 hx2 hx3 hx4 hx5 hcg
             have hX := blk_new wr (.cells #[.int .i64 (rd_T45 xs j).f0, .string (rd_T45 xs j).f1, .slice A_2 (rd_T45 xs j).f2.length c_2, .string (rd_T45 xs j).f3, .int .i64 (rd_T45 xs j).f4, .slice A_5 (rd_T45 xs j).f5.length c_5] 45)
             have hl := below_alloc (Below.refl wr.heap.size wr) (.cells #[.int .i64 (rd_T45 xs j).f0, .string (rd_T45 xs j).f1, .slice A_2 (rd_T45 xs j).f2.length c_2, .string (rd_T45 xs j).f3, .int .i64 (rd_T45 xs j).f4, .slice A_5 (rd_T45 xs j).f5.length c_5] 45)
             generalize wr.alloc (.cells #[.int .i64 (rd_T45 xs j).f0, .string (rd_T45 xs j).f1, .slice A_2 (rd_T45 xs j).f2.length c_2, .string (rd_T45 xs j).f3, .int .i64 (rd_T45 xs j).f4, .slice A_5 (rd_T45 xs j).f5.length c_5] 45) = w5 at hX hl ⊢
             obtain ⟨gb, hgb⟩ : ∃ g_, g_ = wr.heap.size := ⟨_, rfl⟩
             rw [← hgb] at hX ⊢
             have HGB := Aside0.mk (show wr.heap.size ≤ gb from Nat.le_of_eq hgb.symm)
             have HB := Aside0.mk hX
             have HL := Aside0.mk hl
             clear hX hl hgb
             have hb2 := blk_cell HB.out 2
             go_upto_region 7 with (first | ((with_reducible refine gate_dst (N := 19) rfl ?_); refine Kd.R_lit (w0 := wr) k98 wr.heap.size 98 ?hg (N := 19) ?hd (xs := ([] : List S98)) (inner := []) (ok := fun k_ => k_ ≠ gb) (okp := fun _ => False) ?hr ?hp (fun _ hk => hk.elim) (by have := blk_lt HB.out; omega) HL.out HL.out.size (by simp) ?_; (case hd => rfl); (case hg => rfl); (case hr => first | (go_simp; done) | (go_simp; rfl)); (case hp => exact (Reps.none _ _)); intro vl wl ho hb hg hnew_; have HRl := Aside0.mk ho; have HLl := Aside0.mk hb; have HGl := Aside0.mk hg; have HBl := Aside0.mk (blk_grown HB.out hg (by simp)); have hyl := blk_cell HBl.out 2; clear ho hb hg hnew_) | ((with_reducible refine gate_builtin (b := .append) (xs := #[.tmp 19, .tmp 21]) rfl ?_); at_builtin; refine Kd.R_append_rows k98 (w0 := wr) wr.heap.size rfl (.tmp 19) (.tmp 21) 43 98 (.agg #[(.string ⟨#[]⟩), (.string ⟨#[]⟩)]) 32 rfl Try.underlying43 info98 rfl (by decide) (by omega) vl [] (rd_T45 xs j).f2 _ _ _ (fun k_ => k_ ≠ gb) (fun _ => False) rfl rfl HRl.out (Kd.C_below HI2.out (below_step (below_step HLB.out HQ.out.low) HLl.out)) (fun _ _ h => h) (fun _ h => h.elim) (fun k_ hk => by have := blk_lt HBl.out; omega) HLl.out HLl.out.size (by have := H3.out; simp only [List.length_nil]; omega) ?_; intro vn wn ho8 hb8 hg8 hat; rw [List.nil_append] at ho8; obtain ⟨B2, d2, rfl⟩ := Kd.R_slice ho8; have HRn := Aside0.mk ho8; have HLn := Aside0.mk hb8; have HGn := Aside0.mk hg8; have HBn := Aside0.mk (blk_grown HBl.out hg8 (fun e_ => HRl.out.1 gb e_.symm rfl)); have hfn := blk_frozen HBn.out; have hyn := blk_cell HBn.out 2; clear ho8 hb8 hg8 hat))
             have HB6 := Aside0.mk (blk_set HBn.out 2 (.slice B2 (rd_T45 xs j).f2.length d2))
             have HL6 := Aside0.mk (below_set (j := 2) (v := .slice B2 (rd_T45 xs j).f2.length d2) HLn.out HGB.out)
             have HR2 := Aside0.mk (Kd.R_far (p := ⟨gb, 2, none⟩) HRn.out (fun _ hk => hk) (.slice B2 (rd_T45 xs j).f2.length d2))
             clear hfn hyn hyl hb2 HBn HLn HRn HRl HLl HBl HGl HGn HB HL
             generalize wn.setCell ⟨gb, 2, none⟩ (.slice B2 (rd_T45 xs j).f2.length d2) = w6 at HB6 HL6 HR2 ⊢
             have HB := HB6
             have HL := HL6
             clear HB6 HL6
             have hb5 := blk_cell HB.out 5
             go_upto_region 8 with (first | ((with_reducible refine gate_dst (N := 24) rfl ?_); refine Kd.R_lit (w0 := wr) (Kd.int .i64) wr.heap.size 3 ?hg (N := 24) ?hd (xs := ([] : List Int)) (inner := []) (ok := fun k_ => k_ ≠ gb) (okp := fun _ => False) ?hr ?hp (fun _ hk => hk.elim) (by have := blk_lt HB.out; omega) HL.out HL.out.size (by simp) ?_; (case hd => rfl); (case hg => rfl); (case hr => first | (go_simp; done) | (go_simp; rfl)); (case hp => exact (Reps.none _ _)); intro vl wl ho hb hg hnew_; have HRl := Aside0.mk ho; have HLl := Aside0.mk hb; have HGl := Aside0.mk hg; have HBl := Aside0.mk (blk_grown HB.out hg (by simp)); have hyl := blk_cell HBl.out 5; clear ho hb hg hnew_) | ((with_reducible refine gate_builtin (b := .append) (xs := #[.tmp 24, .tmp 26]) rfl ?_); at_builtin; refine Kd.R_append_rows (Kd.int .i64) (w0 := wr) wr.heap.size rfl (.tmp 24) (.tmp 26) 37 3 (.int .i64 0) 8 rfl Try.underlying37 info3 rfl (by decide) (by omega) vl [] (rd_T45 xs j).f5 _ _ _ (fun k_ => k_ ≠ gb) (fun _ => False) rfl rfl HRl.out (Kd.C_below HI5.out (below_step (below_step HLB.out HQ.out.low) HLl.out)) (fun _ _ h => h) (fun _ h => h.elim) (fun k_ hk => by have := blk_lt HBl.out; omega) HLl.out HLl.out.size (by have := H4.out; simp only [List.length_nil]; omega) ?_; intro vn wn ho8 hb8 hg8 hat; rw [List.nil_append] at ho8; obtain ⟨B5, d5, rfl⟩ := Kd.R_slice ho8; have HRn := Aside0.mk ho8; have HLn := Aside0.mk hb8; have HGn := Aside0.mk hg8; have HBn := Aside0.mk (blk_grown HBl.out hg8 (fun e_ => HRl.out.1 gb e_.symm rfl)); have hfn := blk_frozen HBn.out; have hyn := blk_cell HBn.out 5; clear ho8 hb8 hg8 hat))
             have HN := Aside0.mk (show NodW wr (wn.setCell ⟨gb, 5, none⟩ (.slice B5 (rd_T45 xs j).f5.length d5)) gb ⟨(rd_T45 xs j).f0, (rd_T45 xs j).f1, (rd_T45 xs j).f2, (rd_T45 xs j).f3, (rd_T45 xs j).f4, (rd_T45 xs j).f5⟩ (.slice B2 (rd_T45 xs j).f2.length d2) (.slice B5 (rd_T45 xs j).f5.length d5) from ⟨blk_set HBn.out 5 _, Kd.R_far (p := ⟨gb, 5, none⟩) (Kd.R_over' (Kd.R_grown HR2.out HGl.out (fun _ _ => by simp)) (Kd.R_typed HRl.out) (by decide) HGn.out) (fun _ hk => hk) _, Kd.R_far (p := ⟨gb, 5, none⟩) HRn.out (fun _ hk => hk) _, below_set HLn.out HGB.out, HGB.out⟩)
             clear hfn hyn hyl hb5 HBn HLn HRn HRl HLl HBl HGl HGn HB HL HR2
             generalize wn.setCell ⟨gb, 5, none⟩ (.slice B5 (rd_T45 xs j).f5.length d5) = w7 at HN ⊢
             obtain ⟨hq0, hq1, hq2, hq3, hq4, hq5⟩ := HN.out.cells
             have hqo := pw_cell_below HN.out.low HQ.out.cell
             go_wp2_with (first | ((with_reducible refine gate_builtin (b := .append) (xs := #[.tmp 30, .tmp 32]) rfl ?_); at_builtin; refine Kd.S_append (w0 := w2) k45 w2.heap.size rfl (.tmp 30) (.tmp 32) 27 45 (.agg #[(.int .i64 0), (.string ⟨#[]⟩), (.slice none 0 0), (.string ⟨#[]⟩), (.int .i64 0), (.slice none 0 0)]) 96 rfl Try.underlying27 info45 rfl (by decide) (by omega) vo outs _ _ (fun k_ => k_ ≠ gq) (fun k_ => wr.heap.size ≤ k_ ∧ k_ < w7.heap.size) rfl rfl (NodW.elem HN.out HQ.out.low) (HQ.out.okp) (fun k_ hk => by have := HQ.out.lt; have := HN.out.low.size; omega) (HQ.out.apart HN.out.low) (below_step HQ.out.low HN.out.low) (below_step HQ.out.low HN.out.low).size (by have := H5.out; omega) ?_; intro v1 w9 hS hlow hgw hat; obtain ⟨A1, c1', ev1⟩ := Kd.S_slice hS; rw [List.length_append, List.length_singleton] at ev1; subst ev1; have HQ2 := Aside0.mk (HQ.out.put HN.out.low hS hlow hgw); have hcq2 := (blk_cell (blk_grown (blk_below HQ.out.blk HN.out.low) hgw (fun e_ => (HQ.out.row |> Kd.S_R).1 gq e_.symm rfl)) 0).trans (show (#[vo] : Array Value)[0]? = some vo from rfl); have hfq2 := blk_frozen (blk_grown (blk_below HQ.out.blk HN.out.low) hgw (fun e_ => (HQ.out.row |> Kd.S_R).1 gq e_.symm rfl)); clear hS hlow hgw hat))
             go_roundg k1
             case measure => have := HK.out; omega
             case rel => exact ⟨_, _, _, rfl, HA, ⟨by have := HK.out; omega⟩, HQ2⟩
           · rw [if_neg c5] at H; cases H
         · rw [if_neg c4] at H; cases H
       · rw [if_neg c3] at H; cases H
     · rw [if_neg c2] at H; cases H
   · rw [if_neg c1] at H
     obtain rfl := Option.some.inj H
     clear H
     have c1b : decide (j < (xs.length : Int)) = false := decide_eq_false c1
     clear c1
     obtain ⟨Ao, co, rfl⟩ := Kd.S_slice HQ.out.row
     have hcq := HQ.out.cell
     have HRR := Aside0.mk (blk_below HR.out HQ.out.low)
     have hcr := blk_cell HRR.out 0
     have hfr := blk_frozen HRR.out
     go_wp2_with fail
     refine bodyPost_ret (results_cell_row rfl _ _ gr 29 #[.slice Ao outs.length co] (0, 0) _ rfl (blk_put (cs := #[.slice none 0 0]) HRR.out 0 _ rfl) Try.underlying29 rfl (by kernel_rfl)) rfl ?_
     exact ⟨_, rfl, Kd.S_mono (Kd.S_lower (Kd.S_far (p := ⟨gr, 0, none⟩) (Kd.S_types HQ.out.row HRR.out (by decide)) (fun _ hk => hk.2) _) HL2.out.size) (fun _ _ => trivial), below_set (below_step HL2.out HQ.out.low) HGR.out⟩
section
variable {P : Program} {ops : Array Oper} {md : Region.Mode} {Q : Exit → Act → World → Prop} {S : World → Prop}
/-- Operation n waits for operation i. -/
def lastWaits (md : Region.Mode) (ops : Array Oper) (n i : Nat) : Bool := ((ops[n]?).map fun o => o.after.any fun e => Region.binds md e && e.on == i).getD false
theorem lastWaits_spec {n i : Nat} (h : lastWaits md ops n i = true) : ∃ o, ops[n]? = some o ∧ ∃ e ∈ o.after, Region.binds md e = true ∧ e.on = i := by
 unfold lastWaits at h
 cases hn : ops[n]? with
 | none => rw [hn] at h; cases h
 | some o =>
  rw [hn] at h
  simp only [Option.map_some, Option.getD_some] at h
  obtain ⟨e, he, hb⟩ := Array.any_eq_true'.1 h
  simp only [Bool.and_eq_true, beq_iff_eq] at hb
  exact ⟨o, rfl, e, he, hb.1, hb.2⟩
theorem getD_un {listed : Array Bool} {i : Nat} (h : listed.getD i true = false) : listed.getD i false = false := by
 rcases Nat.lt_or_ge i listed.size with h' | h'
 · simp [h'] at h ⊢; exact h
 · simp [Array.getElem?_eq_none h'] at h
/-- A drawn region whose last operation n waits for all others: S holds behind every operation but n. -/
def wpAnyN (P : Program) (md : Region.Mode) (ops : Array Oper) (Q : Exit → Act → World → Prop) (S : World → Prop) (n : Nat) : Nat → Array Bool → Act → World → Prop
 | 0, listed, a, w => Region.ready md ops listed = [] ∧ Q .normal a w
 | fuel + 1, listed, a, w =>
  (Region.ready md ops listed = [] → Q .normal a w) ∧
  ∀ i ∈ Region.ready md ops listed, wpOp P ops Q i (fun a' w' => (i ≠ n → S w') ∧ wpAnyN P md ops Q S n fuel (listed.setIfInBounds i true) a' w') a w
theorem wpAny_of_N {n : Nat} : ∀ (fuel : Nat) (listed : Array Bool) (a : Act) (w : World), wpAnyN P md ops Q S n fuel listed a w → wpAny P md ops Q fuel listed a w
 | 0, _, _, _, h => h
 | fuel + 1, _, _, _, h => ⟨h.1, fun i hi => wpOp_mono (fun a' w' h' => wpAny_of_N fuel _ a' w' h'.2) (h.2 i hi)⟩
theorem wpAnyN_first {i n : Nat} {oi : Oper} {v : Value} (hi : ops[i]? = some oi) (hsel : ∀ (j : Nat) (o : Oper) cs b, ops[j]? = some o → o.op ≠ .select cs b)
 (hQ : ∀ c a w, Q (.panic c) (a.put oi.dst v) w → Q (.panic c) a w) (hwn : lastWaits md ops n i = true) :
 ∀ (fuel : Nat) (listed : Array Bool) (a : Act) (w : World),
  (∀ j oj, ops[j]? = some oj → j ≠ i → listed.getD j true = false → (∀ e ∈ oj.after, Region.binds md e = true → e.on ≠ i) → oi.apart ops oj = true) →
  i ∈ Region.ready md ops listed → YieldsIf P ops S oi v a → S w →
  wpAnyN P md ops Q S n fuel (listed.setIfInBounds i true) (a.put oi.dst v) w → wpAnyN P md ops Q S n (fuel + 1) listed a w := by
 intro fuel
 induction fuel with
 | zero =>
  intro listed a w _ hr hy hS H
  refine ⟨fun h => (by rw [h] at hr; cases hr), fun j hj => ?_⟩
  by_cases hji : j = i
  · subst hji; exact hy.wpOp hi hS ⟨fun _ => hS, H⟩
  · have := ready_mono hj hji
    rw [H.1] at this
    cases this
 | succ fuel ih =>
  intro listed a w hfree hr hy hS H
  refine ⟨fun h => (by rw [h] at hr; cases hr), fun j hj => ?_⟩
  by_cases hji : j = i
  · subst hji; exact hy.wpOp hi hS ⟨fun _ => hS, H⟩
  · have h1 := H.2 j (ready_mono hj hji)
    obtain ⟨hjun, oj, hoj, hall⟩ := mem_ready.1 hj
    have hnot : ∀ e ∈ oj.after, Region.binds md e = true → e.on ≠ i := fun e he hb heq => by
     have h1 := hall e he hb
     have h0 := (mem_ready.1 hr).1
     rw [heq, getD_un h0] at h1
     cases h1
    have hjn : j ≠ n := fun e => by
     subst e
     obtain ⟨oj', ho', e', he', hb', hon⟩ := lastWaits_spec hwn
     have : oj' = oj := Option.some.inj (ho'.symm.trans hoj)
     subst this
     exact hnot e' he' hb' hon
    have h2 := wpOp_putIf hoj (hfree j oj hoj hji hjun hnot) (fun cs b => hsel i oi cs b hi) (fun cs b => hsel j oj cs b hoj) hQ hy h1
    have hfree' : ∀ k ok, ops[k]? = some ok → k ≠ i → (listed.setIfInBounds j true).getD k true = false →
     (∀ e ∈ ok.after, Region.binds md e = true → e.on ≠ i) → oi.apart ops ok = true := fun k ok hk hki hun hno => by
     refine hfree k ok hk hki ?_ hno
     by_cases hjk : j = k
     · subst hjk; exact hjun
     · rw [getD_set_ne true hjk] at hun; exact hun
    refine wpOp_mono (fun a' w' h3 => ⟨h3.2.1, ih (listed.setIfInBounds j true) a' w' hfree' (ready_mono hr (Ne.symm hji)) h3.1 (h3.2.1 hjn) ?_⟩) h2
    rw [Array.setIfInBounds_comm _ _ hji]
    exact h3.2.2
theorem wpAnyN_take {i n : Nat} {oi : Oper} {v : Value} {fuel : Nat} {listed : Array Bool} {a : Act} {w : World} (hi : ops[i]? = some oi)
 (hs : Region.noSelect ops = true) (hf : Region.free md ops listed i = true) (hr : (Region.ready md ops listed).contains i = true) (hwn : lastWaits md ops n i = true)
 (hQ : ∀ c a w, Q (.panic c) (a.put oi.dst v) w → Q (.panic c) a w) (hy : YieldsIf P ops S oi v a) (hS : S w)
 (h : wpAnyN P md ops Q S n fuel (listed.setIfInBounds i true) (a.put oi.dst v) w) : wpAnyN P md ops Q S n (fuel + 1) listed a w :=
 wpAnyN_first hi (Region.noSelect_spec hs) hQ hwn fuel listed a w (Region.free_spec hi hf) (by simpa using hr) hy hS h
/-- One operation alone may come up. -/
theorem wpAnyN_one {i n : Nat} {o : Oper} {fuel : Nat} {listed : Array Bool} {a : Act} {w : World} (hr : Region.ready md ops listed = [i]) (ho : ops[i]? = some o)
 (h : ∀ K' : Act → World → Prop, Shut (∀ a w, S w → (S w → wpAnyN P md ops Q S n fuel (listed.setIfInBounds i true) a w) → K' a w) → if Region.wanted o (yielded ops a.tmps) = true then Oper.wp P o a w K' Q else K' (a.put o.dst undef) w) : wpAnyN P md ops Q S n (fuel + 1) listed a w :=
 ⟨fun h0 => absurd (hr ▸ h0) (by simp), fun j hj => by
  rw [hr] at hj
  obtain rfl := List.mem_singleton.1 hj
  exact wpOp_step ho (fun K' hK => h K' (fun a w hS hW => hK a w ⟨fun _ => hS, hW hS⟩))⟩
/-- The last operation. -/
theorem wpAnyN_last {n : Nat} {o : Oper} {fuel : Nat} {listed : Array Bool} {a : Act} {w : World} (hr : Region.ready md ops listed = [n]) (hd : Region.ready md ops (listed.setIfInBounds n true) = []) (ho : ops[n]? = some o)
 (h : ∀ K' : Act → World → Prop, Shut (∀ a w, Q .normal a w → K' a w) → if Region.wanted o (yielded ops a.tmps) = true then Oper.wp P o a w K' Q else K' (a.put o.dst undef) w) : wpAnyN P md ops Q S n (fuel + 1) listed a w :=
 ⟨fun h0 => absurd (hr ▸ h0) (by simp), fun j hj => by
  rw [hr] at hj
  obtain rfl := List.mem_singleton.1 hj
  refine wpOp_step ho (fun K' hK => h K' (fun a w hq => hK a w ⟨fun e => absurd rfl e, ?_⟩))
  cases fuel with
  | zero => exact ⟨hd, hq⟩
  | succ f => exact ⟨fun _ => hq, by rw [hd]; simp⟩⟩
theorem wp_region_N {n id : Nat} {a : Act} {w : World} (hm : P.follows .mixedOrders = true) (hS : S w.drew)
 (h : S w.drew → wpAnyN P .any ops Q S n ops.size (Array.replicate ops.size false) a w.drew) : (Code.region id ops true).wp P Q a w :=
 wp_region_any hm (wpAny_of_N _ _ _ _ (h hS))
/-- Two operations may come up: either does. -/
theorem wpAnyN_two {i j n : Nat} {oi oj : Oper} {fuel : Nat} {listed : Array Bool} {a : Act} {w : World} (hr : Region.ready md ops listed = [i, j]) (hi : ops[i]? = some oi) (hj : ops[j]? = some oj)
 (h1 : ∀ K' : Act → World → Prop, Shut (∀ a w, S w → (S w → wpAnyN P md ops Q S n fuel (listed.setIfInBounds i true) a w) → K' a w) → if Region.wanted oi (yielded ops a.tmps) = true then Oper.wp P oi a w K' Q else K' (a.put oi.dst undef) w)
 (h2 : ∀ K' : Act → World → Prop, Shut (∀ a w, S w → (S w → wpAnyN P md ops Q S n fuel (listed.setIfInBounds j true) a w) → K' a w) → if Region.wanted oj (yielded ops a.tmps) = true then Oper.wp P oj a w K' Q else K' (a.put oj.dst undef) w) : wpAnyN P md ops Q S n (fuel + 1) listed a w :=
 ⟨fun h0 => absurd (hr ▸ h0) (by simp), fun x hx => by
  rw [hr] at hx
  rcases List.mem_cons.1 hx with rfl | hx
  · exact wpOp_step hi (fun K' hK => h1 K' (fun a w hS hW => hK a w ⟨fun _ => hS, hW hS⟩))
  · obtain rfl := List.mem_singleton.1 hx
    exact wpOp_step hj (fun K' hK => h2 K' (fun a w hS hW => hK a w ⟨fun _ => hS, hW hS⟩))⟩
def putAll (a : Act) (l : List (Nat × Value)) : Act := l.foldl (fun a x => a.put (some x.1) x.2) a
def JoinQ (R : Act → World → Prop) : Exit → Act → World → Prop
 | .normal, a, w => R a w
 | _, _, _ => False
/-- The ways through a region meet: what is told of the slots and of memory behind it is told once. -/
theorem region_join {σ : Type} (puts : σ → List (Nat × Value)) (F : σ → World → Prop) {id : Nat} {b : Bool} {a : Act} {w : World}
 (h1 : (Code.region id ops b).wp P (JoinQ (fun a' w' => ∃ s, a' = putAll a (puts s) ∧ F s w')) a w) (h2 : ∀ s w', F s w' → Q .normal (putAll a (puts s)) w') : (Code.region id ops b).wp P Q a w :=
 Code.wp_mono (fun e a' w' h => by
  cases e <;> first | (obtain ⟨s, rfl, hF⟩ := h; exact h2 s w' hF) | exact (h : False).elim) h1
/-- A block just made, under a name. -/
theorem alloc_named {R : Nat → World → Prop} {W : World} {cs : Array Value} {t : Nat} (h : ∀ g w', (g = W.heap.size ∧ W.heap.size ≤ g) → w'.heap[g]? = some (.cells cs t (0, 0)) → Below W.heap.size W w' → R g w') : R W.heap.size (W.alloc (.cells cs t)) :=
 h _ _ ⟨rfl, Nat.le_refl _⟩ (blk_new W (.cells cs t)) (below_alloc (Below.refl W.heap.size W) (.cells cs t))
end
/-- A row of rows whose elements are told apart, as append's source: its elements with the blocks that are theirs. -/
theorem S_reads_M {α : Type} {d : Kd α} {e base : Nat} {ok : Nat → Prop} {w : World} {v : Value} {xs : List α} (h : Kd.S d e w base ok v xs) : ∃ f A c, v = .slice A xs.length c ∧ xs.length ≤ c ∧ ReadsRow ((Kd.tag f d).M w base (fun k => ok k ∧ some k ≠ v.ownBlock)) d.sz w A xs.length xs.zipIdx := by
 obtain ⟨f, h0, ho⟩ := h
 obtain ⟨A, c, he, hl, hr⟩ := OwnRow.reads ho
 rw [List.length_zipIdx] at he hl hr
 exact ⟨f, A, c, he, hl, hr⟩
theorem R_empty_any {α β : Type} {d : Kd α} {d' : Kd β} {e base : Nat} {ok : Nat → Prop} {w : World} {v : Value} (hs : d.sz = d'.sz) (h : d.R e w base ok v []) : d'.R e w base ok v [] := by
 obtain ⟨h0, inner, ho, hr⟩ := h
 refine ⟨h0, inner, ?_, ?_, fun j p hp => by simp at hp⟩
 · rw [← hs]; exact ho
 · have := hr.1; simpa using this
section
variable {P : Program} {ops : Array Oper} {o : Oper} {a : Act} {Q : Exit → Act → World → Prop} {Kc : Act → World → Prop} {α : Type}
/-- append(v0, vs...): v0 empty, vs a row of rows that is given up. -/
theorem S_copy_step (d : Kd α) {w0 W : World} (base : Nat) (hw : Region.wanted o (yielded ops a.tmps) = true) (s x : Operand) (t e : TypeId) (z : Value) (bytes : Nat)
 (ho : o.op = .call { callee := .builtin .append, args := #[s, x], argTypes := #[t, t] })
 (ht : P.underlying t = some (.slice e)) (hinfo : (P.info? e).map (fun i => (i.zero, i.size, i.bytes)) = some (some z, d.sz, bytes)) (hz : z.cells.size = d.sz) (hs0 : 0 < d.sz) (hb0 : 0 < bytes)
 (v0 vs : Value) (xs : List α) (ok oks : Nat → Prop) (hs : a.eval s = v0) (hx : a.eval x = vs) (H0 : Kd.R d e W base ok v0 []) (HS : Kd.S d e W base oks vs xs) (hok : ∀ k, oks k → ok k ∧ some k ≠ v0.ownBlock) (hfresh : ∀ k, W.heap.size ≤ k → ok k)
 (HB : Below base w0 W) (hbase : base ≤ W.heap.size) (hl : xs.length * bytes ≤ 140737488355328)
 (h : ∀ v1 w1, Kd.S d e w1 base ok v1 xs → Below base w0 w1 → W.grownBy w1 v0.ownBlock → (v1.ownBlock = v0.ownBlock ∨ ∃ b, v1.ownBlock = some b ∧ W.heap.size ≤ b) → Kc (a.put o.dst v1) w1) :
 if Region.wanted o (yielded ops a.tmps) = true then Oper.wp P o a W Kc Q else Kc (a.put o.dst undef) W := by
 obtain ⟨f, A, c, hv, hc, hr⟩ := S_reads_M HS
 refine Kd.R_append_rows_step (Kd.tag f d) base hw s x t e z bytes ho ht hinfo hz hs0 hb0 v0 [] xs.zipIdx A xs.length c ok (fun k => oks k ∧ some k ≠ vs.ownBlock) hs (hx.trans hv) (R_empty_any (d := d) (d' := Kd.tag f d) rfl H0) hr (fun _ _ h => h) (fun k hk => hok k hk.1) hfresh HB hbase (by simpa using hl) ?_
 intro v1 w1 hr1
 exact h v1 w1 ⟨f, hr1⟩
/-- append(v, x): x's cells lie in a block g1. -/
theorem S_append_at (d : Kd α) {w0 W : World} (base : Nat) (hw : Region.wanted o (yielded ops a.tmps) = true) (s x : Operand) (t e : TypeId) (z : Value) (bytes : Nat)
 (ho : o.op = .call { callee := .builtin .append, args := #[s, x], argTypes := #[t, t] })
 (ht : P.underlying t = some (.slice e)) (hinfo : (P.info? e).map (fun i => (i.zero, i.size, i.bytes)) = some (some z, d.sz, bytes)) (hz : z.cells.size = d.sz) (hs0 : 0 < d.sz) (hb0 : 0 < bytes)
 (v : Value) (xs : List α) (p : α) (cs : List Value) (g1 c1 : Nat) (ok okp : Nat → Prop) (hs : a.eval s = v) (hx : a.eval x = .slice (some ⟨g1, 0, none⟩) 1 c1) (hblk : W.heap[g1]? = some (.cells cs.toArray e (0, 0))) (hlen : cs.length = d.sz) (hp : d.M W base okp p cs) (hokp : ∀ k, okp k → ok k ∧ some k ≠ v.ownBlock) (hfresh : ∀ k, W.heap.size ≤ k → ok k)
 (HO : Kd.S d e W base (fun k => ok k ∧ ¬ okp k) v xs) (HB : Below base w0 W) (hbase : base ≤ W.heap.size) (hl : (xs.length + 1) * bytes ≤ 140737488355328)
 (h : ∀ v1 w1, Kd.S d e w1 base ok v1 (xs ++ [p]) → Below base w0 w1 → W.grownBy w1 v.ownBlock → (v1.ownBlock = v.ownBlock ∨ ∃ b, v1.ownBlock = some b ∧ W.heap.size ≤ b) → Kc (a.put o.dst v1) w1) :
 if Region.wanted o (yielded ops a.tmps) = true then Oper.wp P o a W Kc Q else Kc (a.put o.dst undef) W := by
 obtain ⟨f, hf, hR⟩ := Kd.S_tag HO xs.length okp (fun _ hk h2 => h2.2 hk)
 refine Kd.R_append_rows_step (Kd.tag f d) (Rr := fun q c => q = (p, xs.length) ∧ c = cs) base hw s x t e z bytes ho ht hinfo hz hs0 hb0 v xs.zipIdx [(p, xs.length)] _ 1 c1 ok okp hs hx (Kd.R_mono hR (fun _ hk => hk.1)) ⟨rfl, by decide, fun _ => ⟨_, rfl, ?_⟩⟩ ?_ hokp hfresh HB hbase (by rw [List.length_zipIdx]; exact hl) ?_
 · intro j q hq
   cases j with
   | succ j => simp at hq
   | zero =>
    refine ⟨cs, hlen, ⟨by simpa using hq.symm, rfl⟩, fun i u hu => ?_⟩
    have h0 : (⟨g1, 0, none⟩ : Addr).add (0 * (Kd.tag f d).sz + i) = ⟨g1, i, none⟩ := by simp [Addr.add]; exact fun e_ => e_.symm
    rw [h0]
    exact (blk_cell hblk i).trans (by simpa using hu)
 · rintro q c ⟨rfl, rfl⟩
   exact d.M_mono (fun k hk => ⟨hk, hf k hk⟩) hp
 · intro v1 w1 hr
   rw [← Kd.zip_snoc] at hr
   exact h v1 w1 ⟨f, hr⟩
end
def spec_l6Add.f (l0_0 : List S45) (a1_0 : Int) (a1_1 : ByteArray) (l1_2 : List S98) (a1_3 : ByteArray) (a1_4 : Int) (l1_5 : List Int) : Option ((List S45) × Int) := if l1_2.length < 4398046511104 then (if l0_0.length < 1000000 then some (l0_0 ++ [⟨a1_0, a1_1, l1_2, a1_3, -1, []⟩], (l0_0.length : Int)) else none) else none
/-- The variables of l6Add (tree, node, result), the rows that they hold; what is new stands from n5 on. -/
structure AddW (w0 w W : World) (P_ : Nat → Prop) (n5 gt gb gr : Nat) (A0 : Option Addr) (c0 : Nat) (xs : List S45) (a0 : Int) (a1 : ByteArray) (A9 : Option Addr) (c9 : Nat) (a2 : List S98) (a3 : ByteArray) : Prop where
 bt : W.heap[gt]? = some (.cells #[.slice A0 xs.length c0] 29 (0, 0))
 bb : W.heap[gb]? = some (.cells #[.int .i64 a0, .string a1, .slice A9 a2.length c9, .string a3, .int .i64 (-1), .slice none 0 0] 45 (0, 0))
 br : W.heap[gr]? = some (.cells #[.slice none 0 0] 29 (0, 0))
 s : Kd.S k45 45 W w0.heap.size (fun k => P_ k ∧ k < w.heap.size) (.slice A0 xs.length c0) xs
 r2 : Kd.R k98 98 W w0.heap.size (fun k => w.heap.size ≤ k ∧ k < n5 ∧ k ≠ gt ∧ k ≠ gb ∧ k ≠ gr) (.slice A9 a2.length c9) a2
 low : Below w.heap.size w W
 base : w0.heap.size ≤ W.heap.size
 ge5 : w.heap.size ≤ n5
 gt_ : w.heap.size ≤ gt
 ge : w.heap.size ≤ gb ∧ w.heap.size ≤ gr
 lt : gt < n5 ∧ gb < n5 ∧ gr < n5
 ne : gr ≠ gt
theorem set_size (W : World) (p : Addr) (u : Value) : W.heap.size ≤ (W.setCell p u).heap.size := (Kept.setCell (Kept.refl W (fun _ => True)) (.inl trivial) u).1
theorem empty_row {α : Type} (d : Kd α) (e : Nat) (W : World) (base : Nat) (ok : Nat → Prop) (hb : base ≤ W.heap.size) (hok : ok W.heap.size) : d.R e (W.alloc (.cells #[] e)) base ok (.slice (some ⟨W.heap.size, 0, none⟩) 0 0) [] :=
 ⟨fun k hk => by simp only [Value.ownBlock, Option.some.injEq] at hk; subst hk; exact hok, OwnRow.lit W base (inner := []) (Reps.none _ _) hb (by simp)⟩
section
variable {w0 w W W2 : World} {P_ : Nat → Prop} {n5 gt gb gr c0 c9 : Nat} {A0 A9 : Option Addr} {xs : List S45} {a0 : Int} {a1 a3 : ByteArray} {a2 : List S98}
theorem AddW.below (h : AddW w0 w W P_ n5 gt gb gr A0 c0 xs a0 a1 A9 c9 a2 a3) (hb : Below W.heap.size W W2) : AddW w0 w W2 P_ n5 gt gb gr A0 c0 xs a0 a1 A9 c9 a2 a3 :=
 ⟨blk_below h.bt hb, blk_below h.bb hb, blk_below h.br hb, Kd.S_below h.s hb, Kd.R_below h.r2 hb, below_step h.low hb, Nat.le_trans h.base hb.size, h.ge5, h.gt_, h.ge, h.lt, h.ne⟩
theorem AddW.grown (h : AddW w0 w W P_ n5 gt gb gr A0 c0 xs a0 a1 A9 c9 a2 a3) {row : Option Nat} (hlow : Below w0.heap.size w0 W2) (hg : W.grownBy W2 row) (hr : ∀ k, row = some k → n5 ≤ k) : AddW w0 w W2 P_ n5 gt gb gr A0 c0 xs a0 a1 A9 c9 a2 a3 :=
 ⟨blk_grown h.bt hg (fun e => by have := hr _ e.symm; have := h.lt; omega), blk_grown h.bb hg (fun e => by have := hr _ e.symm; have := h.lt; omega), blk_grown h.br hg (fun e => by have := hr _ e.symm; have := h.lt; omega), Kd.S_grown h.s hg (fun k hk e => by have := hr _ e.symm; have := h.ge5; omega), Kd.R_grown h.r2 hg (fun k hk e => by have := hr _ e.symm; omega), pw_below_grown h.low row h.low.size hg (fun k e => Nat.le_trans h.ge5 (hr k e)), hlow.size, h.ge5, h.gt_, h.ge, h.lt, h.ne⟩
theorem AddW.far (h : AddW w0 w W P_ n5 gt gb gr A0 c0 xs a0 a1 A9 c9 a2 a3) {k : Nat} (hk : n5 ≤ k) : w.heap.size ≤ k ∧ k ≠ gt ∧ k ≠ gb ∧ k ≠ gr := by have := h.ge5; have := h.lt; omega
theorem AddW.held (h : AddW w0 w W P_ n5 gt gb gr A0 c0 xs a0 a1 A9 c9 a2 a3) : W.cell? ⟨gt, 0, none⟩ = some (.slice A0 xs.length c0) ∧ W.cell? ⟨gb, 0, none⟩ = some (.int .i64 a0) ∧ W.cell? ⟨gb, 1, none⟩ = some (.string a1) ∧ W.cell? ⟨gb, 2, none⟩ = some (.slice A9 a2.length c9) ∧ W.cell? ⟨gb, 3, none⟩ = some (.string a3) ∧ W.cell? ⟨gb, 4, none⟩ = some (.int .i64 (-1)) ∧ W.cell? ⟨gb, 5, none⟩ = some (.slice none 0 0) :=
 ⟨(blk_cell h.bt 0).trans rfl, (blk_cell h.bb 0).trans rfl, (blk_cell h.bb 1).trans rfl, (blk_cell h.bb 2).trans rfl, (blk_cell h.bb 3).trans rfl, (blk_cell h.bb 4).trans rfl, (blk_cell h.bb 5).trans rfl⟩
end
set_option maxHeartbeats 16000000 in
set_option maxRecDepth 100000 in
theorem spec_l6Add.calls (P_ : Nat → Prop) (A0 : Option Addr) (c0 : Nat) (xs : List S45) (a0 : Int) (a1 : ByteArray) (A2 : Option Addr) (c2 : Nat) (a2 : List S98) (a3 : ByteArray) (a4 : Int) (u5 : Value) (a5 : List Int) (r1 : List S45) (r2 : Int) (w0 w : World) (hB : Below w0.heap.size w0 w) (hS : Kd.S k45 45 w w0.heap.size P_ (.slice A0 xs.length c0) xs) (h2 : Kd.C k98 w A2 a2.length a2) (hc2 : a2.length ≤ c2) (h5 : u5.cells.toList = [u5] ∧ u5.oneCell' = true) (h : spec_l6Add.f xs a0 a1 a2 a3 a4 a5 = some (r1, r2)) :
 Calls Try.prog 53 #[.agg #[.slice A0 xs.length c0], .agg #[.int .i64 a0, .string a1, .slice A2 a2.length c2, .string a3, .int .i64 a4, u5]] w fun e w' => ∃ v_ : Value, e = .returned (.tuple #[.agg #[v_], .int .i64 r2]) ∧ Kd.S k45 45 w' w0.heap.size (fun k_ => P_ k_ ∨ w.heap.size ≤ k_) v_ r1 ∧ Below w.heap.size w w' := by
 unfold spec_l6Add.f at h
 by_cases l2 : a2.length < 4398046511104
 · rw [if_pos l2] at h
   by_cases l1 : xs.length < 1000000
   · rw [if_pos l1] at h
     injection h with h
     injection h with e1 e2
     subst e1 e2
     have HL1 := Aside0.mk l1
     have HL2 := Aside0.mk l2
     have HB := Aside0.mk hB
     have HS := Aside0.mk hS
     have HC2 := Aside0.mk h2
     have HCC2 := Aside0.mk hc2
     clear hB hS h2 hc2 l1 l2
     go_enter Try.func53, Try.ntmps53
     go_upto_region 1 with (first | ((with_reducible refine gate_dst (N := 2) rfl ?_); refine box_event ?hg (N := 2) ?hd (cs := #[.slice A0 xs.length c0]) (t := 29) ?hr ?_; (case hd => rfl); (case hg => rfl); (case hr => first | (go_simp; done) | (go_simp; rfl)); intro gt hg w1 hbox hb; have HT := Aside0.mk hbox; have HL := Aside0.mk hb; have HGT := Aside0.mk hg; clear hbox hb hg) | ((with_reducible refine gate_dst (N := 3) rfl ?_); refine box_event ?hg (N := 3) ?hd (cs := #[.int .i64 a0, .string a1, .slice A2 a2.length c2, .string a3, .int .i64 a4, u5]) (t := 45) ?hr ?_; (case hd => rfl); (case hg => rfl); (case hr => first | (go_simp; done) | (go_simp; rfl)); intro gb hg w2 hbox hb; have HT2 := Aside0.mk (blk_below HT.out hb); have HBB := Aside0.mk hbox; have HLL := Aside0.mk (below_step HL.out hb); have HGB := Aside0.mk (show gt < gb ∧ w.heap.size ≤ gb from ⟨by rw [hg]; exact blk_lt HT.out, by rw [hg]; exact HL.out.size⟩); clear hbox hb hg) | ((with_reducible refine gate_dst (N := 4) rfl ?_); refine box_event ?hg (N := 4) ?hd (cs := #[.slice none 0 0]) (t := 29) ?hr ?_; (case hd => rfl); (case hg => rfl); (case hr => first | (go_simp; done) | (go_simp; rfl)); intro gr hg w3 hbox hb; have HT3 := Aside0.mk (blk_below HT2.out hb); have HBB3 := Aside0.mk (blk_below HBB.out hb); have HRR := Aside0.mk hbox; have HL3 := Aside0.mk (below_step HLL.out hb); have HGR := Aside0.mk (show gb < gr ∧ w.heap.size ≤ gr from ⟨by rw [hg]; exact blk_lt HBB.out, by rw [hg]; exact HLL.out.size⟩); clear hbox hb hg))
     have hy4 := blk_cell HBB3.out 4
     have hy5 := blk_cell HBB3.out 5
     have hyf := blk_frozen HBB3.out
     go_upto_region 3 with (fail)
     have HB4 := Aside0.mk (blk_set (blk_set HBB3.out 4 (.int .i64 (-1))) 5 (.slice none 0 0))
     have HT4 := Aside0.mk (blk_far (p := ⟨gb, 5, none⟩) (blk_far (p := ⟨gb, 4, none⟩) HT3.out (Nat.ne_of_lt HGB.out.1) (.int .i64 (-1))) (Nat.ne_of_lt HGB.out.1) (.slice none 0 0))
     have HR4 := Aside0.mk (blk_far (p := ⟨gb, 5, none⟩) (blk_far (p := ⟨gb, 4, none⟩) HRR.out (Nat.ne_of_gt HGR.out.1) (.int .i64 (-1))) (Nat.ne_of_gt HGR.out.1) (.slice none 0 0))
     have HL4 := Aside0.mk (below_set (j := 5) (v := .slice none 0 0) (below_set (j := 4) (v := .int .i64 (-1)) HL3.out HGB.out.2) HGB.out.2)
     clear hy4 hy5 hyf
     generalize (w3.setCell ⟨gb, 4, none⟩ (.int .i64 (-1))).setCell ⟨gb, 5, none⟩ (.slice none 0 0) = w4 at HB4 HT4 HR4 HL4 ⊢
     clear HT HT2 HT3 HBB HBB3 HRR HL HLL HL3
     have HS4 := Aside0.mk (Kd.S_below (Kd.S_mono (Kd.S_bound HS.out) (ok' := fun k_ => P_ k_ ∧ k_ < w.heap.size) (fun k_ hk => ⟨hk.1, hk.2.2.1⟩)) HL4.out)
     have HGT' := Aside0.mk (show w.heap.size ≤ gt by rw [HGT.out]; exact Nat.le_refl _)
     have hy2 := blk_cell HB4.out 2
     have hyf := blk_frozen HB4.out
     go_upto_region 4 with (first | ((with_reducible refine gate_dst (N := 8) rfl ?_); refine Kd.R_lit (w0 := w0) k98 w0.heap.size 98 ?hg (N := 8) ?hd (xs := ([] : List S98)) (inner := []) (ok := fun k_ => w.heap.size ≤ k_ ∧ k_ ≠ gt ∧ k_ ≠ gb ∧ k_ ≠ gr) (okp := fun _ => False) ?hr ?hp (fun _ hk => hk.elim) (by have := blk_lt HT4.out; have := blk_lt HB4.out; have := blk_lt HR4.out; have := HL4.out.size; omega) (below_step HB.out HL4.out) (below_step HB.out HL4.out).size (by simp) ?_; (case hd => rfl); (case hg => rfl); (case hr => first | (go_simp; done) | (go_simp; rfl)); (case hp => exact (Reps.none _ _)); intro v2l wa ho hb hg hnew_; have HR2 := Aside0.mk ho; have HLa := Aside0.mk hb; have HGa := Aside0.mk hg; have HBa := Aside0.mk (blk_grown HB4.out hg (by simp)); have hy2a := blk_cell HBa.out 2; clear ho hb hg hnew_) | ((with_reducible refine gate_builtin (b := .append) (xs := #[.tmp 8, .tmp 10]) rfl ?_); at_builtin; refine Kd.R_append_rows k98 (w0 := w0) w0.heap.size rfl (.tmp 8) (.tmp 10) 43 98 (.agg #[(.string ⟨#[]⟩), (.string ⟨#[]⟩)]) 32 rfl Try.underlying43 info98 rfl (by decide) (by omega) v2l [] a2 _ _ _ (fun k_ => w.heap.size ≤ k_ ∧ k_ ≠ gt ∧ k_ ≠ gb ∧ k_ ≠ gr) (fun _ => False) rfl rfl HR2.out (Kd.C_below HC2.out (pw_below_grown HL4.out none HL4.out.size HGa.out (by simp))) (fun _ _ h => h) (fun _ h => h.elim) (fun k_ hk => by have := HGa.out.size; have := blk_lt HT4.out; have := blk_lt HB4.out; have := blk_lt HR4.out; have := HL4.out.size; omega) HLa.out HLa.out.size (by have := HL2.out; simp only [List.length_nil]; omega) ?_; intro v2n w5 ho8 hb8 hg8 hat; rw [List.nil_append] at ho8; obtain ⟨A9, c9, rfl⟩ := Kd.R_slice ho8; have HA5 := Aside0.mk ho8; have HB5 := Aside0.mk (blk_grown HBa.out hg8 (Kd.R_ne HR2.out HBa.out (by decide))); have HT5 := Aside0.mk (blk_grown (blk_grown HT4.out HGa.out (by simp)) hg8 (Kd.R_ne HR2.out (blk_grown HT4.out HGa.out (by simp)) (by decide))); have HR5 := Aside0.mk (blk_grown (blk_grown HR4.out HGa.out (by simp)) hg8 (Kd.R_ne HR2.out (blk_grown HR4.out HGa.out (by simp)) (by decide))); have HS5 := Aside0.mk (Kd.S_grown (Kd.S_grown HS4.out HGa.out (by simp)) hg8 (fun k_ hk e_ => by have := (HR2.out.1 k_ e_.symm).1; omega)); have HL5 := Aside0.mk (pw_below_grown (pw_below_grown HL4.out none HL4.out.size HGa.out (by simp)) _ (Nat.le_trans HL4.out.size HGa.out.size) hg8 (fun k_ e_ => (HR2.out.1 k_ e_).1)); have hy2b := blk_cell HB5.out 2; have hyfb := blk_frozen HB5.out; clear ho8 hb8 hg8 hat))
     have HB6 := Aside0.mk (blk_set HB5.out 2 (.slice A9 a2.length c9))
     have HT6 := Aside0.mk (blk_far (p := ⟨gb, 2, none⟩) HT5.out (Nat.ne_of_lt HGB.out.1) (.slice A9 a2.length c9))
     have HR6 := Aside0.mk (blk_far (p := ⟨gb, 2, none⟩) HR5.out (Nat.ne_of_gt HGR.out.1) (.slice A9 a2.length c9))
     have HW := Aside0.mk (show AddW w0 w (w5.setCell ⟨gb, 2, none⟩ (.slice A9 a2.length c9)) P_ w5.heap.size gt gb gr A0 c0 xs a0 a1 A9 c9 a2 a3 from ⟨HT6.out, HB6.out, HR6.out, Kd.S_far (p := ⟨gb, 2, none⟩) HS5.out (fun k_ hk => by have := HGB.out.2; show k_ ≠ gb; omega) _, Kd.R_far (p := ⟨gb, 2, none⟩) (Kd.R_mono (Kd.R_bound HA5.out) (fun k_ hk => ⟨hk.1.1, hk.2.2.1, hk.1.2⟩)) (fun k_ hk => hk.2.2.2.1) _, below_set HL5.out HGB.out.2, Nat.le_trans HB.out.size (Nat.le_trans HL5.out.size (set_size w5 _ _)), HL5.out.size, HGT'.out, ⟨HGB.out.2, HGR.out.2⟩, ⟨blk_lt HT5.out, blk_lt HB5.out, blk_lt HR5.out⟩, Nat.ne_of_gt (Nat.lt_trans HGB.out.1 HGR.out.1)⟩)
     have HN := Aside0.mk (show w5.heap.size ≤ (w5.setCell ⟨gb, 2, none⟩ (.slice A9 a2.length c9)).heap.size from set_size w5 _ _)
     clear hy2 hyf hy2b HB6 HT6 HR6 HB5 HT5 HR5 HS5 HA5 HL5 HB4 HT4 HR4 HL4 HS4 HR2 HS HGB HGR HGT HGT'
     generalize w5.setCell ⟨gb, 2, none⟩ (.slice A9 a2.length c9) = W5 at HW HN ⊢
     generalize w5.heap.size = n5 at HW HN ⊢
     have HWD := Aside0.mk (show AddW w0 w W5.drew P_ n5 gt gb gr A0 c0 xs a0 a1 A9 c9 a2 a3 from HW.out.below (pw_below_drewN (Below.refl _ _) 1))
     have HND := Aside0.mk (show n5 ≤ W5.drew.heap.size from HN.out)
     clear HW HN
     have HW := HWD
     have HN := HND
     clear HWD HND
     refine region_join (σ := Value × Value × Nat × Nat) (fun s_ => [(13, .slice (some ⟨s_.2.2.1, 0, none⟩) 0 0), (14, .pointer (some ⟨gt, 0, none⟩)), (15, .slice A0 xs.length c0), (16, s_.1), (17, .agg #[.int .i64 a0, .string a1, .slice A9 a2.length c9, .string a3, .int .i64 (-1), .slice none 0 0]), (18, .slice (some ⟨s_.2.2.2, 0, none⟩) 1 1), (19, s_.2.1), (20, .pointer (some ⟨gt, 0, none⟩))]) (fun s_ w' => w'.heap[gt]? = some (.cells #[s_.2.1] 29 (0, 0)) ∧ w'.heap[gr]? = some (.cells #[.slice none 0 0] 29 (0, 0)) ∧ Kd.S k45 45 w' w0.heap.size (fun k_ => (P_ k_ ∧ k_ < w.heap.size) ∨ (w.heap.size ≤ k_ ∧ k_ ≠ gt ∧ k_ ≠ gb ∧ k_ ≠ gr)) s_.2.1 (xs ++ [⟨a0, a1, a2, a3, -1, []⟩]) ∧ Below w.heap.size w w') ?_ ?_
     · skip
       refine wp_region_N (n := 8) (S := (fun w' => w'.cell? ⟨gt, 0, none⟩ = some (.slice A0 xs.length c0) ∧ w'.cell? ⟨gb, 0, none⟩ = some (.int .i64 a0) ∧ w'.cell? ⟨gb, 1, none⟩ = some (.string a1) ∧ w'.cell? ⟨gb, 2, none⟩ = some (.slice A9 a2.length c9) ∧ w'.cell? ⟨gb, 3, none⟩ = some (.string a3) ∧ w'.cell? ⟨gb, 4, none⟩ = some (.int .i64 (-1)) ∧ w'.cell? ⟨gb, 5, none⟩ = some (.slice none 0 0))) (by kernel_rfl) (AddW.held HW.out) (fun hHeld => ?_)
       generalize W5.drew = WD at HW HN hHeld ⊢
       refine wpAnyN_take (i := 1) (v := ?v101) rfl (by kernel_rfl) (by kernel_rfl) (by kernel_rfl) (by kernel_rfl) (fun _ _ _ h => h) (Or.inl ⟨by rfl, ?h101⟩) hHeld ?r101
       case h101 => (intro w_ hSw; (try dsimp only at hSw); go_simp; (try with_reducible rfl))
       refine wpAnyN_take (i := 2) (v := ?v202) rfl (by kernel_rfl) (by kernel_rfl) (by kernel_rfl) (by kernel_rfl) (fun _ _ _ h => h) (Or.inl ⟨by rfl, ?h202⟩) hHeld ?r202
       case h202 => (intro w_ hSw; (try dsimp only at hSw); go_simp; (try with_reducible rfl))
       refine wpAnyN_take (i := 4) (v := ?v304) rfl (by kernel_rfl) (by kernel_rfl) (by kernel_rfl) (by kernel_rfl) (fun _ _ _ h => h) (Or.inl ⟨by rfl, ?h304⟩) hHeld ?r304
       case h304 => (intro w_ hSw; (try dsimp only at hSw); go_simp; (try with_reducible rfl))
       refine wpAnyN_two (i := 0) (j := 5) (by kernel_rfl) rfl rfl (fun K hK => ?_) (fun K hK => ?_)
       · skip
         go_simp
         refine hK.out _ _ ?_ (fun hH0 => ?_)
         · (try dsimp only); exact AddW.held (HW.out.below (below_alloc (Below.refl _ _) _))
         clear hK K
         have hX := blk_new WD (.cells #[] 45)
         have hb := below_alloc (Below.refl (WD).heap.size WD) (.cells #[] 45)
         have hE := empty_row k45 45 WD w0.heap.size (fun k_ => (P_ k_ ∧ k_ < w.heap.size) ∨ n5 ≤ k_) HW.out.base (.inr HN.out)
         generalize World.alloc WD (.cells #[] 45) = wz0 at hX hb hE ⊢
         obtain ⟨g0, hg⟩ : ∃ g_, g_ = (WD).heap.size := ⟨_, rfl⟩
         rw [← hg] at hX hE ⊢
         replace HW := Aside0.mk (HW.out.below hb)
         have HN0 := Aside0.mk (show n5 ≤ g0 by rw [hg]; exact HN.out)
         replace HN := Aside0.mk (Nat.le_trans HN.out hb.size)
         have HE := Aside0.mk hE
         have HE0 := HE
         clear hX hb hg hE
         refine wpAnyN_two (i := 3) (j := 5) (by kernel_rfl) rfl rfl (fun K hK => ?_) (fun K hK => ?_)
         · skip
           refine S_copy_step (w0 := w0) k45 w0.heap.size (by rfl) (.tmp 13) (.tmp 15) 27 45 (.agg #[(.int .i64 0), (.string ⟨#[]⟩), (.slice none 0 0), (.string ⟨#[]⟩), (.int .i64 0), (.slice none 0 0)]) 96 rfl Try.underlying27 info45 rfl (by decide) (by omega) (.slice (some ⟨g0, 0, none⟩) 0 0) (.slice A0 xs.length c0) xs (fun k_ => (P_ k_ ∧ k_ < w.heap.size) ∨ n5 ≤ k_) (fun k_ => P_ k_ ∧ k_ < w.heap.size) rfl rfl HE.out HW.out.s (fun k_ hk => ⟨.inl hk, fun e_ => by have h3 : k_ = g0 := Option.some.inj e_; have := HN0.out; have := HW.out.ge5; omega⟩) (fun k_ hk => .inr (Nat.le_trans HN.out hk)) (below_step HB.out HW.out.low) HW.out.base (by have := HL1.out; omega) ?_
           intro v1 wc hS hlow hg hat
           have hb1 : ∀ k_, v1.ownBlock = some k_ → n5 ≤ k_ := fun k_ e_ => hat.elim (fun h_ => by have h3 : g0 = k_ := Option.some.inj (h_.symm.trans e_); rw [← h3]; exact HN0.out) (fun ⟨b_, h_, h2⟩ => by have h3 : b_ = k_ := Option.some.inj (h_.symm.trans e_); rw [← h3]; exact Nat.le_trans HN.out h2)
           replace HW := Aside0.mk (HW.out.grown hlow hg (fun k_ e_ => by have h3 : g0 = k_ := Option.some.inj e_; rw [← h3]; exact HN0.out))
           replace HN := Aside0.mk (Nat.le_trans HN.out hg.size)
           have HR := Aside0.mk hS
           have HB1 := Aside0.mk hb1
           clear hS hlow hg hat hb1
           refine hK.out _ _ ?_ (fun hH1 => ?_)
           · (try dsimp only); exact AddW.held HW.out
           clear hK K
           refine wpAnyN_one (i := 5) (by kernel_rfl) rfl (fun K hK => ?_)
           go_simp
           refine hK.out _ _ ?_ (fun hH2 => ?_)
           · (try dsimp only); exact AddW.held (HW.out.below (below_alloc (Below.refl _ _) _))
           clear hK K
           have hX := blk_new wc (.cells #[.int .i64 a0, .string a1, .slice A9 a2.length c9, .string a3, .int .i64 (-1), .slice none 0 0] 45)
           have hb := below_alloc (Below.refl (wc).heap.size wc) (.cells #[.int .i64 a0, .string a1, .slice A9 a2.length c9, .string a3, .int .i64 (-1), .slice none 0 0] 45)
           generalize World.alloc wc (.cells #[.int .i64 a0, .string a1, .slice A9 a2.length c9, .string a3, .int .i64 (-1), .slice none 0 0] 45) = wz1 at hX hb ⊢
           obtain ⟨g1, hg⟩ : ∃ g_, g_ = (wc).heap.size := ⟨_, rfl⟩
           rw [← hg] at hX ⊢
           replace HW := Aside0.mk (HW.out.below hb)
           have HN1 := Aside0.mk (show n5 ≤ g1 by rw [hg]; exact HN.out)
           replace HN := Aside0.mk (Nat.le_trans HN.out hb.size)
           replace HR := Aside0.mk (Kd.S_below HR.out hb)
           have HG1 := Aside0.mk hX
           have HLT1 := Aside0.mk (show g1 < (wz1).heap.size from blk_lt hX)
           clear hX hb hg
           refine wpAnyN_one (i := 6) (by kernel_rfl) rfl (fun K hK => ?_)
           refine S_append_at (w0 := w0) k45 w0.heap.size (by rfl) (.tmp 16) (.tmp 18) 27 45 (.agg #[(.int .i64 0), (.string ⟨#[]⟩), (.slice none 0 0), (.string ⟨#[]⟩), (.int .i64 0), (.slice none 0 0)]) 96 rfl Try.underlying27 info45 rfl (by decide) (by omega) v1 xs ⟨a0, a1, a2, a3, -1, []⟩ [.int .i64 a0, .string a1, .slice A9 a2.length c9, .string a3, .int .i64 (-1), .slice none 0 0] g1 1 (fun k_ => (P_ k_ ∧ k_ < w.heap.size) ∨ (w.heap.size ≤ k_ ∧ k_ ≠ gt ∧ k_ ≠ gb ∧ k_ ≠ gr)) (fun k_ => w.heap.size ≤ k_ ∧ k_ < n5 ∧ k_ ≠ gt ∧ k_ ≠ gb ∧ k_ ≠ gr) rfl rfl HG1.out rfl (k45_mkM _ _ _ ⟨a0, a1, a2, a3, -1, []⟩ HW.out.r2 (Kd.R_nil _ _ _ _ _)) (fun k_ hk => ⟨.inr ⟨hk.1, hk.2.2⟩, fun e_ => by have := HB1.out k_ e_.symm; omega⟩) (fun k_ hk => .inr (HW.out.far (Nat.le_trans HN.out hk))) (Kd.S_mono HR.out (fun k_ hk => hk.elim (fun hk => ⟨.inl hk, fun h_ => by omega⟩) (fun hk => ⟨.inr (HW.out.far hk), fun h_ => by omega⟩))) (below_step HB.out HW.out.low) HW.out.base (by have := HL1.out; omega) ?_
           intro v2 wd hS hlow hg hat
           obtain ⟨Ay, cy, ev_⟩ := Kd.S_slice hS
           rw [List.length_append, List.length_singleton] at ev_
           subst ev_
           replace HW := Aside0.mk (HW.out.grown hlow hg (fun k_ e_ => HB1.out k_ e_))
           have HR2 := Aside0.mk hS
           clear hS hlow hg hat HR
           refine hK.out _ _ ?_ (fun hH3 => ?_)
           · (try dsimp only); exact AddW.held HW.out
           clear hK K
           refine wpAnyN_one (i := 7) (by kernel_rfl) rfl (fun K hK => ?_)
           go_simp
           refine hK.out _ _ ?_ (fun hH7 => ?_)
           · (try dsimp only); exact hH3
           clear hK K
           have ht0 := blk_cell HW.out.bt 0
           have htf := blk_frozen HW.out.bt
           refine wpAnyN_last (by kernel_rfl) (by kernel_rfl) rfl (fun K hK => ?_)
           go_simp
           refine hK.out _ _ ?_
           clear hK K
           exact ⟨⟨v1, _, g0, g1⟩, by simp only [putAll, List.foldl_cons, List.foldl_nil, Act.put, List.setIfInBounds_toArray, List.set_cons_zero, List.set_cons_succ], blk_set HW.out.bt 0 _, blk_far (p := ⟨gt, 0, none⟩) HW.out.br HW.out.ne _, Kd.S_mono (Kd.S_far (p := ⟨gt, 0, none⟩) (Kd.S_types HR2.out HW.out.bt (by decide)) (fun _ h_ => h_.2) _) (fun _ h_ => h_.1), below_set HW.out.low HW.out.gt_⟩
         · skip
           go_simp
           refine hK.out _ _ ?_ (fun hH4 => ?_)
           · (try dsimp only); exact AddW.held (HW.out.below (below_alloc (Below.refl _ _) _))
           clear hK K
           have hX := blk_new wz0 (.cells #[.int .i64 a0, .string a1, .slice A9 a2.length c9, .string a3, .int .i64 (-1), .slice none 0 0] 45)
           have hb := below_alloc (Below.refl (wz0).heap.size wz0) (.cells #[.int .i64 a0, .string a1, .slice A9 a2.length c9, .string a3, .int .i64 (-1), .slice none 0 0] 45)
           generalize World.alloc wz0 (.cells #[.int .i64 a0, .string a1, .slice A9 a2.length c9, .string a3, .int .i64 (-1), .slice none 0 0] 45) = wz1 at hX hb ⊢
           obtain ⟨g1, hg⟩ : ∃ g_, g_ = (wz0).heap.size := ⟨_, rfl⟩
           rw [← hg] at hX ⊢
           replace HW := Aside0.mk (HW.out.below hb)
           have HN1 := Aside0.mk (show n5 ≤ g1 by rw [hg]; exact HN.out)
           replace HN := Aside0.mk (Nat.le_trans HN.out hb.size)
           replace HE := Aside0.mk (Kd.R_below HE.out hb)
           have HNE := Aside0.mk (show g1 ≠ g0 by rw [hg]; exact Nat.ne_of_gt (Kd.R_lt HE0.out g0 rfl))
           have HG1 := Aside0.mk hX
           have HLT1 := Aside0.mk (show g1 < (wz1).heap.size from blk_lt hX)
           clear hX hb hg
           refine wpAnyN_one (i := 3) (by kernel_rfl) rfl (fun K hK => ?_)
           refine S_copy_step (w0 := w0) k45 w0.heap.size (by rfl) (.tmp 13) (.tmp 15) 27 45 (.agg #[(.int .i64 0), (.string ⟨#[]⟩), (.slice none 0 0), (.string ⟨#[]⟩), (.int .i64 0), (.slice none 0 0)]) 96 rfl Try.underlying27 info45 rfl (by decide) (by omega) (.slice (some ⟨g0, 0, none⟩) 0 0) (.slice A0 xs.length c0) xs (fun k_ => (P_ k_ ∧ k_ < w.heap.size) ∨ n5 ≤ k_) (fun k_ => P_ k_ ∧ k_ < w.heap.size) rfl rfl HE.out HW.out.s (fun k_ hk => ⟨.inl hk, fun e_ => by have h3 : k_ = g0 := Option.some.inj e_; have := HN0.out; have := HW.out.ge5; omega⟩) (fun k_ hk => .inr (Nat.le_trans HN.out hk)) (below_step HB.out HW.out.low) HW.out.base (by have := HL1.out; omega) ?_
           intro v1 wc hS hlow hg hat
           have hb1 : ∀ k_, v1.ownBlock = some k_ → n5 ≤ k_ := fun k_ e_ => hat.elim (fun h_ => by have h3 : g0 = k_ := Option.some.inj (h_.symm.trans e_); rw [← h3]; exact HN0.out) (fun ⟨b_, h_, h2⟩ => by have h3 : b_ = k_ := Option.some.inj (h_.symm.trans e_); rw [← h3]; exact Nat.le_trans HN.out h2)
           replace HW := Aside0.mk (HW.out.grown hlow hg (fun k_ e_ => by have h3 : g0 = k_ := Option.some.inj e_; rw [← h3]; exact HN0.out))
           replace HG1 := Aside0.mk (blk_grown HG1.out hg (fun e_ => HNE.out (Option.some.inj e_)))
           replace HN := Aside0.mk (Nat.le_trans HN.out hg.size)
           have HR := Aside0.mk hS
           have HB1 := Aside0.mk hb1
           clear hS hlow hg hat hb1
           refine hK.out _ _ ?_ (fun hH5 => ?_)
           · (try dsimp only); exact AddW.held HW.out
           clear hK K
           refine wpAnyN_one (i := 6) (by kernel_rfl) rfl (fun K hK => ?_)
           refine S_append_at (w0 := w0) k45 w0.heap.size (by rfl) (.tmp 16) (.tmp 18) 27 45 (.agg #[(.int .i64 0), (.string ⟨#[]⟩), (.slice none 0 0), (.string ⟨#[]⟩), (.int .i64 0), (.slice none 0 0)]) 96 rfl Try.underlying27 info45 rfl (by decide) (by omega) v1 xs ⟨a0, a1, a2, a3, -1, []⟩ [.int .i64 a0, .string a1, .slice A9 a2.length c9, .string a3, .int .i64 (-1), .slice none 0 0] g1 1 (fun k_ => (P_ k_ ∧ k_ < w.heap.size) ∨ (w.heap.size ≤ k_ ∧ k_ ≠ gt ∧ k_ ≠ gb ∧ k_ ≠ gr)) (fun k_ => w.heap.size ≤ k_ ∧ k_ < n5 ∧ k_ ≠ gt ∧ k_ ≠ gb ∧ k_ ≠ gr) rfl rfl HG1.out rfl (k45_mkM _ _ _ ⟨a0, a1, a2, a3, -1, []⟩ HW.out.r2 (Kd.R_nil _ _ _ _ _)) (fun k_ hk => ⟨.inr ⟨hk.1, hk.2.2⟩, fun e_ => by have := HB1.out k_ e_.symm; omega⟩) (fun k_ hk => .inr (HW.out.far (Nat.le_trans HN.out hk))) (Kd.S_mono HR.out (fun k_ hk => hk.elim (fun hk => ⟨.inl hk, fun h_ => by omega⟩) (fun hk => ⟨.inr (HW.out.far hk), fun h_ => by omega⟩))) (below_step HB.out HW.out.low) HW.out.base (by have := HL1.out; omega) ?_
           intro v2 wd hS hlow hg hat
           obtain ⟨Ay, cy, ev_⟩ := Kd.S_slice hS
           rw [List.length_append, List.length_singleton] at ev_
           subst ev_
           replace HW := Aside0.mk (HW.out.grown hlow hg (fun k_ e_ => HB1.out k_ e_))
           have HR2 := Aside0.mk hS
           clear hS hlow hg hat HR
           refine hK.out _ _ ?_ (fun hH6 => ?_)
           · (try dsimp only); exact AddW.held HW.out
           clear hK K
           refine wpAnyN_one (i := 7) (by kernel_rfl) rfl (fun K hK => ?_)
           go_simp
           refine hK.out _ _ ?_ (fun hH7 => ?_)
           · (try dsimp only); exact hH6
           clear hK K
           have ht0 := blk_cell HW.out.bt 0
           have htf := blk_frozen HW.out.bt
           refine wpAnyN_last (by kernel_rfl) (by kernel_rfl) rfl (fun K hK => ?_)
           go_simp
           refine hK.out _ _ ?_
           clear hK K
           exact ⟨⟨v1, _, g0, g1⟩, by simp only [putAll, List.foldl_cons, List.foldl_nil, Act.put, List.setIfInBounds_toArray, List.set_cons_zero, List.set_cons_succ], blk_set HW.out.bt 0 _, blk_far (p := ⟨gt, 0, none⟩) HW.out.br HW.out.ne _, Kd.S_mono (Kd.S_far (p := ⟨gt, 0, none⟩) (Kd.S_types HR2.out HW.out.bt (by decide)) (fun _ h_ => h_.2) _) (fun _ h_ => h_.1), below_set HW.out.low HW.out.gt_⟩
       · skip
         go_simp
         refine hK.out _ _ ?_ (fun hH7 => ?_)
         · (try dsimp only); exact AddW.held (HW.out.below (below_alloc (Below.refl _ _) _))
         clear hK K
         have hX := blk_new WD (.cells #[.int .i64 a0, .string a1, .slice A9 a2.length c9, .string a3, .int .i64 (-1), .slice none 0 0] 45)
         have hb := below_alloc (Below.refl (WD).heap.size WD) (.cells #[.int .i64 a0, .string a1, .slice A9 a2.length c9, .string a3, .int .i64 (-1), .slice none 0 0] 45)
         generalize World.alloc WD (.cells #[.int .i64 a0, .string a1, .slice A9 a2.length c9, .string a3, .int .i64 (-1), .slice none 0 0] 45) = wz1 at hX hb ⊢
         obtain ⟨g1, hg⟩ : ∃ g_, g_ = (WD).heap.size := ⟨_, rfl⟩
         rw [← hg] at hX ⊢
         replace HW := Aside0.mk (HW.out.below hb)
         have HN1 := Aside0.mk (show n5 ≤ g1 by rw [hg]; exact HN.out)
         replace HN := Aside0.mk (Nat.le_trans HN.out hb.size)
         have HG1 := Aside0.mk hX
         have HLT1 := Aside0.mk (show g1 < (wz1).heap.size from blk_lt hX)
         clear hX hb hg
         refine wpAnyN_one (i := 0) (by kernel_rfl) rfl (fun K hK => ?_)
         go_simp
         refine hK.out _ _ ?_ (fun hH8 => ?_)
         · (try dsimp only); exact AddW.held (HW.out.below (below_alloc (Below.refl _ _) _))
         clear hK K
         have hX := blk_new wz1 (.cells #[] 45)
         have hb := below_alloc (Below.refl (wz1).heap.size wz1) (.cells #[] 45)
         have hE := empty_row k45 45 wz1 w0.heap.size (fun k_ => (P_ k_ ∧ k_ < w.heap.size) ∨ n5 ≤ k_) HW.out.base (.inr HN.out)
         generalize World.alloc wz1 (.cells #[] 45) = wz0 at hX hb hE ⊢
         obtain ⟨g0, hg⟩ : ∃ g_, g_ = (wz1).heap.size := ⟨_, rfl⟩
         rw [← hg] at hX hE ⊢
         replace HW := Aside0.mk (HW.out.below hb)
         have HN0 := Aside0.mk (show n5 ≤ g0 by rw [hg]; exact HN.out)
         replace HN := Aside0.mk (Nat.le_trans HN.out hb.size)
         replace HG1 := Aside0.mk (blk_below HG1.out hb)
         have HNE := Aside0.mk (show g1 ≠ g0 by have := blk_lt HG1.out; have := hg; have := HLT1.out; omega)
         have HE := Aside0.mk hE
         clear hX hb hg hE
         refine wpAnyN_one (i := 3) (by kernel_rfl) rfl (fun K hK => ?_)
         refine S_copy_step (w0 := w0) k45 w0.heap.size (by rfl) (.tmp 13) (.tmp 15) 27 45 (.agg #[(.int .i64 0), (.string ⟨#[]⟩), (.slice none 0 0), (.string ⟨#[]⟩), (.int .i64 0), (.slice none 0 0)]) 96 rfl Try.underlying27 info45 rfl (by decide) (by omega) (.slice (some ⟨g0, 0, none⟩) 0 0) (.slice A0 xs.length c0) xs (fun k_ => (P_ k_ ∧ k_ < w.heap.size) ∨ n5 ≤ k_) (fun k_ => P_ k_ ∧ k_ < w.heap.size) rfl rfl HE.out HW.out.s (fun k_ hk => ⟨.inl hk, fun e_ => by have h3 : k_ = g0 := Option.some.inj e_; have := HN0.out; have := HW.out.ge5; omega⟩) (fun k_ hk => .inr (Nat.le_trans HN.out hk)) (below_step HB.out HW.out.low) HW.out.base (by have := HL1.out; omega) ?_
         intro v1 wc hS hlow hg hat
         have hb1 : ∀ k_, v1.ownBlock = some k_ → n5 ≤ k_ := fun k_ e_ => hat.elim (fun h_ => by have h3 : g0 = k_ := Option.some.inj (h_.symm.trans e_); rw [← h3]; exact HN0.out) (fun ⟨b_, h_, h2⟩ => by have h3 : b_ = k_ := Option.some.inj (h_.symm.trans e_); rw [← h3]; exact Nat.le_trans HN.out h2)
         replace HW := Aside0.mk (HW.out.grown hlow hg (fun k_ e_ => by have h3 : g0 = k_ := Option.some.inj e_; rw [← h3]; exact HN0.out))
         replace HG1 := Aside0.mk (blk_grown HG1.out hg (fun e_ => HNE.out (Option.some.inj e_)))
         replace HN := Aside0.mk (Nat.le_trans HN.out hg.size)
         have HR := Aside0.mk hS
         have HB1 := Aside0.mk hb1
         clear hS hlow hg hat hb1
         refine hK.out _ _ ?_ (fun hH9 => ?_)
         · (try dsimp only); exact AddW.held HW.out
         clear hK K
         refine wpAnyN_one (i := 6) (by kernel_rfl) rfl (fun K hK => ?_)
         refine S_append_at (w0 := w0) k45 w0.heap.size (by rfl) (.tmp 16) (.tmp 18) 27 45 (.agg #[(.int .i64 0), (.string ⟨#[]⟩), (.slice none 0 0), (.string ⟨#[]⟩), (.int .i64 0), (.slice none 0 0)]) 96 rfl Try.underlying27 info45 rfl (by decide) (by omega) v1 xs ⟨a0, a1, a2, a3, -1, []⟩ [.int .i64 a0, .string a1, .slice A9 a2.length c9, .string a3, .int .i64 (-1), .slice none 0 0] g1 1 (fun k_ => (P_ k_ ∧ k_ < w.heap.size) ∨ (w.heap.size ≤ k_ ∧ k_ ≠ gt ∧ k_ ≠ gb ∧ k_ ≠ gr)) (fun k_ => w.heap.size ≤ k_ ∧ k_ < n5 ∧ k_ ≠ gt ∧ k_ ≠ gb ∧ k_ ≠ gr) rfl rfl HG1.out rfl (k45_mkM _ _ _ ⟨a0, a1, a2, a3, -1, []⟩ HW.out.r2 (Kd.R_nil _ _ _ _ _)) (fun k_ hk => ⟨.inr ⟨hk.1, hk.2.2⟩, fun e_ => by have := HB1.out k_ e_.symm; omega⟩) (fun k_ hk => .inr (HW.out.far (Nat.le_trans HN.out hk))) (Kd.S_mono HR.out (fun k_ hk => hk.elim (fun hk => ⟨.inl hk, fun h_ => by omega⟩) (fun hk => ⟨.inr (HW.out.far hk), fun h_ => by omega⟩))) (below_step HB.out HW.out.low) HW.out.base (by have := HL1.out; omega) ?_
         intro v2 wd hS hlow hg hat
         obtain ⟨Ay, cy, ev_⟩ := Kd.S_slice hS
         rw [List.length_append, List.length_singleton] at ev_
         subst ev_
         replace HW := Aside0.mk (HW.out.grown hlow hg (fun k_ e_ => HB1.out k_ e_))
         have HR2 := Aside0.mk hS
         clear hS hlow hg hat HR
         refine hK.out _ _ ?_ (fun hH10 => ?_)
         · (try dsimp only); exact AddW.held HW.out
         clear hK K
         refine wpAnyN_one (i := 7) (by kernel_rfl) rfl (fun K hK => ?_)
         go_simp
         refine hK.out _ _ ?_ (fun hH7 => ?_)
         · (try dsimp only); exact hH10
         clear hK K
         have ht0 := blk_cell HW.out.bt 0
         have htf := blk_frozen HW.out.bt
         refine wpAnyN_last (by kernel_rfl) (by kernel_rfl) rfl (fun K hK => ?_)
         go_simp
         refine hK.out _ _ ?_
         clear hK K
         exact ⟨⟨v1, _, g0, g1⟩, by simp only [putAll, List.foldl_cons, List.foldl_nil, Act.put, List.setIfInBounds_toArray, List.set_cons_zero, List.set_cons_succ], blk_set HW.out.bt 0 _, blk_far (p := ⟨gt, 0, none⟩) HW.out.br HW.out.ne _, Kd.S_mono (Kd.S_far (p := ⟨gt, 0, none⟩) (Kd.S_types HR2.out HW.out.bt (by decide)) (fun _ h_ => h_.2) _) (fun _ h_ => h_.1), below_set HW.out.low HW.out.gt_⟩
     rintro ⟨v1, v2, g0, g1⟩ W6 ⟨hT, hR, hS, hl⟩
     simp only [putAll, List.foldl_cons, List.foldl_nil, Act.put, List.setIfInBounds_toArray, List.set_cons_zero, List.set_cons_succ]
     dsimp only at hT hR hS hl
     obtain ⟨Az, cz, ev_⟩ := Kd.S_slice hS
     rw [List.length_append, List.length_singleton] at ev_
     subst ev_
     have HT := Aside0.mk hT
     have HR := Aside0.mk hR
     have HS := Aside0.mk hS
     have HL := Aside0.mk hl
     have HGR := Aside0.mk (show w.heap.size ≤ gr ∧ gr ≠ gt from ⟨HW.out.ge.2, HW.out.ne⟩)
     clear hT hR hS hl HW HN
     have ht0 := blk_cell HT.out 0
     go_upto_region 5 with (fail)
     clear ht0
     have hw : IntKind.i64.wrap (xs.length : Int) = (xs.length : Int) := by rw [IntKind.wrap_i64]; have := HL1.out; omega
     have HTD := Aside0.mk (show W6.drew.heap[gt]? = some (.cells #[.slice Az (xs.length + 1) cz] 29 (0, 0)) from HT.out)
     have HRD := Aside0.mk (show W6.drew.heap[gr]? = some (.cells #[.slice none 0 0] 29 (0, 0)) from HR.out)
     have HSD := Aside0.mk (Kd.S_drew HS.out)
     have HLD := Aside0.mk (show Below w.heap.size w W6.drew from pw_below_drewN HL.out 1)
     have ht0 : W6.drew.cell? ⟨gt, 0, none⟩ = some (.slice Az (xs.length + 1) cz) := (blk_cell HTD.out 0).trans rfl
     clear HT HR HS HL
     refine wp_region_N (n := 6) (S := (fun w' => w'.cell? ⟨gt, 0, none⟩ = some (.slice Az (xs.length + 1) cz))) (by kernel_rfl) ht0 (fun hHeld => ?_)
     generalize W6.drew = W7 at HTD HRD HSD HLD hHeld ht0 ⊢
     have ht0' : (W7.setCell ⟨gr, 0, none⟩ (.slice Az (xs.length + 1) cz)).cell? ⟨gt, 0, none⟩ = some (.slice Az (xs.length + 1) cz) := (blk_cell (blk_far (p := ⟨gr, 0, none⟩) HTD.out (Ne.symm HGR.out.2) _) 0).trans rfl
     refine wpAnyN_take (i := 0) (v := ?v400) rfl (by kernel_rfl) (by kernel_rfl) (by kernel_rfl) (by kernel_rfl) (fun _ _ _ h => h) (Or.inl ⟨by rfl, ?h400⟩) hHeld ?r400
     case h400 => (intro w_ hSw; (try dsimp only at hSw); go_simp; (try with_reducible rfl))
     refine wpAnyN_take (i := 1) (v := ?v501) rfl (by kernel_rfl) (by kernel_rfl) (by kernel_rfl) (by kernel_rfl) (fun _ _ _ h => h) (Or.inl ⟨by rfl, ?h501⟩) hHeld ?r501
     case h501 => (intro w_ hSw; (try dsimp only at hSw); go_simp; (try with_reducible rfl))
     refine wpAnyN_take (i := 2) (v := ?v602) rfl (by kernel_rfl) (by kernel_rfl) (by kernel_rfl) (by kernel_rfl) (fun _ _ _ h => h) (Or.inl ⟨by rfl, ?h602⟩) hHeld ?r602
     case h602 => (intro w_ hSw; (try dsimp only at hSw); go_simp; (try with_reducible rfl))
     refine wpAnyN_take (i := 3) (v := ?v703) rfl (by kernel_rfl) (by kernel_rfl) (by kernel_rfl) (by kernel_rfl) (fun _ _ _ h => h) (Or.inl ⟨by rfl, ?h703⟩) hHeld ?r703
     case h703 => (intro w_ hSw; (try dsimp only at hSw); go_simp; (try with_reducible rfl))
     refine wpAnyN_take (i := 4) (v := ?v804) rfl (by kernel_rfl) (by kernel_rfl) (by kernel_rfl) (by kernel_rfl) (fun _ _ _ h => h) (Or.inl ⟨by rfl, ?h804⟩) hHeld ?r804
     case h804 => (intro w_ hSw; (try dsimp only at hSw); go_simp; (try with_reducible rfl))
     have hr0 := blk_cell HRD.out 0
     have hrf := blk_frozen HRD.out
     refine wpAnyN_one (i := 5) (by kernel_rfl) rfl (fun K hK => ?_)
     go_simp
     refine hK.out _ _ ?_ (fun hH5 => ?_)
     · (try dsimp only); exact ht0'
     clear hK K
     refine wpAnyN_last (by kernel_rfl) (by kernel_rfl) rfl (fun K hK => ?_)
     go_simp
     refine hK.out _ _ ?_
     clear hK K
     go_wp2_with fail
     refine bodyPost_ret (results_ct rfl _ _ gr 29 #[.slice Az (xs.length + 1) cz] (0, 0) _ rfl (blk_put (cs := #[.slice none 0 0]) HRD.out 0 _ rfl) Try.underlying29 rfl (by kernel_rfl)) rfl ?_
     exact ⟨_, rfl, Kd.S_mono (Kd.S_far (p := ⟨gr, 0, none⟩) (Kd.S_types HSD.out HRD.out (by decide)) (fun _ h_ => h_.2) _) (fun _ h_ => h_.1.elim (fun h2_ => .inl h2_.1) (fun h2_ => .inr h2_.1)), below_set HLD.out HGR.out.1⟩
   · rw [if_neg l1] at h; cases h
 · rw [if_neg l2] at h; cases h
def spec_TreeAdd.f (k : Nat) (l0_0 : List S45) (a1_0 : Int) (a1_1 : ByteArray) (l1_2 : List S98) (a1_3 : ByteArray) (a1_4 : Int) (l1_5 : List Int) : Option ((List S45) × Int) := (spec_TreeOk.f k l0_0).bind fun t => if t = true then (if (l0_0.length : Int) = 500 then (spec_l6Copy.f k l0_0).bind fun y => some (y, -1) else (spec_l6Node.f k a1_0 a1_1 l1_2 a1_3 a1_4 []).bind fun q => if q = true then (if a1_0 = 1 then (spec_l6Copy.f k l0_0).bind fun y => some (y, -1) else (spec_l6Copy.f k l0_0).bind fun y => spec_l6Add.f y a1_0 a1_1 l1_2 a1_3 a1_4 []) else (spec_l6Copy.f k l0_0).bind fun y => some (y, -1)) else some ([], -1)
theorem spec_TreeAdd.mono : ∀ a0 a1 a2 a3 a4 a5 a6 k, LeO (spec_TreeAdd.f k a0 a1 a2 a3 a4 a5 a6) (spec_TreeAdd.f (k + 1) a0 a1 a2 a3 a4 a5 a6) := fun a0 _ _ _ _ _ _ k => LeO.bind (spec_TreeOk.mono a0 k) (fun _ => LeO.ite (LeO.ite (LeO.bind (spec_l6Copy.mono a0 k) (fun _ => LeO.refl _)) (LeO.bind (spec_l6Node.mono _ _ _ _ _ _ k) (fun _ => LeO.ite (LeO.ite (LeO.bind (spec_l6Copy.mono a0 k) (fun _ => LeO.refl _)) (LeO.bind (spec_l6Copy.mono a0 k) (fun _ => LeO.refl _))) (LeO.bind (spec_l6Copy.mono a0 k) (fun _ => LeO.refl _))))) (LeO.refl _))
structure TaW (w W : World) (gt gb gr : Nat) (v0 u0 u1 u2 u3 u4 u5 : Value) : Prop where
 bt : W.heap[gt]? = some (.cells #[v0] 29 (0, 0))
 bb : W.heap[gb]? = some (.cells #[u0, u1, u2, u3, u4, u5] 45 (0, 0))
 br : W.heap[gr]? = some (.cells #[.slice none 0 0] 29 (0, 0))
 low : Below w.heap.size w W
 gr_ : w.heap.size ≤ gr
section
variable {w W W2 : World} {gt gb gr : Nat} {v0 u0 u1 u2 u3 u4 u5 : Value}
theorem TaW.below (h : TaW w W gt gb gr v0 u0 u1 u2 u3 u4 u5) (hb : Below W.heap.size W W2) : TaW w W2 gt gb gr v0 u0 u1 u2 u3 u4 u5 := ⟨blk_below h.bt hb, blk_below h.bb hb, blk_below h.br hb, below_step h.low hb, h.gr_⟩
theorem TaW.set (h : TaW w W gt gb gr v0 u0 u1 u2 u3 u4 u5) {g j : Nat} {v : Value} (hg : w.heap.size ≤ g) (n1 : gt ≠ g) (n2 : gb ≠ g) (n3 : gr ≠ g) : TaW w (W.setCell ⟨g, j, none⟩ v) gt gb gr v0 u0 u1 u2 u3 u4 u5 := ⟨blk_far (p := ⟨g, j, none⟩) h.bt n1 _, blk_far (p := ⟨g, j, none⟩) h.bb n2 _, blk_far (p := ⟨g, j, none⟩) h.br n3 _, below_set h.low hg, h.gr_⟩
theorem TaW.held (h : TaW w W gt gb gr v0 u0 u1 u2 u3 u4 u5) : W.cell? ⟨gt, 0, none⟩ = some v0 ∧ W.cell? ⟨gb, 0, none⟩ = some u0 ∧ W.cell? ⟨gb, 1, none⟩ = some u1 ∧ W.cell? ⟨gb, 2, none⟩ = some u2 ∧ W.cell? ⟨gb, 3, none⟩ = some u3 ∧ W.cell? ⟨gb, 4, none⟩ = some u4 ∧ W.cell? ⟨gb, 5, none⟩ = some u5 :=
 ⟨(blk_cell h.bt 0).trans rfl, (blk_cell h.bb 0).trans rfl, (blk_cell h.bb 1).trans rfl, (blk_cell h.bb 2).trans rfl, (blk_cell h.bb 3).trans rfl, (blk_cell h.bb 4).trans rfl, (blk_cell h.bb 5).trans rfl⟩
end
set_option maxHeartbeats 16000000 in
set_option maxRecDepth 100000 in
theorem spec_TreeAdd.calls (k : Nat) (A0_0 : Option Addr) (c0_0 : Nat) (l0_0 : List S45) (a1_0 : Int) (a1_1 : ByteArray) (A1_2 : Option Addr) (c1_2 : Nat) (l1_2 : List S98) (a1_3 : ByteArray) (a1_4 : Int) (A1_5 : Option Addr) (c1_5 : Nat) (l1_5 : List Int) (r1 : List S45) (r2 : Int) (w : World) (hr0_0 : Kd.C k45 w A0_0 l0_0.length l0_0) (hc0_0 : l0_0.length ≤ c0_0) (hr1_2 : Kd.C k98 w A1_2 l1_2.length l1_2) (hc1_2 : l1_2.length ≤ c1_2) (hr1_5 : Kd.C (Kd.int .i64) w A1_5 l1_5.length l1_5) (hc1_5 : l1_5.length ≤ c1_5) (h : spec_TreeAdd.f k l0_0 a1_0 a1_1 l1_2 a1_3 a1_4 l1_5 = some (r1, r2)) :
 Calls Try.prog 22 #[.agg #[.slice A0_0 l0_0.length c0_0], .agg #[.int .i64 a1_0, .string a1_1, .slice A1_2 l1_2.length c1_2, .string a1_3, .int .i64 a1_4, .slice A1_5 l1_5.length c1_5]] w fun e w' => ∃ v0_ : Value, e = .returned (.tuple #[.agg #[v0_], .int .i64 r2]) ∧ Kd.S k45 45 w' w.heap.size (fun _ => True) v0_ r1 ∧ Below w.heap.size w w' := by
 unfold spec_TreeAdd.f at h
 obtain ⟨b, A1, h⟩ := Option.bind_eq_some_iff.mp h
 have HA1 := Aside0.mk A1
 have HA := Aside0.mk h
 have HC := Aside0.mk hr0_0
 have HCC := Aside0.mk hc0_0
 have H2 := Aside0.mk hr1_2
 have HC2 := Aside0.mk hc1_2
 clear h hr0_0 hc0_0 hr1_2 hc1_2 hr1_5 hc1_5 A1
 go_enter Try.func22, Try.ntmps22
 go_upto_region 1 with (first | ((with_reducible refine gate_dst (N := 2) rfl ?_); refine box_event ?hg (N := 2) ?hd (cs := #[.slice A0_0 l0_0.length c0_0]) (t := 29) ?hr ?_; (case hd => rfl); (case hg => rfl); (case hr => first | (go_simp; done) | (go_simp; rfl)); intro gt hg w1 hbox hb; have HT := Aside0.mk hbox; have HL := Aside0.mk hb; clear hbox hb hg) | ((with_reducible refine gate_dst (N := 3) rfl ?_); refine box_event ?hg (N := 3) ?hd (cs := #[.int .i64 a1_0, .string a1_1, .slice A1_2 l1_2.length c1_2, .string a1_3, .int .i64 a1_4, .slice A1_5 l1_5.length c1_5]) (t := 45) ?hr ?_; (case hd => rfl); (case hg => rfl); (case hr => first | (go_simp; done) | (go_simp; rfl)); intro gb hg w2 hbox hb; have HT2 := Aside0.mk (blk_below HT.out hb); have HBB := Aside0.mk hbox; have HLL := Aside0.mk (below_step HL.out hb); have HGB := Aside0.mk (show gt ≠ gb ∧ w.heap.size ≤ gb from ⟨by rw [hg]; exact Nat.ne_of_lt (blk_lt HT.out), by rw [hg]; exact HL.out.size⟩); clear hbox hb hg) | ((with_reducible refine gate_dst (N := 4) rfl ?_); refine box_event ?hg (N := 4) ?hd (cs := #[.slice none 0 0]) (t := 29) ?hr ?_; (case hd => rfl); (case hg => rfl); (case hr => first | (go_simp; done) | (go_simp; rfl)); intro gr hg w3 hbox hb; have HX := Aside0.mk (show TaW w w3 gt gb gr _ _ _ _ _ _ _ from ⟨blk_below HT2.out hb, blk_below HBB.out hb, hbox, below_step HLL.out hb, by rw [hg]; exact HLL.out.size⟩); have HNE := Aside0.mk (show gt ≠ gb ∧ gr ≠ gb ∧ w.heap.size ≤ gb from ⟨HGB.out.1, by rw [hg]; exact Nat.ne_of_gt (blk_lt HBB.out), HGB.out.2⟩); clear hbox hb hg HT HL HT2 HBB HLL HGB))
 obtain ⟨ht0, hb0, hb1, hb2, hb3, hb4, hb5⟩ := TaW.held HX.out
 cases b with
 | false =>
  have H := HA.out
  simp only [Bool.false_eq_true, if_false] at H
  injection H with H
  injection H with e1 e2
  subst e1 e2
  go_wp2_with (first | (go_at_call 11; (with_reducible refine (spec_TreeOk.calls k A0_0 c0_0 l0_0 false w3 (Kd.C_below HC.out HX.out.low) HCC.out HA1.out).mono ?_); rintro e w4 ⟨rfl, hb⟩; have HX4 := Aside0.mk (HX.out.below hb); have hc2 := blk_cell HX4.out.br 0; have hf2 := blk_frozen HX4.out.br; clear hb))
  refine bodyPost_ret (results_ct rfl _ _ gr 29 #[.slice none 0 0] (0, 0) _ rfl (blk_put (cs := #[.slice none 0 0]) HX4.out.br 0 _ rfl) Try.underlying29 rfl (by kernel_rfl)) rfl ?_
  exact ⟨_, rfl, Kd.S_nil _ _ _ _ _, below_set HX4.out.low HX4.out.gr_⟩
 | true =>
  have H := HA.out
  rw [if_pos rfl] at H
  clear HA
  have hbf := blk_frozen HX.out.bb
  go_upto_region 4 with (first | (go_at_call 11; (with_reducible refine (spec_TreeOk.calls k A0_0 c0_0 l0_0 true w3 (Kd.C_below HC.out HX.out.low) HCC.out HA1.out).mono ?_); rintro e w4 ⟨rfl, hb⟩; have HX4 := Aside0.mk (HX.out.below hb); have hbf4 := blk_frozen HX4.out.bb; have hb54 := blk_cell HX4.out.bb 5; clear hb))
  have HXS := Aside0.mk (show TaW w (w4.setCell ⟨gb, 5, none⟩ (.slice none 0 0)) gt gb gr _ _ _ _ _ _ (.slice none 0 0) from ⟨blk_far (p := ⟨gb, 5, none⟩) HX4.out.bt HNE.out.1 _, blk_set HX4.out.bb 5 (.slice none 0 0), blk_far (p := ⟨gb, 5, none⟩) HX4.out.br HNE.out.2.1 _, below_set HX4.out.low HNE.out.2.2, HX4.out.gr_⟩)
  clear hbf hbf4 hb54 ht0 hb0 hb1 hb2 hb3 hb4 hb5 HX HX4
  generalize w4.setCell ⟨gb, 5, none⟩ (.slice none 0 0) = w5 at HXS ⊢
  have HX := HXS
  clear HXS
  obtain ⟨ht0, hb0, hb1, hb2, hb3, hb4, hb5⟩ := TaW.held HX.out
  by_cases c1 : (l0_0.length : Int) = 500
  · rw [if_pos c1] at H
    have c1b : ((l0_0.length : Int) == 500) = true := beq_iff_eq.2 c1
    clear c1
    obtain ⟨ys, A2, H⟩ := Option.bind_eq_some_iff.1 H
    have HA2 := Aside0.mk A2
    injection H with H
    injection H with e1 e2
    subst e1 e2
    clear A2
    have HXQ := HX
    go_wp2_with (first | (go_at_call 52; (with_reducible refine (spec_l6Copy.calls k A0_0 c0_0 l0_0 ys w5 (Kd.C_below HC.out HXQ.out.low) HCC.out HA2.out).mono ?_); rintro e w6 ⟨v, rfl, hS, hb⟩; obtain ⟨Ay, cy, rfl⟩ := Kd.S_slice hS; have HX6 := Aside0.mk (HXQ.out.below hb); have HS := Aside0.mk (Kd.S_lower hS HXQ.out.low.size); have hr6 := blk_cell HX6.out.br 0; have hrf6 := blk_frozen HX6.out.br; clear hS hb))
    refine bodyPost_ret (results_ct rfl _ _ gr 29 #[.slice Ay ys.length cy] (0, 0) _ rfl (blk_put (cs := #[.slice none 0 0]) HX6.out.br 0 _ rfl) Try.underlying29 rfl (by kernel_rfl)) rfl ?_
    exact ⟨_, rfl, Kd.S_mono (Kd.S_far (p := ⟨gr, 0, none⟩) (Kd.S_types HS.out HX6.out.br (by decide)) (fun _ h_ => h_.2) _) (fun _ _ => trivial), below_set HX6.out.low HX6.out.gr_⟩
  · rw [if_neg c1] at H
    have c1b : ((l0_0.length : Int) == 500) = false := beq_eq_false_iff_ne.2 c1
    clear c1
    obtain ⟨q, A4, H⟩ := Option.bind_eq_some_iff.1 H
    have HA4 := Aside0.mk A4
    clear A4
    have HCALL := Aside0.mk (show Calls Try.prog 38 #[.agg #[.int .i64 a1_0, .string a1_1, .slice A1_2 l1_2.length c1_2, .string a1_3, .int .i64 a1_4, .slice none 0 0]] w5 (fun e w' => e = .returned (.bool q) ∧ Below w5.heap.size w5 w') from spec_l6Node.calls k a1_0 a1_1 A1_2 c1_2 l1_2 a1_3 a1_4 none 0 [] q w5 (Kd.C_below H2.out HX.out.low) HC2.out (Kd.C_nil _ _) (Nat.le_refl _) HA4.out)
    cases q with
    | false =>
     rw [if_neg (by decide)] at H
     obtain ⟨ys, A2, H⟩ := Option.bind_eq_some_iff.1 H
     have HA2 := Aside0.mk A2
     injection H with H
     injection H with e1 e2
     subst e1 e2
     clear A2
     go_wp2_with (first | (go_at_call 38; refine HCALL.out.mono ?_; rintro e W4 ⟨rfl, hb⟩; have HXQ := Aside0.mk (HX.out.below hb); have h20 := TaW.held HXQ.out; obtain ⟨ht0', hb0', hb1', hb2', hb3', hb4', hb5'⟩ := h20; clear hb) | (go_at_call 52; (with_reducible refine (spec_l6Copy.calls k A0_0 c0_0 l0_0 ys W4 (Kd.C_below HC.out HXQ.out.low) HCC.out HA2.out).mono ?_); rintro e w6 ⟨v, rfl, hS, hb⟩; obtain ⟨Ay, cy, rfl⟩ := Kd.S_slice hS; have HX6 := Aside0.mk (HXQ.out.below hb); have HS := Aside0.mk (Kd.S_lower hS HXQ.out.low.size); have hr6 := blk_cell HX6.out.br 0; have hrf6 := blk_frozen HX6.out.br; clear hS hb))
     refine bodyPost_ret (results_ct rfl _ _ gr 29 #[.slice Ay ys.length cy] (0, 0) _ rfl (blk_put (cs := #[.slice none 0 0]) HX6.out.br 0 _ rfl) Try.underlying29 rfl (by kernel_rfl)) rfl ?_
     exact ⟨_, rfl, Kd.S_mono (Kd.S_far (p := ⟨gr, 0, none⟩) (Kd.S_types HS.out HX6.out.br (by decide)) (fun _ h_ => h_.2) _) (fun _ _ => trivial), below_set HX6.out.low HX6.out.gr_⟩
    | true =>
     rw [if_pos rfl] at H
     by_cases c2 : a1_0 = 1
     · rw [if_pos c2] at H
       have c2b : (a1_0 == 1) = true := beq_iff_eq.2 c2
       clear c2
       obtain ⟨ys, A2, H⟩ := Option.bind_eq_some_iff.1 H
       have HA2 := Aside0.mk A2
       injection H with H
       injection H with e1 e2
       subst e1 e2
       clear A2
       go_wp2_with (first | (go_at_call 38; refine HCALL.out.mono ?_; rintro e W4 ⟨rfl, hb⟩; have HXQ := Aside0.mk (HX.out.below hb); have h20 := TaW.held HXQ.out; obtain ⟨ht0', hb0', hb1', hb2', hb3', hb4', hb5'⟩ := h20; clear hb) | (go_at_call 52; (with_reducible refine (spec_l6Copy.calls k A0_0 c0_0 l0_0 ys W4 (Kd.C_below HC.out HXQ.out.low) HCC.out HA2.out).mono ?_); rintro e w6 ⟨v, rfl, hS, hb⟩; obtain ⟨Ay, cy, rfl⟩ := Kd.S_slice hS; have HX6 := Aside0.mk (HXQ.out.below hb); have HS := Aside0.mk (Kd.S_lower hS HXQ.out.low.size); have hr6 := blk_cell HX6.out.br 0; have hrf6 := blk_frozen HX6.out.br; clear hS hb))
       refine bodyPost_ret (results_ct rfl _ _ gr 29 #[.slice Ay ys.length cy] (0, 0) _ rfl (blk_put (cs := #[.slice none 0 0]) HX6.out.br 0 _ rfl) Try.underlying29 rfl (by kernel_rfl)) rfl ?_
       exact ⟨_, rfl, Kd.S_mono (Kd.S_far (p := ⟨gr, 0, none⟩) (Kd.S_types HS.out HX6.out.br (by decide)) (fun _ h_ => h_.2) _) (fun _ _ => trivial), below_set HX6.out.low HX6.out.gr_⟩
     · rw [if_neg c2] at H
       have c2b : (a1_0 == 1) = false := beq_eq_false_iff_ne.2 c2
       clear c2
       obtain ⟨ys, A2, H⟩ := Option.bind_eq_some_iff.1 H
       have HA2 := Aside0.mk A2
       have HA3 := Aside0.mk H
       clear A2 H
       go_upto_region 6 with (first | (go_at_call 38; refine HCALL.out.mono ?_; rintro e W4 ⟨rfl, hb⟩; have HXQ := Aside0.mk (HX.out.below hb); have h20 := TaW.held HXQ.out; obtain ⟨ht0', hb0', hb1', hb2', hb3', hb4', hb5'⟩ := h20; clear hb))
       clear ht0 hb0 hb1 hb2 hb3 hb4 hb5 ht0' hb0' hb1' hb2' hb3' hb4' hb5' HX
       have HX := Aside0.mk (show TaW w W4.drew gt gb gr _ _ _ _ _ _ _ from HXQ.out.below (pw_below_drewN (Below.refl _ _) 1))
       clear HXQ
       refine region_join (σ := Nat × Option Addr × Nat × Option Addr × Nat) (fun s_ => [(30, .agg #[.slice A0_0 l0_0.length c0_0]), (31, .agg #[.slice s_.2.2.2.1 ys.length s_.2.2.2.2]), (32, .agg #[.int .i64 a1_0, .string a1_1, .slice A1_2 l1_2.length c1_2, .string a1_3, .int .i64 a1_4, .slice none 0 0]), (33, .tuple #[.agg #[.slice s_.2.1 r1.length s_.2.2.1], .int .i64 r2]), (29, .tuple #[.agg #[.slice s_.2.1 r1.length s_.2.2.1], .int .i64 r2]), (34, .agg #[.slice s_.2.1 r1.length s_.2.2.1]), (35, .int .i64 r2), (6, .pointer (some ⟨s_.1, 0, none⟩)), (7, .int .i64 r2)]) (fun s_ w' => w'.heap[s_.1]? = some (.cells #[.slice s_.2.1 r1.length s_.2.2.1] 29 (0, 0)) ∧ w'.heap[gr]? = some (.cells #[.slice none 0 0] 29 (0, 0)) ∧ Below w.heap.size w w' ∧ Kd.S k45 45 w' w.heap.size (fun k_ => k_ ≠ s_.1) (.slice s_.2.1 r1.length s_.2.2.1) r1) ?_ ?_
       · skip
         refine wp_region_N (n := 9) (S := (fun w' => w'.cell? ⟨gt, 0, none⟩ = some (.slice A0_0 l0_0.length c0_0) ∧ w'.cell? ⟨gb, 0, none⟩ = some (.int .i64 a1_0) ∧ w'.cell? ⟨gb, 1, none⟩ = some (.string a1_1) ∧ w'.cell? ⟨gb, 2, none⟩ = some (.slice A1_2 l1_2.length c1_2) ∧ w'.cell? ⟨gb, 3, none⟩ = some (.string a1_3) ∧ w'.cell? ⟨gb, 4, none⟩ = some (.int .i64 a1_4) ∧ w'.cell? ⟨gb, 5, none⟩ = some (.slice none 0 0))) (by kernel_rfl) (TaW.held HX.out) (fun hHeld => ?_)
         generalize W4.drew = WD at HX hHeld ⊢
         refine wpAnyN_take (i := 0) (v := ?v100) rfl (by kernel_rfl) (by kernel_rfl) (by kernel_rfl) (by kernel_rfl) (fun _ _ _ h => h) (Or.inl ⟨by rfl, ?h100⟩) hHeld ?r100
         case h100 => (intro w_ hSw; (try dsimp only at hSw); go_simp; (try with_reducible rfl))
         refine wpAnyN_take (i := 2) (v := ?v202) rfl (by kernel_rfl) (by kernel_rfl) (by kernel_rfl) (by kernel_rfl) (fun _ _ _ h => h) (Or.inl ⟨by rfl, ?h202⟩) hHeld ?r202
         case h202 => (intro w_ hSw; (try dsimp only at hSw); go_simp; (try with_reducible rfl))
         refine wpAnyN_two (i := 1) (j := 7) (by kernel_rfl) rfl rfl (fun K hK => ?_) (fun K hK => ?_)
         · skip
           go_simp
           go_at_call 52
           with_reducible refine (spec_l6Copy.calls k A0_0 c0_0 l0_0 ys _ (Kd.C_below HC.out HX.out.low) HCC.out HA2.out).mono ?_
           rintro e wq ⟨v, rfl, hS, hb⟩
           obtain ⟨Ay, cy, rfl⟩ := Kd.S_slice hS
           have HY := Aside0.mk (Kd.S_lower hS HX.out.low.size)
           replace HX := Aside0.mk (HX.out.below hb)
           clear hS hb
           go_wp2_with fail
           refine hK.out _ _ ?_ (fun hH1 => ?_)
           · (try dsimp only); exact TaW.held HX.out
           clear hK K
           refine wpAnyN_two (i := 3) (j := 7) (by kernel_rfl) rfl rfl (fun K hK => ?_) (fun K hK => ?_)
           · skip
             go_simp
             go_at_call 53
             with_reducible refine (spec_l6Add.calls (fun k_ => True) Ay cy ys a1_0 a1_1 A1_2 c1_2 l1_2 a1_3 a1_4 (.slice none 0 0) [] r1 r2 w _ HX.out.low HY.out (Kd.C_below H2.out HX.out.low) HC2.out ⟨rfl, rfl⟩ HA3.out).mono ?_
             rintro e wq ⟨v, rfl, hS, hb⟩
             obtain ⟨Az, cz, rfl⟩ := Kd.S_slice hS
             have HZ := Aside0.mk (Kd.S_mono hS (ok' := fun _ => True) (fun _ _ => trivial))
             replace HX := Aside0.mk (HX.out.below hb)
             clear hS hb HY
             go_wp2_with fail
             refine hK.out _ _ ?_ (fun hH2 => ?_)
             · (try dsimp only); exact TaW.held HX.out
             clear hK K
             refine wpAnyN_take (i := 4) (v := ?v304) rfl (by kernel_rfl) (by kernel_rfl) (by kernel_rfl) (by kernel_rfl) (fun _ _ _ h => h) (Or.inl ⟨by rfl, ?h304⟩) hH2 ?r304
             case h304 => (intro w_ hSw; (try dsimp only at hSw); go_simp; (try with_reducible rfl))
             refine wpAnyN_take (i := 5) (v := ?v405) rfl (by kernel_rfl) (by kernel_rfl) (by kernel_rfl) (by kernel_rfl) (fun _ _ _ h => h) (Or.inl ⟨by rfl, ?h405⟩) hH2 ?r405
             case h405 => (intro w_ hSw; (try dsimp only at hSw); go_simp; (try with_reducible rfl))
             refine wpAnyN_take (i := 6) (v := ?v506) rfl (by kernel_rfl) (by kernel_rfl) (by kernel_rfl) (by kernel_rfl) (fun _ _ _ h => h) (Or.inl ⟨by rfl, ?h506⟩) hH2 ?r506
             case h506 => (intro w_ hSw; (try dsimp only at hSw); go_simp; (try with_reducible rfl))
             refine wpAnyN_one (i := 7) (by kernel_rfl) rfl (fun K hK => ?_)
             go_simp
             refine hK.out _ _ ?_ (fun hH3 => ?_)
             · (try dsimp only); exact TaW.held (HX.out.below (below_alloc (Below.refl _ _) _))
             clear hK K
             have hX := blk_new wq (.cells #[.slice none 0 0] 29)
             have hb := below_alloc (Below.refl (wq).heap.size wq) (.cells #[.slice none 0 0] 29)
             generalize World.alloc wq (.cells #[.slice none 0 0] 29) = wz at hX hb ⊢
             obtain ⟨gz, hg⟩ : ∃ g_, g_ = (wq).heap.size := ⟨_, rfl⟩
             rw [← hg] at hX ⊢
             have HGE := Aside0.mk (show w.heap.size ≤ gz ∧ gr ≠ gz ∧ gt ≠ gz ∧ gb ≠ gz from ⟨by rw [hg]; exact HX.out.low.size, by rw [hg]; exact Nat.ne_of_lt (blk_lt HX.out.br), by rw [hg]; exact Nat.ne_of_lt (blk_lt HX.out.bt), by rw [hg]; exact Nat.ne_of_lt (blk_lt HX.out.bb)⟩)
             replace HZ := Aside0.mk (Kd.S_mono (Kd.S_below (Kd.S_elderB HZ.out gz (Nat.le_of_eq hg.symm)) hb) (ok' := fun k_ => k_ ≠ gz) (fun k_ hk => hk.2))
             replace HX := Aside0.mk (HX.out.below hb)
             have HG := Aside0.mk hX
             clear hX hb hg
             have hz0 := blk_cell HG.out 0
             have hzf := blk_frozen HG.out
             refine wpAnyN_one (i := 8) (by kernel_rfl) rfl (fun K hK => ?_)
             go_simp
             refine hK.out _ _ ?_ (fun hH4 => ?_)
             · (try dsimp only); exact TaW.held (HX.out.set HGE.out.1 HGE.out.2.2.1 HGE.out.2.2.2 HGE.out.2.1)
             clear hK K
             refine wpAnyN_last (by kernel_rfl) (by kernel_rfl) rfl (fun K hK => ?_)
             go_simp
             refine hK.out _ _ ?_
             clear hK K
             exact ⟨⟨gz, Az, cz, Ay, cy⟩, by simp only [putAll, List.foldl_cons, List.foldl_nil, Act.put, List.setIfInBounds_toArray, List.set_cons_zero, List.set_cons_succ], blk_set HG.out 0 _, blk_far (p := ⟨gz, 0, none⟩) HX.out.br HGE.out.2.1 _, below_set HX.out.low HGE.out.1, Kd.S_far (p := ⟨gz, 0, none⟩) HZ.out (fun _ h_ => h_) _⟩
           · skip
             go_simp
             refine hK.out _ _ ?_ (fun hH5 => ?_)
             · (try dsimp only); exact TaW.held (HX.out.below (below_alloc (Below.refl _ _) _))
             clear hK K
             have hX := blk_new wq (.cells #[.slice none 0 0] 29)
             have hb := below_alloc (Below.refl (wq).heap.size wq) (.cells #[.slice none 0 0] 29)
             generalize World.alloc wq (.cells #[.slice none 0 0] 29) = wz at hX hb ⊢
             obtain ⟨gz, hg⟩ : ∃ g_, g_ = (wq).heap.size := ⟨_, rfl⟩
             rw [← hg] at hX ⊢
             have HGE := Aside0.mk (show w.heap.size ≤ gz ∧ gr ≠ gz ∧ gt ≠ gz ∧ gb ≠ gz from ⟨by rw [hg]; exact HX.out.low.size, by rw [hg]; exact Nat.ne_of_lt (blk_lt HX.out.br), by rw [hg]; exact Nat.ne_of_lt (blk_lt HX.out.bt), by rw [hg]; exact Nat.ne_of_lt (blk_lt HX.out.bb)⟩)
             replace HY := Aside0.mk (Kd.S_mono (Kd.S_below (Kd.S_elderB HY.out gz (Nat.le_of_eq hg.symm)) hb) (ok' := fun k_ => k_ ≠ gz) (fun k_ hk => hk.2))
             replace HX := Aside0.mk (HX.out.below hb)
             have HG := Aside0.mk hX
             clear hX hb hg
             refine wpAnyN_one (i := 3) (by kernel_rfl) rfl (fun K hK => ?_)
             go_simp
             go_at_call 53
             with_reducible refine (spec_l6Add.calls (fun k_ => k_ ≠ gz) Ay cy ys a1_0 a1_1 A1_2 c1_2 l1_2 a1_3 a1_4 (.slice none 0 0) [] r1 r2 w _ HX.out.low HY.out (Kd.C_below H2.out HX.out.low) HC2.out ⟨rfl, rfl⟩ HA3.out).mono ?_
             rintro e wq ⟨v, rfl, hS, hb⟩
             obtain ⟨Az, cz, rfl⟩ := Kd.S_slice hS
             have HZ := Aside0.mk (Kd.S_mono hS (ok' := fun k_ => k_ ≠ gz) (fun k_ hk => hk.elim (fun h_ => h_) (fun h_ => by have := blk_lt HG.out; omega)))
             replace HG := Aside0.mk (blk_below HG.out hb)
             replace HX := Aside0.mk (HX.out.below hb)
             clear hS hb HY
             go_wp2_with fail
             refine hK.out _ _ ?_ (fun hH6 => ?_)
             · (try dsimp only); exact TaW.held HX.out
             clear hK K
             refine wpAnyN_take (i := 4) (v := ?v604) rfl (by kernel_rfl) (by kernel_rfl) (by kernel_rfl) (by kernel_rfl) (fun _ _ _ h => h) (Or.inl ⟨by rfl, ?h604⟩) hH6 ?r604
             case h604 => (intro w_ hSw; (try dsimp only at hSw); go_simp; (try with_reducible rfl))
             refine wpAnyN_take (i := 5) (v := ?v705) rfl (by kernel_rfl) (by kernel_rfl) (by kernel_rfl) (by kernel_rfl) (fun _ _ _ h => h) (Or.inl ⟨by rfl, ?h705⟩) hH6 ?r705
             case h705 => (intro w_ hSw; (try dsimp only at hSw); go_simp; (try with_reducible rfl))
             refine wpAnyN_take (i := 6) (v := ?v806) rfl (by kernel_rfl) (by kernel_rfl) (by kernel_rfl) (by kernel_rfl) (fun _ _ _ h => h) (Or.inl ⟨by rfl, ?h806⟩) hH6 ?r806
             case h806 => (intro w_ hSw; (try dsimp only at hSw); go_simp; (try with_reducible rfl))
             have hz0 := blk_cell HG.out 0
             have hzf := blk_frozen HG.out
             refine wpAnyN_one (i := 8) (by kernel_rfl) rfl (fun K hK => ?_)
             go_simp
             refine hK.out _ _ ?_ (fun hH7 => ?_)
             · (try dsimp only); exact TaW.held (HX.out.set HGE.out.1 HGE.out.2.2.1 HGE.out.2.2.2 HGE.out.2.1)
             clear hK K
             refine wpAnyN_last (by kernel_rfl) (by kernel_rfl) rfl (fun K hK => ?_)
             go_simp
             refine hK.out _ _ ?_
             clear hK K
             exact ⟨⟨gz, Az, cz, Ay, cy⟩, by simp only [putAll, List.foldl_cons, List.foldl_nil, Act.put, List.setIfInBounds_toArray, List.set_cons_zero, List.set_cons_succ], blk_set HG.out 0 _, blk_far (p := ⟨gz, 0, none⟩) HX.out.br HGE.out.2.1 _, below_set HX.out.low HGE.out.1, Kd.S_far (p := ⟨gz, 0, none⟩) HZ.out (fun _ h_ => h_) _⟩
         · skip
           go_simp
           refine hK.out _ _ ?_ (fun hH8 => ?_)
           · (try dsimp only); exact TaW.held (HX.out.below (below_alloc (Below.refl _ _) _))
           clear hK K
           have hX := blk_new WD (.cells #[.slice none 0 0] 29)
           have hb := below_alloc (Below.refl (WD).heap.size WD) (.cells #[.slice none 0 0] 29)
           generalize World.alloc WD (.cells #[.slice none 0 0] 29) = wz at hX hb ⊢
           obtain ⟨gz, hg⟩ : ∃ g_, g_ = (WD).heap.size := ⟨_, rfl⟩
           rw [← hg] at hX ⊢
           have HGE := Aside0.mk (show w.heap.size ≤ gz ∧ gr ≠ gz ∧ gt ≠ gz ∧ gb ≠ gz from ⟨by rw [hg]; exact HX.out.low.size, by rw [hg]; exact Nat.ne_of_lt (blk_lt HX.out.br), by rw [hg]; exact Nat.ne_of_lt (blk_lt HX.out.bt), by rw [hg]; exact Nat.ne_of_lt (blk_lt HX.out.bb)⟩)
           replace HX := Aside0.mk (HX.out.below hb)
           have HG := Aside0.mk hX
           clear hX hb hg
           refine wpAnyN_one (i := 1) (by kernel_rfl) rfl (fun K hK => ?_)
           go_simp
           go_at_call 52
           with_reducible refine (spec_l6Copy.calls k A0_0 c0_0 l0_0 ys _ (Kd.C_below HC.out HX.out.low) HCC.out HA2.out).mono ?_
           rintro e wq ⟨v, rfl, hS, hb⟩
           obtain ⟨Ay, cy, rfl⟩ := Kd.S_slice hS
           have HY := Aside0.mk (Kd.S_lower (Kd.S_mono (Kd.S_bound hS) (ok' := fun k_ => k_ ≠ gz) (fun k_ hk => by have := hk.2.1; have := blk_lt HG.out; omega)) HX.out.low.size)
           replace HG := Aside0.mk (blk_below HG.out hb)
           replace HX := Aside0.mk (HX.out.below hb)
           clear hS hb
           go_wp2_with fail
           refine hK.out _ _ ?_ (fun hH9 => ?_)
           · (try dsimp only); exact TaW.held HX.out
           clear hK K
           refine wpAnyN_one (i := 3) (by kernel_rfl) rfl (fun K hK => ?_)
           go_simp
           go_at_call 53
           with_reducible refine (spec_l6Add.calls (fun k_ => k_ ≠ gz) Ay cy ys a1_0 a1_1 A1_2 c1_2 l1_2 a1_3 a1_4 (.slice none 0 0) [] r1 r2 w _ HX.out.low HY.out (Kd.C_below H2.out HX.out.low) HC2.out ⟨rfl, rfl⟩ HA3.out).mono ?_
           rintro e wq ⟨v, rfl, hS, hb⟩
           obtain ⟨Az, cz, rfl⟩ := Kd.S_slice hS
           have HZ := Aside0.mk (Kd.S_mono hS (ok' := fun k_ => k_ ≠ gz) (fun k_ hk => hk.elim (fun h_ => h_) (fun h_ => by have := blk_lt HG.out; omega)))
           replace HG := Aside0.mk (blk_below HG.out hb)
           replace HX := Aside0.mk (HX.out.below hb)
           clear hS hb HY
           go_wp2_with fail
           refine hK.out _ _ ?_ (fun hH10 => ?_)
           · (try dsimp only); exact TaW.held HX.out
           clear hK K
           refine wpAnyN_take (i := 4) (v := ?v904) rfl (by kernel_rfl) (by kernel_rfl) (by kernel_rfl) (by kernel_rfl) (fun _ _ _ h => h) (Or.inl ⟨by rfl, ?h904⟩) hH10 ?r904
           case h904 => (intro w_ hSw; (try dsimp only at hSw); go_simp; (try with_reducible rfl))
           refine wpAnyN_take (i := 5) (v := ?v1005) rfl (by kernel_rfl) (by kernel_rfl) (by kernel_rfl) (by kernel_rfl) (fun _ _ _ h => h) (Or.inl ⟨by rfl, ?h1005⟩) hH10 ?r1005
           case h1005 => (intro w_ hSw; (try dsimp only at hSw); go_simp; (try with_reducible rfl))
           refine wpAnyN_take (i := 6) (v := ?v1106) rfl (by kernel_rfl) (by kernel_rfl) (by kernel_rfl) (by kernel_rfl) (fun _ _ _ h => h) (Or.inl ⟨by rfl, ?h1106⟩) hH10 ?r1106
           case h1106 => (intro w_ hSw; (try dsimp only at hSw); go_simp; (try with_reducible rfl))
           have hz0 := blk_cell HG.out 0
           have hzf := blk_frozen HG.out
           refine wpAnyN_one (i := 8) (by kernel_rfl) rfl (fun K hK => ?_)
           go_simp
           refine hK.out _ _ ?_ (fun hH11 => ?_)
           · (try dsimp only); exact TaW.held (HX.out.set HGE.out.1 HGE.out.2.2.1 HGE.out.2.2.2 HGE.out.2.1)
           clear hK K
           refine wpAnyN_last (by kernel_rfl) (by kernel_rfl) rfl (fun K hK => ?_)
           go_simp
           refine hK.out _ _ ?_
           clear hK K
           exact ⟨⟨gz, Az, cz, Ay, cy⟩, by simp only [putAll, List.foldl_cons, List.foldl_nil, Act.put, List.setIfInBounds_toArray, List.set_cons_zero, List.set_cons_succ], blk_set HG.out 0 _, blk_far (p := ⟨gz, 0, none⟩) HX.out.br HGE.out.2.1 _, below_set HX.out.low HGE.out.1, Kd.S_far (p := ⟨gz, 0, none⟩) HZ.out (fun _ h_ => h_) _⟩
       rintro ⟨gz, Az, cz, Ay, cy⟩ W6 ⟨hG, hR, hl, hS⟩
       simp only [putAll, List.foldl_cons, List.foldl_nil, Act.put, List.setIfInBounds_toArray, List.set_cons_zero, List.set_cons_succ]
       dsimp only at hG hR hl hS
       have hg0 := blk_cell hG 0
       have hr0 := blk_cell hR 0
       have hrf := blk_frozen hR
       have HR := Aside0.mk hR
       have HL := Aside0.mk hl
       have HS := Aside0.mk hS
       have HGR := Aside0.mk HX.out.gr_
       clear hG hR hl hS
       go_wp2_with fail
       refine bodyPost_ret (results_ct rfl _ _ gr 29 #[.slice Az r1.length cz] (0, 0) _ rfl (blk_put (cs := #[.slice none 0 0]) HR.out 0 _ rfl) Try.underlying29 rfl (by kernel_rfl)) rfl ?_
       exact ⟨_, rfl, Kd.S_mono (Kd.S_far (p := ⟨gr, 0, none⟩) (Kd.S_types HS.out HR.out (by decide)) (fun _ h_ => h_.2) _) (fun _ _ => trivial), below_set HL.out HGR.out⟩
def impl_inRange.f (a0 : Int) (a1 : Int) (a2 : Int) : Option (Bool) := if a0 ≥ a1 then (some (decide (a0 ≤ a2))) else (some false)
set_option maxHeartbeats 8000000 in
set_option maxRecDepth 100000 in
theorem impl_inRange.calls (a0 : Int) (a1 : Int) (a2 : Int) (r : Bool) (w : World) (h : impl_inRange.f a0 a1 a2 = some r) :
 Calls Try.prog 40 #[.int .i64 a0, .int .i64 a1, .int .i64 a2] w fun e w' => e = .returned (.bool r) ∧ Drawn0 w w' := by
 have H : (if a0 ≥ a1 then (some (decide (a0 ≤ a2))) else (some false)) = some r := h
 clear h
 by_cases c4 : a0 ≥ a1
 · rw [if_pos c4] at H
   have c4b0 : decide (a1 ≤ a0) = true := decide_eq_true c4
   clear c4
   obtain rfl := Option.some.inj H
   go_enter Try.func40, Try.ntmps40
   go_wp2
   go_ret
   exact ⟨by first | rfl | (simp; done) | (simp [*]; done), by repeat (first | exact Drawn0.refl _ | apply Drawn0.step)⟩
 · rw [if_neg c4] at H
   have c4b0 : decide (a1 ≤ a0) = false := decide_eq_false c4
   clear c4
   obtain rfl := Option.some.inj H
   go_enter Try.func40, Try.ntmps40
   go_wp2
   go_ret
   exact ⟨by first | rfl | (simp; done) | (simp [*]; done), by repeat (first | exact Drawn0.refl _ | apply Drawn0.step)⟩
def impl_Node_mayHold.f (a0_0 : Int) (a0_1 : ByteArray) (l0_2 : List (S98)) (a0_3 : ByteArray) (a0_4 : Int) (l0_5 : List Int) : Option (Bool) := if a0_0 = 1 then (some true) else (some (a0_0 == 3))
set_option maxHeartbeats 8000000 in
set_option maxRecDepth 100000 in
theorem impl_Node_mayHold.calls (a0_0 : Int) (a0_1 : ByteArray) (A0_2 : Option Addr) (c0_2 : Nat) (l0_2 : List (S98)) (a0_3 : ByteArray) (a0_4 : Int) (A0_5 : Option Addr) (c0_5 : Nat) (l0_5 : List Int) (r : Bool) (w : World) (hr0_2 : Kd.C k98 w A0_2 l0_2.length l0_2) (hc0_2 : l0_2.length ≤ c0_2) (hr0_5 : Kd.C (Kd.int .i64) w A0_5 l0_5.length l0_5) (hc0_5 : l0_5.length ≤ c0_5) (h : impl_Node_mayHold.f a0_0 a0_1 l0_2 a0_3 a0_4 l0_5 = some r) :
 Calls Try.prog 82 #[.agg #[.int .i64 a0_0, .string a0_1, .slice A0_2 l0_2.length c0_2, .string a0_3, .int .i64 a0_4, .slice A0_5 l0_5.length c0_5]] w fun e w' => e = .returned (.bool r) ∧ Below w.heap.size w w' := by
 have hu45 := Try.underlying45
 have HR0_2 := Aside0.mk hr0_2
 have HC0_2 := Aside0.mk hc0_2
 clear hr0_2 hc0_2
 have HR0_5 := Aside0.mk hr0_5
 have HC0_5 := Aside0.mk hc0_5
 clear hr0_5 hc0_5
 have HB := Aside0.mk (Below.refl w.heap.size w)
 have H : (if a0_0 = 1 then (some true) else (some (a0_0 == 3))) = some r := h
 clear h
 by_cases c2 : a0_0 = 1
 · rw [if_pos c2] at H
   have c2b0 : (a0_0 == 1) = true := beq_iff_eq.mpr c2
   have c2b1 : (a0_0 != 1) = false := bne_eq_false_iff_eq.mpr c2
   clear c2
   obtain rfl := Option.some.inj H
   go_enter Try.func82, Try.ntmps82
   go_wp2_with (first | ((with_reducible refine gate_dst (N := 1) rfl ?_); refine box_event ?hg (N := 1) ?hd (cs := #[.int .i64 a0_0, .string a0_1, .slice A0_2 l0_2.length c0_2, .string a0_3, .int .i64 a0_4, .slice A0_5 l0_5.length c0_5]) (t := 45) ?hr ?_; (case hd => rfl); (case hg => rfl); (case hr => go_simp); intro gb101 hg w3 hbox hb; have n0_ := Aside0.mk (below_step (HB.out) hb); have n1_ := Aside0.mk (hbox); have n2_ := Aside0.mk ((by rw [hg]; exact (below_size (HB.out)) : w.heap.size ≤ gb101)); have n3_ := n2_; clear HB; have HB := n0_; have BK101 := n1_; have GW101 := n2_; have GE101 := n3_; clear n0_ n1_ n2_ n3_; clear hb hbox hg; have hcz4_0 := blk_cell BK101.out 0; have hcz4_1 := blk_cell BK101.out 1; have hcz4_2 := blk_cell BK101.out 2; have hcz4_3 := blk_cell BK101.out 3; have hcz4_4 := blk_cell BK101.out 4; have hcz4_5 := blk_cell BK101.out 5; have hfz4_0 := blk_frozen BK101.out 0; have hfz4_1 := blk_frozen BK101.out 1; have hfz4_2 := blk_frozen BK101.out 2; have hfz4_3 := blk_frozen BK101.out 3; have hfz4_4 := blk_frozen BK101.out 4; have hfz4_5 := blk_frozen BK101.out 5))
   go_ret
   exact ⟨by first | rfl | (simp [*] <;> rfl), HB.out⟩
 · rw [if_neg c2] at H
   have c2b0 : (a0_0 == 1) = false := beq_eq_false_iff_ne.mpr c2
   have c2b1 : (a0_0 != 1) = true := bne_iff_ne.mpr c2
   obtain rfl := Option.some.inj H
   go_enter Try.func82, Try.ntmps82
   go_wp2_with (first | ((with_reducible refine gate_dst (N := 1) rfl ?_); refine box_event ?hg (N := 1) ?hd (cs := #[.int .i64 a0_0, .string a0_1, .slice A0_2 l0_2.length c0_2, .string a0_3, .int .i64 a0_4, .slice A0_5 l0_5.length c0_5]) (t := 45) ?hr ?_; (case hd => rfl); (case hg => rfl); (case hr => go_simp); intro gb101 hg w5 hbox hb; have n0_ := Aside0.mk (below_step (HB.out) hb); have n1_ := Aside0.mk (hbox); have n2_ := Aside0.mk ((by rw [hg]; exact (below_size (HB.out)) : w.heap.size ≤ gb101)); have n3_ := n2_; clear HB; have HB := n0_; have BK101 := n1_; have GW101 := n2_; have GE101 := n3_; clear n0_ n1_ n2_ n3_; clear hb hbox hg; have hcz6_0 := blk_cell BK101.out 0; have hcz6_1 := blk_cell BK101.out 1; have hcz6_2 := blk_cell BK101.out 2; have hcz6_3 := blk_cell BK101.out 3; have hcz6_4 := blk_cell BK101.out 4; have hcz6_5 := blk_cell BK101.out 5; have hfz6_0 := blk_frozen BK101.out 0; have hfz6_1 := blk_frozen BK101.out 1; have hfz6_2 := blk_frozen BK101.out 2; have hfz6_3 := blk_frozen BK101.out 3; have hfz6_4 := blk_frozen BK101.out 4; have hfz6_5 := blk_frozen BK101.out 5))
   go_ret
   exact ⟨by first | rfl | (simp [*] <;> rfl), HB.out⟩
def bytes_Equal.f (l0 : List Int) (l1 : List Int) : Option (Bool) := some ((strOfNums l0).toList == (strOfNums l1).toList)
set_option maxHeartbeats 8000000 in
set_option maxRecDepth 100000 in
theorem bytes_Equal.calls (A0 : Option Addr) (c0 : Nat) (l0 : List Int) (A1 : Option Addr) (c1 : Nat) (l1 : List Int) (r : Bool) (w : World) (hr0 : Kd.C (Kd.int .u8) w A0 l0.length l0) (hc0 : l0.length ≤ c0) (hr1 : Kd.C (Kd.int .u8) w A1 l1.length l1) (hc1 : l1.length ≤ c1) (h : bytes_Equal.f l0 l1 = some r) :
 Calls Try.prog 129 #[.slice A0 l0.length c0, .slice A1 l1.length c1] w fun e w' => e = .returned (.bool r) ∧ Drawn0 w w' := by
 have HR0 := Aside0.mk hr0
 have HC0 := Aside0.mk hc0
 clear hr0 hc0
 have HR1 := Aside0.mk hr1
 have HC1 := Aside0.mk hc1
 clear hr1 hc1
 have H : (some ((strOfNums l0).toList == (strOfNums l1).toList)) = some r := h
 clear h
 obtain rfl := Option.some.inj H
 have hcv3 := Kd.C_string (P := Try.prog) (A := A0) (c := c0) Try.underlying52 Try.underlying5 Try.underlying9 HR0.out
 have hcvn3 := fun n_ => Kd.C_string (P := Try.prog) (A := A0) (c := c0) Try.underlying52 Try.underlying5 Try.underlying9 (Kd.C_drewN (HR0.out) n_)
 have hcv4 := Kd.C_string (P := Try.prog) (A := A1) (c := c1) Try.underlying52 Try.underlying5 Try.underlying9 HR1.out
 have hcvn4 := fun n_ => Kd.C_string (P := Try.prog) (A := A1) (c := c1) Try.underlying52 Try.underlying5 Try.underlying9 (Kd.C_drewN (HR1.out) n_)
 go_enter Try.func129, Try.ntmps129
 go_wp2
 go_ret
 exact ⟨by first | rfl | (simp; done) | (simp [*]; done), by repeat (first | exact Drawn0.refl _ | apply Drawn0.step)⟩
def impl_PointOk.f (a0 : Int) : Option (Bool) := (impl_inRange.f a0 0 1114111).bind fun t101 => (if t101 = true then ((impl_inRange.f a0 55296 57343).bind fun t102 => (some (!t102))) else (some false))
set_option maxHeartbeats 8000000 in
set_option maxRecDepth 100000 in
theorem impl_PointOk.calls (a0 : Int) (r : Bool) (w : World) (h : impl_PointOk.f a0 = some r) :
 Calls Try.prog 146 #[.int .i64 a0] w fun e w' => e = .returned (.bool r) ∧ Drawn0 w w' := by
 have H : ((impl_inRange.f a0 0 1114111).bind fun t101 => (if t101 = true then ((impl_inRange.f a0 55296 57343).bind fun t102 => (some (!t102))) else (some false))) = some r := h
 clear h
 replace H := Option.bind_eq_some_iff.mp H
 obtain ⟨t101, A20, H⟩ := H
 replace H : (if t101 = true then ((impl_inRange.f a0 55296 57343).bind fun t102 => (some (!t102))) else (some false)) = some r := H
 have A2 := Aside0.mk A20
 clear A20
 by_cases c3 : t101 = true
 · subst c3
   rw [if_pos rfl] at H
   replace H := Option.bind_eq_some_iff.mp H
   obtain ⟨t102, A40, H⟩ := H
   replace H : (some (!t102)) = some r := H
   have A4 := Aside0.mk A40
   clear A40
   obtain rfl := Option.some.inj H
   go_enter Try.func146, Try.ntmps146
   go_wp2_with (first | ((with_reducible refine gate_callee (f := 40) rfl ?_); refine goesL_ (some 4) rfl rfl Try.func40 (by kernel_rfl) rfl #[.int .i64 a0, .int .i64 0, .int .i64 1114111] rfl (by (try simp only [List.map_toArray, List.map_cons, List.map_nil]); first | done | rfl | (simp only [List.length_drop, List.length_take]; rfl)) ?_; (with_reducible refine (impl_inRange.calls a0 0 1114111 true _ A2.out).mono ?_); rintro e w' ⟨rfl, ⟨nd, rfl⟩⟩; refine ⟨_, rfl, ?_⟩) | (go_at_call 40; (with_reducible refine (impl_inRange.calls a0 55296 57343 t102 _ A4.out).mono ?_); rintro e w' ⟨rfl, ⟨nd, rfl⟩⟩))
   go_ret
   exact ⟨by first | rfl | (simp; done) | (simp [*]; done), by repeat (first | exact Drawn0.refl _ | apply Drawn0.step)⟩
 · replace c3 := Bool.eq_false_iff.mpr c3
   subst c3
   rw [if_neg (show ¬ (false = true) by decide)] at H
   obtain rfl := Option.some.inj H
   go_enter Try.func146, Try.ntmps146
   go_wp2_with (first | ((with_reducible refine gate_callee (f := 40) rfl ?_); refine goesL_ (some 4) rfl rfl Try.func40 (by kernel_rfl) rfl #[.int .i64 a0, .int .i64 0, .int .i64 1114111] rfl (by (try simp only [List.map_toArray, List.map_cons, List.map_nil]); first | done | rfl | (simp only [List.length_drop, List.length_take]; rfl)) ?_; (with_reducible refine (impl_inRange.calls a0 0 1114111 false _ A2.out).mono ?_); rintro e w' ⟨rfl, ⟨nd, rfl⟩⟩; refine ⟨_, rfl, ?_⟩))
   go_ret
   exact ⟨by first | rfl | (simp; done) | (simp [*]; done), by repeat (first | exact Drawn0.refl _ | apply Drawn0.step)⟩
def impl_putPoint.f : Nat → List Int → Int → Option (List Int)
 | 0, _, _ => none
 | k + 1, l0, a1 => (impl_PointOk.f a1).bind fun t101 => (if t101 = true then (if a1 < 128 then (if l0.length < 140737488355328 then (some (l0 ++ [(a1) % 256])) else (none)) else (if a1 < 2048 then ((some (([(Go.bits .or .i64 192 (a1 / 64)) % 256, (Go.bits .or .i64 128 (Go.bits .and .i64 a1 63)) % 256] : List Int) : List Int)).bind fun y105 => (if l0.length + y105.length < 140737488355328 then (some (l0 ++ y105)) else (none))) else (if a1 < 65536 then ((some (([(Go.bits .or .i64 224 (a1 / 4096)) % 256, (Go.bits .or .i64 128 (Go.bits .and .i64 (a1 / 64) 63)) % 256, (Go.bits .or .i64 128 (Go.bits .and .i64 a1 63)) % 256] : List Int) : List Int)).bind fun y111 => (if l0.length + y111.length < 140737488355328 then (some (l0 ++ y111)) else (none))) else ((some (([(Go.bits .or .i64 240 (a1 / 262144)) % 256, (Go.bits .or .i64 128 (Go.bits .and .i64 (a1 / 4096) 63)) % 256, (Go.bits .or .i64 128 (Go.bits .and .i64 (a1 / 64) 63)) % 256, (Go.bits .or .i64 128 (Go.bits .and .i64 a1 63)) % 256] : List Int) : List Int)).bind fun y117 => (if l0.length + y117.length < 140737488355328 then (some (l0 ++ y117)) else (none)))))) else ((impl_putPoint.f k l0 65533).bind fun t123 => (some t123)))
theorem impl_putPoint.mono_l : ∀ k, (∀ y0 y1, LeO (impl_putPoint.f k y0 y1) (impl_putPoint.f (k + 1) y0 y1))
 | 0 => fun _ _ r h => by simp [impl_putPoint.f] at h
 | k + 1 => by
  have ih0 := impl_putPoint.mono_l k
  · intro y0 y1
    unfold impl_putPoint.f
    repeat' first
    | (with_reducible exact ih0 _ _)
    | (with_reducible exact LeO.refl _)
    | (with_reducible exact LeO.none _)
    | (with_reducible refine LeO.ite ?_ ?_)
    | (with_reducible refine LeO.bind ?_ (fun _ => ?_))
    | exact ih0 _ _
    | exact LeO.none _
    | refine LeO.ite ?_ ?_
    | refine LeO.bind ?_ (fun _ => ?_)
theorem impl_putPoint.mono : ∀ a0 a1 k, LeO (impl_putPoint.f k a0 a1) (impl_putPoint.f (k + 1) a0 a1) := by
 intro a0 a1 k
 have ih0 := impl_putPoint.mono_l k
 exact ih0 a0 a1
set_option maxHeartbeats 8000000 in
set_option maxRecDepth 100000 in
theorem impl_putPoint.calls (k : Nat) : ∀ (P0_ : Nat → Prop) (u9000_ : Value) (l0 : List Int) (a1 : Int) (r : List Int) (w0 w : World) (hB : Below w0.heap.size w0 w) (ho0 : Kd.R (Kd.int .u8) 5 w w0.heap.size P0_ u9000_ l0) (h : impl_putPoint.f k l0 a1 = some r),
 Calls Try.prog 139 #[u9000_, .int .i64 a1] w fun e w' => ∃ v0_ : Value, e = .returned (v0_) ∧ Kd.R (Kd.int .u8) 5 w' w0.heap.size (fun k_ => (P0_ k_ ∨ w.heap.size ≤ k_)) v0_ r ∧ Below w0.heap.size w0 w' ∧ Kept w w' (fun k_ => P0_ k_) := by
 induction k using Nat.strongRecOn with
 | _ k ih =>
 intro P0_ u9000_ l0 a1 r w0 w hB ho0 h
 cases k with
 | zero => exact absurd h (by simp [impl_putPoint.f])
 | succ k =>
 simp only [impl_putPoint.f] at h
 have HO0 := Aside0.mk (show Kd.R (Kd.int .u8) 5 w w0.heap.size (fun k_ => (P0_ k_ ∨ w.heap.size ≤ k_)) u9000_ l0 from Kd.R_mono ho0 (fun k_ hk => (.inl hk)))
 have HK := Aside0.mk (Kept.refl w (fun k_ => P0_ k_))
 have HW0 := Aside0.mk hB.size
 have HB := Aside0.mk hB
 clear hB
 have H : ((impl_PointOk.f a1).bind fun t101 => (if t101 = true then (if a1 < 128 then (if l0.length < 140737488355328 then (some (l0 ++ [(a1) % 256])) else (none)) else (if a1 < 2048 then ((some (([(Go.bits .or .i64 192 (a1 / 64)) % 256, (Go.bits .or .i64 128 (Go.bits .and .i64 a1 63)) % 256] : List Int) : List Int)).bind fun y105 => (if l0.length + y105.length < 140737488355328 then (some (l0 ++ y105)) else (none))) else (if a1 < 65536 then ((some (([(Go.bits .or .i64 224 (a1 / 4096)) % 256, (Go.bits .or .i64 128 (Go.bits .and .i64 (a1 / 64) 63)) % 256, (Go.bits .or .i64 128 (Go.bits .and .i64 a1 63)) % 256] : List Int) : List Int)).bind fun y111 => (if l0.length + y111.length < 140737488355328 then (some (l0 ++ y111)) else (none))) else ((some (([(Go.bits .or .i64 240 (a1 / 262144)) % 256, (Go.bits .or .i64 128 (Go.bits .and .i64 (a1 / 4096) 63)) % 256, (Go.bits .or .i64 128 (Go.bits .and .i64 (a1 / 64) 63)) % 256, (Go.bits .or .i64 128 (Go.bits .and .i64 a1 63)) % 256] : List Int) : List Int)).bind fun y117 => (if l0.length + y117.length < 140737488355328 then (some (l0 ++ y117)) else (none)))))) else ((impl_putPoint.f k l0 65533).bind fun t123 => (some t123)))) = some r := h
 clear h
 replace H := Option.bind_eq_some_iff.mp H
 obtain ⟨t101, A30, H⟩ := H
 replace H : (if t101 = true then (if a1 < 128 then (if l0.length < 140737488355328 then (some (l0 ++ [(a1) % 256])) else (none)) else (if a1 < 2048 then ((some (([(Go.bits .or .i64 192 (a1 / 64)) % 256, (Go.bits .or .i64 128 (Go.bits .and .i64 a1 63)) % 256] : List Int) : List Int)).bind fun y105 => (if l0.length + y105.length < 140737488355328 then (some (l0 ++ y105)) else (none))) else (if a1 < 65536 then ((some (([(Go.bits .or .i64 224 (a1 / 4096)) % 256, (Go.bits .or .i64 128 (Go.bits .and .i64 (a1 / 64) 63)) % 256, (Go.bits .or .i64 128 (Go.bits .and .i64 a1 63)) % 256] : List Int) : List Int)).bind fun y111 => (if l0.length + y111.length < 140737488355328 then (some (l0 ++ y111)) else (none))) else ((some (([(Go.bits .or .i64 240 (a1 / 262144)) % 256, (Go.bits .or .i64 128 (Go.bits .and .i64 (a1 / 4096) 63)) % 256, (Go.bits .or .i64 128 (Go.bits .and .i64 (a1 / 64) 63)) % 256, (Go.bits .or .i64 128 (Go.bits .and .i64 a1 63)) % 256] : List Int) : List Int)).bind fun y117 => (if l0.length + y117.length < 140737488355328 then (some (l0 ++ y117)) else (none)))))) else ((impl_putPoint.f k l0 65533).bind fun t123 => (some t123))) = some r := H
 have A3 := Aside0.mk A30
 clear A30
 by_cases c4 : t101 = true
 · subst c4
   rw [if_pos rfl] at H
   by_cases c5 : a1 < 128
   · rw [if_pos c5] at H
     have c5b0 : decide (a1 < 128) = true := decide_eq_true c5
     clear c5
     by_cases c6 : l0.length < 140737488355328
     · rw [if_pos c6] at H
       have LMc6 := Aside0.mk c6
       clear c6
       obtain ⟨y102, hy102⟩ : ∃ y_ : List Int, y_ = (l0 ++ [(a1) % 256]) := ⟨_, rfl⟩
       replace H : (some y102) = some r := by first | (rw [hy102]; with_reducible exact H) | (have H2_ := (Option.bind_some _ _).symm.trans H; rw [hy102]; with_reducible exact H2_) | (have H2_ := (Option.bind_some _ _).symm.trans H; with_reducible exact H2_) | with_reducible exact H | (rw [hy102]; exact H) | exact H
       have Ny102 := Aside0.mk hy102
       clear hy102
       obtain rfl := Option.some.inj H
       go_enter Try.func139, Try.ntmps139
       go_wp2_with (first | ((with_reducible refine gate_callee (f := 146) rfl ?_); refine goesL_ (some 7) rfl rfl Try.func146 (by kernel_rfl) rfl #[.int .i64 a1] rfl (by (try simp only [List.map_toArray, List.map_cons, List.map_nil]); first | done | rfl | (simp only [List.length_drop, List.length_take]; rfl)) ?_; (with_reducible refine (impl_PointOk.calls a1 true _ A3.out).mono ?_); rintro e w' ⟨rfl, ⟨nd, rfl⟩⟩; refine ⟨_, rfl, ?_⟩) | ((with_reducible refine gate_builtin (b := .append) (xs := #[.tmp 14, .tmp 17]) rfl ?_); at_builtin; refine Kd.R_append (Kd.int .u8) (w0 := w0) w0.heap.size rfl (.tmp 14) (.tmp 17) 52 5 (.int .u8 0) 1 rfl Try.underlying52 info5 rfl (by decide) (by omega) u9000_ l0 ((a1) % 256) [.int .u8 ((a1) % 256)] (fun k_ => (P0_ k_ ∨ w.heap.size ≤ k_)) (fun _ => False) rfl rfl ?aP (fun _ hk => hk.elim) ?aF ?aO ?aB ?aS ?aL ?_; (case aP => exact rfl); (case aB => exact (by repeat (first | exact HB.out | apply below_alloc | apply pw_below_drewN | apply below_drew1))); (case aF => exact (fun k_ hk => (.inr (Nat.le_trans (by first | exact HK.out.1 | exact (show Kept w _ (fun k_ => P0_ k_) from by repeat (first | exact HK.out | apply Kept.alloc | apply Kept.drewN | apply Kept.drew)).1) hk)))); (case aO => exact (by (with_reducible repeat (first | apply Kd.R_alloc | apply Kd.R_drewN | apply Kd.R_drew)); exact HO0.out)); (case aS => exact (below_size (by repeat (first | exact HB.out | apply below_alloc | apply pw_below_drewN | apply below_drew1)))); (case aL => have := LMc6.out; omega); intro v103 w7 ho hb hg hat; rw [← Ny102.out] at ho; have n0_ := Aside0.mk (hb); have n1_ := Aside0.mk (Kept.of_grown (S := (fun k_ => P0_ k_)) hg (by repeat (first | exact HK.out | apply Kept.alloc | apply Kept.drewN | apply Kept.drew)) (fun k_ e_ => (HO0.out.1 k_ e_))); have n2_ := Aside0.mk (ho); clear HB; clear HK; clear HO0; have HB := n0_; have HK := n1_; have HO104 := n2_; clear n0_ n1_ n2_; clear ho hb hg hat))
       go_ret
       exact ⟨_, by first | rfl | (simp [*] <;> rfl), by (with_reducible repeat (first | apply Kd.R_alloc | apply Kd.R_drewN | apply Kd.R_drew)); exact HO104.out, by repeat (first | exact HB.out | apply below_alloc | apply pw_below_drewN | apply below_drew1), by repeat (first | exact HK.out | apply Kept.alloc | apply Kept.drewN | apply Kept.drew)⟩
     · rw [if_neg c6] at H
       exact absurd H (by simp)
   · rw [if_neg c5] at H
     have c5b0 : decide (a1 < 128) = false := decide_eq_false c5
     clear c5
     by_cases c8 : a1 < 2048
     · rw [if_pos c8] at H
       have c8b0 : decide (a1 < 2048) = true := decide_eq_true c8
       clear c8
       obtain ⟨y105, hy105⟩ : ∃ y_ : List Int, y_ = (([(Go.bits .or .i64 192 (a1 / 64)) % 256, (Go.bits .or .i64 128 (Go.bits .and .i64 a1 63)) % 256] : List Int)) := ⟨_, rfl⟩
       replace H : (if l0.length + y105.length < 140737488355328 then (some (l0 ++ y105)) else (none)) = some r := by first | (rw [hy105]; with_reducible exact H) | (have H2_ := (Option.bind_some _ _).symm.trans H; rw [hy105]; with_reducible exact H2_) | (have H2_ := (Option.bind_some _ _).symm.trans H; with_reducible exact H2_) | with_reducible exact H | (rw [hy105]; exact H) | exact H
       have Ny105 := Aside0.mk hy105
       clear hy105
       by_cases c9 : l0.length + y105.length < 140737488355328
       · rw [if_pos c9] at H
         have LMc9 := Aside0.mk c9
         clear c9
         obtain ⟨y108, hy108⟩ : ∃ y_ : List Int, y_ = (l0 ++ y105) := ⟨_, rfl⟩
         replace H : (some y108) = some r := by first | (rw [hy108]; with_reducible exact H) | (have H2_ := (Option.bind_some _ _).symm.trans H; rw [hy108]; with_reducible exact H2_) | (have H2_ := (Option.bind_some _ _).symm.trans H; with_reducible exact H2_) | with_reducible exact H | (rw [hy108]; exact H) | exact H
         have Ny108 := Aside0.mk hy108
         clear hy108
         obtain rfl := Option.some.inj H
         go_enter Try.func139, Try.ntmps139
         go_wp2_with (first | ((with_reducible refine gate_callee (f := 146) rfl ?_); refine goesL_ (some 7) rfl rfl Try.func146 (by kernel_rfl) rfl #[.int .i64 a1] rfl (by (try simp only [List.map_toArray, List.map_cons, List.map_nil]); first | done | rfl | (simp only [List.length_drop, List.length_take]; rfl)) ?_; (with_reducible refine (impl_PointOk.calls a1 true _ A3.out).mono ?_); rintro e w' ⟨rfl, ⟨nd, rfl⟩⟩; refine ⟨_, rfl, ?_⟩) | ((with_reducible refine gate_dst (N := 31) rfl ?_); refine Kd.R_lit (Kd.int .u8) _ 5 ?hg (N := 31) ?hd (xs := ([(Go.bits .or .i64 192 (a1 / 64)) % 256, (Go.bits .or .i64 128 (Go.bits .and .i64 a1 63)) % 256] : List Int)) (inner := [.int .u8 ((Go.bits .or .i64 192 (a1 / 64)) % 256), .int .u8 ((Go.bits .or .i64 128 (Go.bits .and .i64 a1 63)) % 256)]) (ok := fun _ => True) (okp := fun _ => True) ?hr ?hp (fun _ hk => hk) trivial (Below.refl _ _) (Nat.le_refl _) (by simp) ?_; (case hd => rfl); (case hg => rfl); (case hr => go_simp); (case hp => exact (Reps.one (show Kd.M (Kd.int .u8) _ _ _ ((Go.bits .or .i64 192 (a1 / 64)) % 256) [.int .u8 ((Go.bits .or .i64 192 (a1 / 64)) % 256)] from rfl) (Reps.one (show Kd.M (Kd.int .u8) _ _ _ ((Go.bits .or .i64 128 (Go.bits .and .i64 a1 63)) % 256) [.int .u8 ((Go.bits .or .i64 128 (Go.bits .and .i64 a1 63)) % 256)] from rfl) (Reps.none _ _)))); intro v106 w10 ho11 hb hg_ hnew_; clear hg_ hnew_; (first | rw [← Ny105.out] at ho11 | (simp only [Int.reduceToNat] at ho11; rw [← Ny105.out] at ho11)); have n0_ := Aside0.mk (Kd.R_elder' (by (with_reducible repeat (first | apply Kd.R_alloc | apply Kd.R_drewN | apply Kd.R_drew)); exact HO0.out) (Kd.R_base ho11) hb); have n1_ := Aside0.mk (Kd.R_lower (Kd.R_new' (Kd.R_newM (M := fun k_ => (P0_ k_ ∨ w.heap.size ≤ k_)) ho11 (by first | exact HK.out.1 | exact (show Kept w _ (fun k_ => P0_ k_) from by repeat (first | exact HK.out | apply Kept.alloc | apply Kept.drewN | apply Kept.drew)).1) (fun k_ h_ => .inr h_)) (Kd.R_lt (by (with_reducible repeat (first | apply Kd.R_alloc | apply Kd.R_drewN | apply Kd.R_drew)); exact HO0.out))) (below_size (by repeat (first | exact HB.out | apply below_alloc | apply pw_below_drewN | apply below_drew1)))); have n2_ := Aside0.mk (Kept.below (S := (fun k_ => P0_ k_)) (by repeat (first | exact HK.out | apply Kept.alloc | apply Kept.drewN | apply Kept.drew)) hb); have n3_ := Aside0.mk (below_step (by repeat (first | exact HB.out | apply below_alloc | apply pw_below_drewN | apply below_drew1)) hb); clear HO0; clear HK; clear HB; have HO0 := n0_; have HO107 := n1_; have HK := n2_; have HB := n3_; clear n0_ n1_ n2_ n3_; clear hb ho11; obtain ⟨Ao13, co13, eo13⟩ := Kd.R_slice HO107.out; subst eo13) | ((with_reducible refine gate_builtin (b := .append) (xs := #[.tmp 22, .tmp 31]) rfl ?_); at_builtin; refine Kd.R_append_rows (Kd.int .u8) (w0 := w0) w0.heap.size rfl (.tmp 22) (.tmp 31) 52 5 (.int .u8 0) 1 rfl Try.underlying52 info5 rfl (by decide) (by omega) u9000_ l0 y105 _ _ _ (fun k_ => (P0_ k_ ∨ w.heap.size ≤ k_) ∧ some k_ ≠ (.slice Ao13 y105.length co13 : Value).ownBlock) (fun _ => False) rfl rfl ?aO ?aR (fun _ _ h => h) (fun _ h => h.elim) ?aF ?aB ?aS ?aL ?_; (case aR => repeat (first | exact (Kd.R_reads' HO107.out).2.2 | (with_reducible refine Kd.C_alloc ?_ _) | (with_reducible refine Kd.C_drewN ?_ _) | (with_reducible refine Kd.C_drew ?_))); (case aB => exact (by repeat (first | exact HB.out | apply below_alloc | apply pw_below_drewN | apply below_drew1))); (case aF => exact (fun k_ hk => ⟨(.inr (Nat.le_trans (by first | exact HK.out.1 | exact (show Kept w _ (fun k_ => P0_ k_) from by repeat (first | exact HK.out | apply Kept.alloc | apply Kept.drewN | apply Kept.drew)).1) hk)), Kd.fresh' (Kd.R_lt (by (with_reducible repeat (first | apply Kd.R_alloc | apply Kd.R_drewN | apply Kd.R_drew)); exact HO107.out)) k_ hk⟩)); (case aO => exact (by (with_reducible repeat (first | apply Kd.R_alloc | apply Kd.R_drewN | apply Kd.R_drew)); exact HO0.out)); (case aS => exact (below_size (by repeat (first | exact HB.out | apply below_alloc | apply pw_below_drewN | apply below_drew1)))); (case aL => have := LMc9.out; omega); intro v109 w12 ho hb hg hat; rw [← Ny108.out] at ho; have n0_ := Aside0.mk (Kd.R_after (ok := (fun k_ => (P0_ k_ ∨ w.heap.size ≤ k_))) (by (with_reducible repeat (first | apply Kd.R_alloc | apply Kd.R_drewN | apply Kd.R_drew)); exact Kd.R_mono HO107.out (fun _ hk => ⟨hk.1.1, hk.2⟩)) hg hat); have n1_ := Aside0.mk (hb); have n2_ := Aside0.mk (Kept.of_grown (S := (fun k_ => P0_ k_)) hg (by repeat (first | exact HK.out | apply Kept.alloc | apply Kept.drewN | apply Kept.drew)) (fun k_ e_ => (HO0.out.1 k_ e_).1)); have n3_ := Aside0.mk (ho); clear HO107; clear HB; clear HK; clear HO0; have HO107 := n0_; have HB := n1_; have HK := n2_; have HO110 := n3_; clear n0_ n1_ n2_ n3_; clear ho hb hg hat))
         go_ret
         exact ⟨_, by first | rfl | (simp [*] <;> rfl), by (with_reducible repeat (first | apply Kd.R_alloc | apply Kd.R_drewN | apply Kd.R_drew)); exact Kd.R_mono HO110.out (fun _ hk => hk.1), by repeat (first | exact HB.out | apply below_alloc | apply pw_below_drewN | apply below_drew1), by repeat (first | exact HK.out | apply Kept.alloc | apply Kept.drewN | apply Kept.drew)⟩
       · rw [if_neg c9] at H
         exact absurd H (by simp)
     · rw [if_neg c8] at H
       have c8b0 : decide (a1 < 2048) = false := decide_eq_false c8
       clear c8
       by_cases c14 : a1 < 65536
       · rw [if_pos c14] at H
         have c14b0 : decide (a1 < 65536) = true := decide_eq_true c14
         clear c14
         obtain ⟨y111, hy111⟩ : ∃ y_ : List Int, y_ = (([(Go.bits .or .i64 224 (a1 / 4096)) % 256, (Go.bits .or .i64 128 (Go.bits .and .i64 (a1 / 64) 63)) % 256, (Go.bits .or .i64 128 (Go.bits .and .i64 a1 63)) % 256] : List Int)) := ⟨_, rfl⟩
         replace H : (if l0.length + y111.length < 140737488355328 then (some (l0 ++ y111)) else (none)) = some r := by first | (rw [hy111]; with_reducible exact H) | (have H2_ := (Option.bind_some _ _).symm.trans H; rw [hy111]; with_reducible exact H2_) | (have H2_ := (Option.bind_some _ _).symm.trans H; with_reducible exact H2_) | with_reducible exact H | (rw [hy111]; exact H) | exact H
         have Ny111 := Aside0.mk hy111
         clear hy111
         by_cases c15 : l0.length + y111.length < 140737488355328
         · rw [if_pos c15] at H
           have LMc15 := Aside0.mk c15
           clear c15
           obtain ⟨y114, hy114⟩ : ∃ y_ : List Int, y_ = (l0 ++ y111) := ⟨_, rfl⟩
           replace H : (some y114) = some r := by first | (rw [hy114]; with_reducible exact H) | (have H2_ := (Option.bind_some _ _).symm.trans H; rw [hy114]; with_reducible exact H2_) | (have H2_ := (Option.bind_some _ _).symm.trans H; with_reducible exact H2_) | with_reducible exact H | (rw [hy114]; exact H) | exact H
           have Ny114 := Aside0.mk hy114
           clear hy114
           obtain rfl := Option.some.inj H
           go_enter Try.func139, Try.ntmps139
           go_wp2_with (first | ((with_reducible refine gate_callee (f := 146) rfl ?_); refine goesL_ (some 7) rfl rfl Try.func146 (by kernel_rfl) rfl #[.int .i64 a1] rfl (by (try simp only [List.map_toArray, List.map_cons, List.map_nil]); first | done | rfl | (simp only [List.length_drop, List.length_take]; rfl)) ?_; (with_reducible refine (impl_PointOk.calls a1 true _ A3.out).mono ?_); rintro e w' ⟨rfl, ⟨nd, rfl⟩⟩; refine ⟨_, rfl, ?_⟩) | ((with_reducible refine gate_dst (N := 50) rfl ?_); refine Kd.R_lit (Kd.int .u8) _ 5 ?hg (N := 50) ?hd (xs := ([(Go.bits .or .i64 224 (a1 / 4096)) % 256, (Go.bits .or .i64 128 (Go.bits .and .i64 (a1 / 64) 63)) % 256, (Go.bits .or .i64 128 (Go.bits .and .i64 a1 63)) % 256] : List Int)) (inner := [.int .u8 ((Go.bits .or .i64 224 (a1 / 4096)) % 256), .int .u8 ((Go.bits .or .i64 128 (Go.bits .and .i64 (a1 / 64) 63)) % 256), .int .u8 ((Go.bits .or .i64 128 (Go.bits .and .i64 a1 63)) % 256)]) (ok := fun _ => True) (okp := fun _ => True) ?hr ?hp (fun _ hk => hk) trivial (Below.refl _ _) (Nat.le_refl _) (by simp) ?_; (case hd => rfl); (case hg => rfl); (case hr => go_simp); (case hp => exact (Reps.one (show Kd.M (Kd.int .u8) _ _ _ ((Go.bits .or .i64 224 (a1 / 4096)) % 256) [.int .u8 ((Go.bits .or .i64 224 (a1 / 4096)) % 256)] from rfl) (Reps.one (show Kd.M (Kd.int .u8) _ _ _ ((Go.bits .or .i64 128 (Go.bits .and .i64 (a1 / 64) 63)) % 256) [.int .u8 ((Go.bits .or .i64 128 (Go.bits .and .i64 (a1 / 64) 63)) % 256)] from rfl) (Reps.one (show Kd.M (Kd.int .u8) _ _ _ ((Go.bits .or .i64 128 (Go.bits .and .i64 a1 63)) % 256) [.int .u8 ((Go.bits .or .i64 128 (Go.bits .and .i64 a1 63)) % 256)] from rfl) (Reps.none _ _))))); intro v112 w16 ho17 hb hg_ hnew_; clear hg_ hnew_; (first | rw [← Ny111.out] at ho17 | (simp only [Int.reduceToNat] at ho17; rw [← Ny111.out] at ho17)); have n0_ := Aside0.mk (Kd.R_elder' (by (with_reducible repeat (first | apply Kd.R_alloc | apply Kd.R_drewN | apply Kd.R_drew)); exact HO0.out) (Kd.R_base ho17) hb); have n1_ := Aside0.mk (Kd.R_lower (Kd.R_new' (Kd.R_newM (M := fun k_ => (P0_ k_ ∨ w.heap.size ≤ k_)) ho17 (by first | exact HK.out.1 | exact (show Kept w _ (fun k_ => P0_ k_) from by repeat (first | exact HK.out | apply Kept.alloc | apply Kept.drewN | apply Kept.drew)).1) (fun k_ h_ => .inr h_)) (Kd.R_lt (by (with_reducible repeat (first | apply Kd.R_alloc | apply Kd.R_drewN | apply Kd.R_drew)); exact HO0.out))) (below_size (by repeat (first | exact HB.out | apply below_alloc | apply pw_below_drewN | apply below_drew1)))); have n2_ := Aside0.mk (Kept.below (S := (fun k_ => P0_ k_)) (by repeat (first | exact HK.out | apply Kept.alloc | apply Kept.drewN | apply Kept.drew)) hb); have n3_ := Aside0.mk (below_step (by repeat (first | exact HB.out | apply below_alloc | apply pw_below_drewN | apply below_drew1)) hb); clear HO0; clear HK; clear HB; have HO0 := n0_; have HO113 := n1_; have HK := n2_; have HB := n3_; clear n0_ n1_ n2_ n3_; clear hb ho17; obtain ⟨Ao19, co19, eo19⟩ := Kd.R_slice HO113.out; subst eo19) | ((with_reducible refine gate_builtin (b := .append) (xs := #[.tmp 36, .tmp 50]) rfl ?_); at_builtin; refine Kd.R_append_rows (Kd.int .u8) (w0 := w0) w0.heap.size rfl (.tmp 36) (.tmp 50) 52 5 (.int .u8 0) 1 rfl Try.underlying52 info5 rfl (by decide) (by omega) u9000_ l0 y111 _ _ _ (fun k_ => (P0_ k_ ∨ w.heap.size ≤ k_) ∧ some k_ ≠ (.slice Ao19 y111.length co19 : Value).ownBlock) (fun _ => False) rfl rfl ?aO ?aR (fun _ _ h => h) (fun _ h => h.elim) ?aF ?aB ?aS ?aL ?_; (case aR => repeat (first | exact (Kd.R_reads' HO113.out).2.2 | (with_reducible refine Kd.C_alloc ?_ _) | (with_reducible refine Kd.C_drewN ?_ _) | (with_reducible refine Kd.C_drew ?_))); (case aB => exact (by repeat (first | exact HB.out | apply below_alloc | apply pw_below_drewN | apply below_drew1))); (case aF => exact (fun k_ hk => ⟨(.inr (Nat.le_trans (by first | exact HK.out.1 | exact (show Kept w _ (fun k_ => P0_ k_) from by repeat (first | exact HK.out | apply Kept.alloc | apply Kept.drewN | apply Kept.drew)).1) hk)), Kd.fresh' (Kd.R_lt (by (with_reducible repeat (first | apply Kd.R_alloc | apply Kd.R_drewN | apply Kd.R_drew)); exact HO113.out)) k_ hk⟩)); (case aO => exact (by (with_reducible repeat (first | apply Kd.R_alloc | apply Kd.R_drewN | apply Kd.R_drew)); exact HO0.out)); (case aS => exact (below_size (by repeat (first | exact HB.out | apply below_alloc | apply pw_below_drewN | apply below_drew1)))); (case aL => have := LMc15.out; omega); intro v115 w18 ho hb hg hat; rw [← Ny114.out] at ho; have n0_ := Aside0.mk (Kd.R_after (ok := (fun k_ => (P0_ k_ ∨ w.heap.size ≤ k_))) (by (with_reducible repeat (first | apply Kd.R_alloc | apply Kd.R_drewN | apply Kd.R_drew)); exact Kd.R_mono HO113.out (fun _ hk => ⟨hk.1.1, hk.2⟩)) hg hat); have n1_ := Aside0.mk (hb); have n2_ := Aside0.mk (Kept.of_grown (S := (fun k_ => P0_ k_)) hg (by repeat (first | exact HK.out | apply Kept.alloc | apply Kept.drewN | apply Kept.drew)) (fun k_ e_ => (HO0.out.1 k_ e_).1)); have n3_ := Aside0.mk (ho); clear HO113; clear HB; clear HK; clear HO0; have HO113 := n0_; have HB := n1_; have HK := n2_; have HO116 := n3_; clear n0_ n1_ n2_ n3_; clear ho hb hg hat))
           go_ret
           exact ⟨_, by first | rfl | (simp [*] <;> rfl), by (with_reducible repeat (first | apply Kd.R_alloc | apply Kd.R_drewN | apply Kd.R_drew)); exact Kd.R_mono HO116.out (fun _ hk => hk.1), by repeat (first | exact HB.out | apply below_alloc | apply pw_below_drewN | apply below_drew1), by repeat (first | exact HK.out | apply Kept.alloc | apply Kept.drewN | apply Kept.drew)⟩
         · rw [if_neg c15] at H
           exact absurd H (by simp)
       · rw [if_neg c14] at H
         have c14b0 : decide (a1 < 65536) = false := decide_eq_false c14
         clear c14
         obtain ⟨y117, hy117⟩ : ∃ y_ : List Int, y_ = (([(Go.bits .or .i64 240 (a1 / 262144)) % 256, (Go.bits .or .i64 128 (Go.bits .and .i64 (a1 / 4096) 63)) % 256, (Go.bits .or .i64 128 (Go.bits .and .i64 (a1 / 64) 63)) % 256, (Go.bits .or .i64 128 (Go.bits .and .i64 a1 63)) % 256] : List Int)) := ⟨_, rfl⟩
         replace H : (if l0.length + y117.length < 140737488355328 then (some (l0 ++ y117)) else (none)) = some r := by first | (rw [hy117]; with_reducible exact H) | (have H2_ := (Option.bind_some _ _).symm.trans H; rw [hy117]; with_reducible exact H2_) | (have H2_ := (Option.bind_some _ _).symm.trans H; with_reducible exact H2_) | with_reducible exact H | (rw [hy117]; exact H) | exact H
         have Ny117 := Aside0.mk hy117
         clear hy117
         by_cases c20 : l0.length + y117.length < 140737488355328
         · rw [if_pos c20] at H
           have LMc20 := Aside0.mk c20
           clear c20
           obtain ⟨y120, hy120⟩ : ∃ y_ : List Int, y_ = (l0 ++ y117) := ⟨_, rfl⟩
           replace H : (some y120) = some r := by first | (rw [hy120]; with_reducible exact H) | (have H2_ := (Option.bind_some _ _).symm.trans H; rw [hy120]; with_reducible exact H2_) | (have H2_ := (Option.bind_some _ _).symm.trans H; with_reducible exact H2_) | with_reducible exact H | (rw [hy120]; exact H) | exact H
           have Ny120 := Aside0.mk hy120
           clear hy120
           obtain rfl := Option.some.inj H
           go_enter Try.func139, Try.ntmps139
           go_wp2_with (first | ((with_reducible refine gate_callee (f := 146) rfl ?_); refine goesL_ (some 7) rfl rfl Try.func146 (by kernel_rfl) rfl #[.int .i64 a1] rfl (by (try simp only [List.map_toArray, List.map_cons, List.map_nil]); first | done | rfl | (simp only [List.length_drop, List.length_take]; rfl)) ?_; (with_reducible refine (impl_PointOk.calls a1 true _ A3.out).mono ?_); rintro e w' ⟨rfl, ⟨nd, rfl⟩⟩; refine ⟨_, rfl, ?_⟩) | ((with_reducible refine gate_dst (N := 71) rfl ?_); refine Kd.R_lit (Kd.int .u8) _ 5 ?hg (N := 71) ?hd (xs := ([(Go.bits .or .i64 240 (a1 / 262144)) % 256, (Go.bits .or .i64 128 (Go.bits .and .i64 (a1 / 4096) 63)) % 256, (Go.bits .or .i64 128 (Go.bits .and .i64 (a1 / 64) 63)) % 256, (Go.bits .or .i64 128 (Go.bits .and .i64 a1 63)) % 256] : List Int)) (inner := [.int .u8 ((Go.bits .or .i64 240 (a1 / 262144)) % 256), .int .u8 ((Go.bits .or .i64 128 (Go.bits .and .i64 (a1 / 4096) 63)) % 256), .int .u8 ((Go.bits .or .i64 128 (Go.bits .and .i64 (a1 / 64) 63)) % 256), .int .u8 ((Go.bits .or .i64 128 (Go.bits .and .i64 a1 63)) % 256)]) (ok := fun _ => True) (okp := fun _ => True) ?hr ?hp (fun _ hk => hk) trivial (Below.refl _ _) (Nat.le_refl _) (by simp) ?_; (case hd => rfl); (case hg => rfl); (case hr => go_simp); (case hp => exact (Reps.one (show Kd.M (Kd.int .u8) _ _ _ ((Go.bits .or .i64 240 (a1 / 262144)) % 256) [.int .u8 ((Go.bits .or .i64 240 (a1 / 262144)) % 256)] from rfl) (Reps.one (show Kd.M (Kd.int .u8) _ _ _ ((Go.bits .or .i64 128 (Go.bits .and .i64 (a1 / 4096) 63)) % 256) [.int .u8 ((Go.bits .or .i64 128 (Go.bits .and .i64 (a1 / 4096) 63)) % 256)] from rfl) (Reps.one (show Kd.M (Kd.int .u8) _ _ _ ((Go.bits .or .i64 128 (Go.bits .and .i64 (a1 / 64) 63)) % 256) [.int .u8 ((Go.bits .or .i64 128 (Go.bits .and .i64 (a1 / 64) 63)) % 256)] from rfl) (Reps.one (show Kd.M (Kd.int .u8) _ _ _ ((Go.bits .or .i64 128 (Go.bits .and .i64 a1 63)) % 256) [.int .u8 ((Go.bits .or .i64 128 (Go.bits .and .i64 a1 63)) % 256)] from rfl) (Reps.none _ _)))))); intro v118 w21 ho22 hb hg_ hnew_; clear hg_ hnew_; (first | rw [← Ny117.out] at ho22 | (simp only [Int.reduceToNat] at ho22; rw [← Ny117.out] at ho22)); have n0_ := Aside0.mk (Kd.R_elder' (by (with_reducible repeat (first | apply Kd.R_alloc | apply Kd.R_drewN | apply Kd.R_drew)); exact HO0.out) (Kd.R_base ho22) hb); have n1_ := Aside0.mk (Kd.R_lower (Kd.R_new' (Kd.R_newM (M := fun k_ => (P0_ k_ ∨ w.heap.size ≤ k_)) ho22 (by first | exact HK.out.1 | exact (show Kept w _ (fun k_ => P0_ k_) from by repeat (first | exact HK.out | apply Kept.alloc | apply Kept.drewN | apply Kept.drew)).1) (fun k_ h_ => .inr h_)) (Kd.R_lt (by (with_reducible repeat (first | apply Kd.R_alloc | apply Kd.R_drewN | apply Kd.R_drew)); exact HO0.out))) (below_size (by repeat (first | exact HB.out | apply below_alloc | apply pw_below_drewN | apply below_drew1)))); have n2_ := Aside0.mk (Kept.below (S := (fun k_ => P0_ k_)) (by repeat (first | exact HK.out | apply Kept.alloc | apply Kept.drewN | apply Kept.drew)) hb); have n3_ := Aside0.mk (below_step (by repeat (first | exact HB.out | apply below_alloc | apply pw_below_drewN | apply below_drew1)) hb); clear HO0; clear HK; clear HB; have HO0 := n0_; have HO119 := n1_; have HK := n2_; have HB := n3_; clear n0_ n1_ n2_ n3_; clear hb ho22; obtain ⟨Ao24, co24, eo24⟩ := Kd.R_slice HO119.out; subst eo24) | ((with_reducible refine gate_builtin (b := .append) (xs := #[.tmp 52, .tmp 71]) rfl ?_); at_builtin; refine Kd.R_append_rows (Kd.int .u8) (w0 := w0) w0.heap.size rfl (.tmp 52) (.tmp 71) 52 5 (.int .u8 0) 1 rfl Try.underlying52 info5 rfl (by decide) (by omega) u9000_ l0 y117 _ _ _ (fun k_ => (P0_ k_ ∨ w.heap.size ≤ k_) ∧ some k_ ≠ (.slice Ao24 y117.length co24 : Value).ownBlock) (fun _ => False) rfl rfl ?aO ?aR (fun _ _ h => h) (fun _ h => h.elim) ?aF ?aB ?aS ?aL ?_; (case aR => repeat (first | exact (Kd.R_reads' HO119.out).2.2 | (with_reducible refine Kd.C_alloc ?_ _) | (with_reducible refine Kd.C_drewN ?_ _) | (with_reducible refine Kd.C_drew ?_))); (case aB => exact (by repeat (first | exact HB.out | apply below_alloc | apply pw_below_drewN | apply below_drew1))); (case aF => exact (fun k_ hk => ⟨(.inr (Nat.le_trans (by first | exact HK.out.1 | exact (show Kept w _ (fun k_ => P0_ k_) from by repeat (first | exact HK.out | apply Kept.alloc | apply Kept.drewN | apply Kept.drew)).1) hk)), Kd.fresh' (Kd.R_lt (by (with_reducible repeat (first | apply Kd.R_alloc | apply Kd.R_drewN | apply Kd.R_drew)); exact HO119.out)) k_ hk⟩)); (case aO => exact (by (with_reducible repeat (first | apply Kd.R_alloc | apply Kd.R_drewN | apply Kd.R_drew)); exact HO0.out)); (case aS => exact (below_size (by repeat (first | exact HB.out | apply below_alloc | apply pw_below_drewN | apply below_drew1)))); (case aL => have := LMc20.out; omega); intro v121 w23 ho hb hg hat; rw [← Ny120.out] at ho; have n0_ := Aside0.mk (Kd.R_after (ok := (fun k_ => (P0_ k_ ∨ w.heap.size ≤ k_))) (by (with_reducible repeat (first | apply Kd.R_alloc | apply Kd.R_drewN | apply Kd.R_drew)); exact Kd.R_mono HO119.out (fun _ hk => ⟨hk.1.1, hk.2⟩)) hg hat); have n1_ := Aside0.mk (hb); have n2_ := Aside0.mk (Kept.of_grown (S := (fun k_ => P0_ k_)) hg (by repeat (first | exact HK.out | apply Kept.alloc | apply Kept.drewN | apply Kept.drew)) (fun k_ e_ => (HO0.out.1 k_ e_).1)); have n3_ := Aside0.mk (ho); clear HO119; clear HB; clear HK; clear HO0; have HO119 := n0_; have HB := n1_; have HK := n2_; have HO122 := n3_; clear n0_ n1_ n2_ n3_; clear ho hb hg hat))
           go_ret
           exact ⟨_, by first | rfl | (simp [*] <;> rfl), by (with_reducible repeat (first | apply Kd.R_alloc | apply Kd.R_drewN | apply Kd.R_drew)); exact Kd.R_mono HO122.out (fun _ hk => hk.1), by repeat (first | exact HB.out | apply below_alloc | apply pw_below_drewN | apply below_drew1), by repeat (first | exact HK.out | apply Kept.alloc | apply Kept.drewN | apply Kept.drew)⟩
         · rw [if_neg c20] at H
           exact absurd H (by simp)
 · replace c4 := Bool.eq_false_iff.mpr c4
   subst c4
   rw [if_neg (show ¬ (false = true) by decide)] at H
   replace H := Option.bind_eq_some_iff.mp H
   obtain ⟨t123, A250, H⟩ := H
   replace H : (some t123) = some r := H
   have A25 := Aside0.mk A250
   clear A250
   obtain rfl := Option.some.inj H
   go_enter Try.func139, Try.ntmps139
   go_wp2_with (first | ((with_reducible refine gate_callee (f := 146) rfl ?_); refine goesL_ (some 7) rfl rfl Try.func146 (by kernel_rfl) rfl #[.int .i64 a1] rfl (by (try simp only [List.map_toArray, List.map_cons, List.map_nil]); first | done | rfl | (simp only [List.length_drop, List.length_take]; rfl)) ?_; (with_reducible refine (impl_PointOk.calls a1 false _ A3.out).mono ?_); rintro e w' ⟨rfl, ⟨nd, rfl⟩⟩; refine ⟨_, rfl, ?_⟩; obtain ⟨Ao26, co26, eo26⟩ := Kd.R_slice HO0.out; subst eo26) | ((with_reducible refine gate_callee (f := 139) rfl ?_); refine goesL_ (some 10) rfl rfl Try.func139 (by kernel_rfl) rfl #[.slice Ao26 l0.length co26, .int .i64 65533] rfl (by (try simp only [List.map_toArray, List.map_cons, List.map_nil]); first | done | rfl | (simp only [List.length_drop, List.length_take]; rfl)) ?_; (with_reducible refine (ih k (by omega) (fun k_ => some k_ = (.slice Ao26 l0.length co26 : Value).ownBlock) (.slice Ao26 l0.length co26) l0 65533 t123 w0 _ ?side1 ?side2 A25.out).mono ?_); (case side1 => repeat (first | (with_reducible first | exact HB.out | apply below_alloc | apply pw_below_drewN | apply below_drew1) | exact HB.out)); (case side2 => exact Kd.R_tight rfl HO0.out); rintro e w27 ⟨v124, rfl, ho0, hb, hkp⟩; refine ⟨_, rfl, ?_⟩; have n0_ := Aside0.mk (Kd.R_mono (ok' := fun k_ => (P0_ k_ ∨ w.heap.size ≤ k_)) ho0 (fun k_ hk_ => Or.elim hk_ (fun hs_ => (HO0.out.1 k_ (hs_).symm)) (fun hn_ => (.inr (Nat.le_trans (by first | exact HK.out.1 | exact (show Kept w _ (fun k_ => P0_ k_) from by repeat (first | exact HK.out | apply Kept.alloc | apply Kept.drewN | apply Kept.drew)).1) hn_))))); have n1_ := Aside0.mk (Kept.then_ (S := (fun k_ => P0_ k_)) (by repeat (first | exact HK.out | apply Kept.alloc | apply Kept.drewN | apply Kept.drew)) hkp (fun k_ hs_ => (fun e_ => (HO0.out.1 k_ e_.symm)) hs_)); have n2_ := Aside0.mk (hb); clear HK; clear HB; clear HO0; have HO125 := n0_; have HK := n1_; have HB := n2_; clear n0_ n1_ n2_; (try clear hb); (try clear hkp); (try clear ho0)))
   go_ret
   exact ⟨_, by first | rfl | (simp [*] <;> rfl), by (with_reducible repeat (first | apply Kd.R_alloc | apply Kd.R_drewN | apply Kd.R_drew)); exact HO125.out, by repeat (first | exact HB.out | apply below_alloc | apply pw_below_drewN | apply below_drew1), by repeat (first | exact HK.out | apply Kept.alloc | apply Kept.drewN | apply Kept.drew)⟩
def impl_PointsPut.l0 : Nat → List Int → List Int → Int → Int → Option (List Int)
 | 0, _, _, _, _ => none
 | k + 1, x3, x9, x10, x11 => if x11 < x10 then (if 0 ≤ x11 then (if x11 < (x9.length : Int) then ((impl_putPoint.f k x3 (rd x9 x11)).bind fun t102 => (impl_PointsPut.l0 k t102 x9 x10 (wrap64 (x11 + 1)))) else (none)) else (none)) else (some x3)
def impl_PointsPut.f (k : Nat) (l0 : List Int) : Option (List Int) := if (l0.length : Int) > 3000 then (some ([] : List Int)) else (impl_PointsPut.l0 k ([] : List Int) l0 (l0.length : Int) 0)
theorem impl_PointsPut.mono_l : ∀ k, (∀ y0 y1 y2 y3, LeO (impl_PointsPut.l0 k y0 y1 y2 y3) (impl_PointsPut.l0 (k + 1) y0 y1 y2 y3))
 | 0 => fun _ _ _ _ r h => by simp [impl_PointsPut.l0] at h
 | k + 1 => by
  have ih0 := impl_PointsPut.mono_l k
  · intro y0 y1 y2 y3
    unfold impl_PointsPut.l0
    repeat' first
    | (with_reducible exact ih0 _ _ _ _)
    | (with_reducible exact impl_putPoint.mono _ _ _)
    | (with_reducible exact LeO.refl _)
    | (with_reducible exact LeO.none _)
    | (with_reducible refine LeO.ite ?_ ?_)
    | (with_reducible refine LeO.bind ?_ (fun _ => ?_))
    | exact ih0 _ _ _ _
    | exact impl_putPoint.mono _ _ _
    | exact LeO.none _
    | refine LeO.ite ?_ ?_
    | refine LeO.bind ?_ (fun _ => ?_)
theorem impl_PointsPut.mono : ∀ a0 k, LeO (impl_PointsPut.f k a0) (impl_PointsPut.f (k + 1) a0) := by
 intro a0 k
 have ih0 := impl_PointsPut.mono_l k
 unfold impl_PointsPut.f
 repeat' first
  | (with_reducible exact ih0 _ _ _ _)
  | (with_reducible exact impl_putPoint.mono _ _ _)
  | (with_reducible exact LeO.refl _)
  | (with_reducible exact LeO.none _)
  | (with_reducible refine LeO.ite ?_ ?_)
  | (with_reducible refine LeO.bind ?_ (fun _ => ?_))
  | exact ih0 _ _ _ _
  | exact impl_putPoint.mono _ _ _
  | exact LeO.none _
  | refine LeO.ite ?_ ?_
  | refine LeO.bind ?_ (fun _ => ?_)
set_option maxHeartbeats 8000000 in
set_option maxRecDepth 100000 in
theorem impl_PointsPut.calls (k : Nat) (A0 : Option Addr) (c0 : Nat) (l0 : List Int) (r : List Int) (w : World) (hr0 : Kd.C (Kd.int .i64) w A0 l0.length l0) (hc0 : l0.length ≤ c0) (h : impl_PointsPut.f k l0 = some r) :
 Calls Try.prog 130 #[.slice A0 l0.length c0] w fun e w' => ∃ v0_ : Value, e = .returned (v0_) ∧ Kd.R (Kd.int .u8) 5 w' w.heap.size (fun _ => True) v0_ r ∧ Below w.heap.size w w' := by
 have HR0 := Aside0.mk hr0
 have HC0 := Aside0.mk hc0
 clear hr0 hc0
 have HB := Aside0.mk (Below.refl w.heap.size w)
 have H : (if (l0.length : Int) > 3000 then (some ([] : List Int)) else (impl_PointsPut.l0 k ([] : List Int) l0 (l0.length : Int) 0)) = some r := h
 clear h
 by_cases c2 : (l0.length : Int) > 3000
 · rw [if_pos c2] at H
   have c2b0 : decide (3000 < (l0.length : Int)) = true := decide_eq_true c2
   have c2b1 : decide (3000 < l0.length) = true := decide_eq_true (by omega)
   clear c2
   obtain rfl := Option.some.inj H
   go_enter Try.func130, Try.ntmps130
   go_wp2
   go_ret
   exact ⟨_, by first | rfl | (simp [*] <;> rfl), by first | exact Kd.R_nil _ _ _ _ _ | exact Kd.N_nil _ _ _ _ _ | exact Kd.V_nil _ _ _ _ _ | exact Kd.Q_nil _ _ _ _ _ | exact Kd.S_nil _ _ _ _ _, HB.out⟩
 · rw [if_neg c2] at H
   have c2b0 : decide (3000 < (l0.length : Int)) = false := decide_eq_false c2
   have c2b1 : decide (3000 < l0.length) = false := decide_eq_false (by omega)
   clear c2
   have H' := Aside0.mk H
   clear H
   go_enter Try.func130, Try.ntmps130
   go_wp2
   go_loopg [3, 11] k (fun kq v3 v11 w' => ∃ (x3_1 : List Int) (x11_1 : Int), v11 = .int .i64 x11_1 ∧ Aside0 (impl_PointsPut.l0 kq x3_1 l0 (l0.length : Int) x11_1 = some r) ∧ Aside0 (kq ≤ k) ∧ Aside0 (Kd.R (Kd.int .u8) 5 w' w.heap.size (fun _ => True) v3 x3_1) ∧ Aside0 (Below w.heap.size w w'))
   case atStart => exact ⟨(([] : List Int)), (0), (by first | rfl | (simp; done) | (simp [*]; done)), H', ⟨Nat.le_refl _⟩, ⟨by first | exact Kd.R_nil _ _ _ _ _ | exact Kd.N_nil _ _ _ _ _ | exact Kd.V_nil _ _ _ _ _ | exact Kd.Q_nil _ _ _ _ _ | exact Kd.S_nil _ _ _ _ _⟩, ⟨HB.out⟩⟩
   case round =>
    clear H'
    try clear c1
    try clear c2
    try clear c2b0
    try clear c2b1
    try clear p2
    obtain ⟨x3_1, x11_1, rfl, HA, HK1, HO_3, HB⟩ := hrel
    cases gk with
    | zero => exact absurd HA.out (by simp [impl_PointsPut.l0])
    | succ k1 =>
     have H := HA.out
     clear HA
     simp only [impl_PointsPut.l0] at H
     by_cases c3 : x11_1 < (l0.length : Int)
     · rw [if_pos c3] at H
       have c3b0 : decide (x11_1 < (l0.length : Int)) = true := decide_eq_true c3
       clear c3
       by_cases c4 : 0 ≤ x11_1
       · rw [if_pos c4] at H
         have c4b0 : decide (0 ≤ x11_1) = true := decide_eq_true c4
         clear c4
         by_cases c5 : x11_1 < (l0.length : Int)
         · rw [if_pos c5] at H
           have c5b0 : decide (x11_1 < (l0.length : Int)) = true := decide_eq_true c5
           clear c5
           replace H := Option.bind_eq_some_iff.mp H
           obtain ⟨t102, A60, H⟩ := H
           replace H : (impl_PointsPut.l0 k1 t102 l0 (l0.length : Int) (wrap64 (x11_1 + 1))) = some r := H
           have A6 := Aside0.mk A60
           clear A60
           have H' := Aside0.mk H
           clear H
           have p101 : 0 ≤ (x11_1 : Int) := of_decide_eq_true (by assumption)
           have q101 : x11_1 < (l0.length : Int) := of_decide_eq_true (by assumption)
           obtain ⟨ad101, e101, hx101_0⟩ := Kd.at_int HR0.out x11_1 p101 q101
           cases e101
           replace hx101_0 := pw_cell_below HB.out hx101_0
           replace p101 := eq_true p101
           replace q101 := eq_true q101
           obtain ⟨Ao7, co7, eo7⟩ := Kd.R_slice HO_3.out
           subst eo7
           go_wp2_with (first | ((with_reducible refine gate_callee (f := 139) rfl ?_); refine goesL_ (some 17) rfl rfl Try.func139 (by kernel_rfl) rfl #[.slice Ao7 x3_1.length co7, .int .i64 (rd l0 x11_1)] rfl (by (try simp only [List.map_toArray, List.map_cons, List.map_nil]); first | done | rfl | (simp only [List.length_drop, List.length_take]; rfl)) ?_; (with_reducible refine (impl_putPoint.calls k1 (fun k_ => some k_ = (.slice Ao7 x3_1.length co7 : Value).ownBlock) (.slice Ao7 x3_1.length co7) x3_1 (rd l0 x11_1) t102 w _ ?side1 ?side2 A6.out).mono ?_); (case side1 => repeat (first | (with_reducible first | exact HB.out | apply below_alloc | apply pw_below_drewN | apply below_drew1) | exact HB.out)); (case side2 => exact Kd.R_tight rfl HO_3.out); rintro e w8 ⟨v103, rfl, ho0, hb, hkp⟩; refine ⟨_, rfl, ?_⟩; have n0_ := Aside0.mk (Kd.R_mono (ok' := fun k_ => True) ho0 (fun k_ hk_ => trivial)); have n1_ := Aside0.mk (hb); clear HB; clear HO_3; have HO104 := n0_; have HB := n1_; clear n0_ n1_; (try clear hb); (try clear hkp); (try clear ho0)))
           go_roundg k1
           case measure => have := HK1.out; omega
           case rel => exact ⟨(t102), (wrap64 (x11_1 + 1)), (by first | rfl | (simp; done) | (simp [*]; done)), H', ⟨by have := HK1.out; omega⟩, ⟨by (with_reducible repeat (first | apply Kd.R_alloc | apply Kd.R_drewN | apply Kd.R_drew)); exact HO104.out⟩, ⟨HB.out⟩⟩
         · rw [if_neg c5] at H
           exact absurd H (by simp)
       · rw [if_neg c4] at H
         exact absurd H (by simp)
     · rw [if_neg c3] at H
       have c3b0 : decide (x11_1 < (l0.length : Int)) = false := decide_eq_false c3
       clear c3
       obtain rfl := Option.some.inj H
       go_wp2
       go_ret
       exact ⟨_, by first | rfl | (simp [*] <;> rfl), by (with_reducible repeat (first | apply Kd.R_alloc | apply Kd.R_drewN | apply Kd.R_drew)); exact HO_3.out, HB.out⟩
def bytes_HasPrefix.f (l0 : List Int) (l1 : List Int) : Option (Bool) := if (l0.length : Int) ≥ (l1.length : Int) then (bytes_Equal.f (l0.take ((l1.length : Int) : Int).toNat) l1) else (some false)
set_option maxHeartbeats 8000000 in
set_option maxRecDepth 100000 in
theorem bytes_HasPrefix.calls (A0 : Option Addr) (c0 : Nat) (l0 : List Int) (A1 : Option Addr) (c1 : Nat) (l1 : List Int) (r : Bool) (w : World) (hr0 : Kd.C (Kd.int .u8) w A0 l0.length l0) (hc0 : l0.length ≤ c0) (hr1 : Kd.C (Kd.int .u8) w A1 l1.length l1) (hc1 : l1.length ≤ c1) (h : bytes_HasPrefix.f l0 l1 = some r) :
 Calls Try.prog 147 #[.slice A0 l0.length c0, .slice A1 l1.length c1] w fun e w' => e = .returned (.bool r) ∧ Drawn0 w w' := by
 have HR0 := Aside0.mk hr0
 have HC0 := Aside0.mk hc0
 clear hr0 hc0
 have HR1 := Aside0.mk hr1
 have HC1 := Aside0.mk hc1
 clear hr1 hc1
 unfold bytes_HasPrefix.f at h
 have H := h
 clear h
 by_cases c3 : (l0.length : Int) ≥ (l1.length : Int)
 · rw [if_pos c3] at H
   have c3b0 : decide ((l1.length : Int) ≤ (l0.length : Int)) = true := decide_eq_true c3
   have c3b1 : decide (l1.length ≤ l0.length) = true := decide_eq_true (Int.ofNat_le.mp c3)
   have c4b0 := eq_true (show 0 ≤ (l1.length : Int) by omega)
   have c4b1 : decide (0 ≤ (l1.length : Int)) = true := decide_eq_true (by omega)
   have c5b0 := eq_true (show (l1.length : Int) ≤ (l0.length : Int) from c3)
   have hln : (l0.take ((l1.length : Int) : Int).toNat).length = min l1.length l0.length := by rw [List.length_take]; rfl
   have A6 := Aside0.mk H
   clear H c3
   obtain ⟨i07, hi07, _, hsz7, _⟩ := info_parts info5
   obtain ⟨hcut7, hA7, hC7⟩ := print_take_of (P := Try.prog) (Value.int .u8) 0 52 5 .i64 Try.underlying52 hi07 hsz7 A0 c0 l0 (l1.length : Int) (of_decide_eq_true (by assumption)) (of_decide_eq_true (by assumption)) HC0.out
   have HR367 := Aside0.mk (Kd.C_of_reads (h1 := fun _ => rfl) (hA7 _ (Kd.reads_of_C HR0.out)))
   have HC367 := Aside0.mk hC7
   clear hA7 hC7 hi07 hsz7
   have C9 := Aside0.mk (show Calls Try.prog 129 #[.slice A0 (min l1.length l0.length) c0, .slice A1 l1.length c1] w fun e w' => e = .returned (.bool r) ∧ Drawn0 w w' from by
    have := bytes_Equal.calls A0 c0 (l0.take ((l1.length : Int) : Int).toNat) A1 c1 l1 r w HR367.out HC367.out HR1.out HC1.out A6.out
    rw [hln] at this
    exact this)
   clear hln
   go_enter Try.func147, Try.ntmps147
   go_wp2_with (first | (go_at_call 129; refine C9.out.mono ?_; rintro e w' ⟨rfl, ⟨nd, rfl⟩⟩))
   go_ret
   exact ⟨by first | rfl | (simp; done) | (simp [*]; done), by repeat (first | exact Drawn0.refl _ | apply Drawn0.step)⟩
 · rw [if_neg c3] at H
   have c3b0 : decide ((l1.length : Int) ≤ (l0.length : Int)) = false := decide_eq_false c3
   have c3b1 : decide (l1.length ≤ l0.length) = false := decide_eq_false (fun h => c3 (Int.ofNat_le.mpr h))
   clear c3
   obtain rfl := Option.some.inj H
   go_enter Try.func147, Try.ntmps147
   go_wp2
   go_ret
   exact ⟨by first | rfl | (simp; done) | (simp [*]; done), by repeat (first | exact Drawn0.refl _ | apply Drawn0.step)⟩
def bytes_TrimPrefix.f (l0 : List Int) (l1 : List Int) : Option (List Int) := (bytes_HasPrefix.f l0 l1).bind fun t101 => (if t101 = true then (if 0 ≤ (l1.length : Int) then (if (l1.length : Int) ≤ (l0.length : Int) then (some (l0.drop ((l1.length : Int) : Int).toNat)) else (none)) else (none)) else (some l0))
set_option maxHeartbeats 8000000 in
set_option maxRecDepth 100000 in
theorem bytes_TrimPrefix.calls (P0_ : Nat → Prop) (A0 : Option Addr) (c0 : Nat) (l0 : List Int) (A1 : Option Addr) (c1 : Nat) (l1 : List Int) (r : List Int) (w : World) (hs0 : Kd.V (Kd.int .u8) 5 w w.heap.size (fun k_ => P0_ k_) (.slice A0 l0.length c0) l0) (hr1 : Kd.C (Kd.int .u8) w A1 l1.length l1) (hc1 : l1.length ≤ c1) (h : bytes_TrimPrefix.f l0 l1 = some r) :
 Calls Try.prog 140 #[.slice A0 l0.length c0, .slice A1 l1.length c1] w fun e w' => ∃ v0_ : Value, e = .returned (v0_) ∧ Kd.V (Kd.int .u8) 5 w' w.heap.size (fun k_ => (P0_ k_ ∨ w.heap.size ≤ k_)) v0_ r ∧ Below w.heap.size w w' := by
 have HO0 := Aside0.mk (show Kd.V (Kd.int .u8) 5 w w.heap.size (fun k_ => (P0_ k_ ∨ w.heap.size ≤ k_)) (.slice A0 l0.length c0) l0 from Kd.V_mono hs0 (fun k_ hk => .inl hk))
 have HR1 := Aside0.mk hr1
 have HC1 := Aside0.mk hc1
 clear hr1 hc1
 have HB := Aside0.mk (Below.refl w.heap.size w)
 have H : ((bytes_HasPrefix.f l0 l1).bind fun t101 => (if t101 = true then (if 0 ≤ (l1.length : Int) then (if (l1.length : Int) ≤ (l0.length : Int) then (some (l0.drop ((l1.length : Int) : Int).toNat)) else (none)) else (none)) else (some l0))) = some r := h
 clear h
 replace H := Option.bind_eq_some_iff.mp H
 obtain ⟨t101, A30, H⟩ := H
 replace H : (if t101 = true then (if 0 ≤ (l1.length : Int) then (if (l1.length : Int) ≤ (l0.length : Int) then (some (l0.drop ((l1.length : Int) : Int).toNat)) else (none)) else (none)) else (some l0)) = some r := H
 have A3 := Aside0.mk A30
 clear A30
 by_cases c4 : t101 = true
 · subst c4
   rw [if_pos rfl] at H
   by_cases c5 : 0 ≤ (l1.length : Int)
   · rw [if_pos c5] at H
     have c5b0 := eq_true c5
     have c5b1 : decide (0 ≤ (l1.length : Int)) = true := decide_eq_true c5
     clear c5
     by_cases c6 : (l1.length : Int) ≤ (l0.length : Int)
     · rw [if_pos c6] at H
       have c6b0 := eq_true c6
       have c6b1 : decide ((l1.length : Int) ≤ (l0.length : Int)) = true := decide_eq_true c6
       clear c6
       obtain ⟨y102, hy102⟩ : ∃ y_ : List Int, y_ = (l0.drop ((l1.length : Int) : Int).toNat) := ⟨_, rfl⟩
       replace H : (some y102) = some r := by first | (rw [hy102]; with_reducible exact H) | (have H2_ := (Option.bind_some _ _).symm.trans H; rw [hy102]; with_reducible exact H2_) | (have H2_ := (Option.bind_some _ _).symm.trans H; with_reducible exact H2_) | with_reducible exact H | (rw [hy102]; exact H) | exact H
       have Ny102 := Aside0.mk hy102
       clear hy102
       obtain rfl := Option.some.inj H
       go_enter Try.func140, Try.ntmps140
       go_wp2_with (first | ((with_reducible refine gate_callee (f := 147) rfl ?_); refine goesL_ (some 7) rfl rfl Try.func147 (by kernel_rfl) rfl #[.slice A0 l0.length c0, .slice A1 l1.length c1] rfl (by (try simp only [List.map_toArray, List.map_cons, List.map_nil]); first | done | rfl | (simp only [List.length_drop, List.length_take]; rfl)) ?_; (with_reducible refine (bytes_HasPrefix.calls _ _ l0 _ _ l1 true _ ?side1 ?side2 ?side3 ?side4 A3.out).mono ?_); (case side1 => repeat (first | exact (Kd.V_reads' HO0.out).2.2 | (with_reducible refine Kd.C_alloc ?_ _) | (with_reducible refine Kd.C_drewN ?_ _) | (with_reducible refine Kd.C_drew ?_))); (case side2 => exact (Kd.V_reads' HO0.out).2.1); (case side3 => repeat (first | exact HR1.out | (with_reducible refine Kd.C_alloc ?_ _) | (with_reducible refine Kd.C_drewN ?_ _) | (with_reducible refine Kd.C_drew ?_))); (case side4 => exact HC1.out); rintro e w' ⟨rfl, ⟨nd, rfl⟩⟩; refine ⟨_, rfl, ?_⟩; have q7 : ((l1.length : Int) : Int) ≤ ((l0.length : Int) : Int) := of_decide_eq_true (by assumption); obtain ⟨i07, hi07, _, hsz7, _⟩ := info_parts info5; have hroom7 : l0.length ≤ c0 := (Kd.V_reads' HO0.out).2.1; have hC7 : Kd.F (Kd.int .u8) _ _ A0 l0.length l0 := (Kd.V_at (base := w.heap.size) HO0.out).2.2; have q07 : (0 : Int) ≤ ((l1.length : Int) : Int) := of_decide_eq_true (by assumption); have hcut7 := cut_from (P := Try.prog) 52 5 .i64 Try.underlying52 hi07 1 hsz7 A0 l0.length c0 (l1.length : Int) q07 q7; have hr7 := Kd.F_cut (m := ((l1.length : Int) : Int).toNat) (c := c0) hC7 (by omega) hroom7; obtain ⟨A7, hA7⟩ : ∃ A1, A1 = (if c0 = ((l1.length : Int) : Int).toNat then A0 else (A0 : Option Addr).map (·.add (((l1.length : Int) : Int).toNat * 1))) := ⟨_, rfl⟩; obtain ⟨c7, hc7⟩ : ∃ c1, c1 = c0 - ((l1.length : Int) : Int).toNat := ⟨_, rfl⟩; have hy7 : y102.length = l0.length - ((l1.length : Int) : Int).toNat := (by rw [Ny102.out, List.length_drop] <;> omega); rw [show (l0).drop ((l1.length : Int) : Int).toNat = y102 from Ny102.out.symm] at hr7; replace hr7 : Kd.F (Kd.int .u8) _ _ A7 y102.length y102 := (by rw [hA7]; exact hr7); rw [← hy7, ← hA7, ← hc7] at hcut7; have HO106 := Aside0.mk (show Kd.V (Kd.int .u8) 5 _ w.heap.size _ (.slice A7 y102.length c7) y102 from Kd.V_mk (by rw [hy7, hc7]; exact Nat.sub_le_sub_right hroom7 _) hr7); have HC106 := Aside0.mk (show y102.length ≤ c7 from by rw [hy7, hc7]; exact Nat.sub_le_sub_right hroom7 _); clear hr7 hC7 hroom7 hi07 hsz7 hc7; have KY7 := Aside0.mk hy7; have KA7 := Aside0.mk hA7; clear hy7 hA7; replace q7 := eq_true q7))
       go_ret
       exact ⟨_, by first | rfl | (simp [*] <;> rfl), by (with_reducible repeat (first | apply Kd.V_alloc | apply Kd.V_drewN | apply Kd.V_drew)); exact HO106.out, by repeat (first | exact HB.out | apply below_alloc | apply pw_below_drewN | apply below_drew1)⟩
     · rw [if_neg c6] at H
       exact absurd H (by simp)
   · rw [if_neg c5] at H
     exact absurd H (by simp)
 · replace c4 := Bool.eq_false_iff.mpr c4
   subst c4
   rw [if_neg (show ¬ (false = true) by decide)] at H
   obtain rfl := Option.some.inj H
   go_enter Try.func140, Try.ntmps140
   go_wp2_with (first | ((with_reducible refine gate_callee (f := 147) rfl ?_); refine goesL_ (some 7) rfl rfl Try.func147 (by kernel_rfl) rfl #[.slice A0 l0.length c0, .slice A1 l1.length c1] rfl (by (try simp only [List.map_toArray, List.map_cons, List.map_nil]); first | done | rfl | (simp only [List.length_drop, List.length_take]; rfl)) ?_; (with_reducible refine (bytes_HasPrefix.calls _ _ l0 _ _ l1 false _ ?side1 ?side2 ?side3 ?side4 A3.out).mono ?_); (case side1 => repeat (first | exact (Kd.V_reads' HO0.out).2.2 | (with_reducible refine Kd.C_alloc ?_ _) | (with_reducible refine Kd.C_drewN ?_ _) | (with_reducible refine Kd.C_drew ?_))); (case side2 => exact (Kd.V_reads' HO0.out).2.1); (case side3 => repeat (first | exact HR1.out | (with_reducible refine Kd.C_alloc ?_ _) | (with_reducible refine Kd.C_drewN ?_ _) | (with_reducible refine Kd.C_drew ?_))); (case side4 => exact HC1.out); rintro e w' ⟨rfl, ⟨nd, rfl⟩⟩; refine ⟨_, rfl, ?_⟩))
   go_ret
   exact ⟨_, by first | rfl | (simp [*] <;> rfl), by (with_reducible repeat (first | apply Kd.V_alloc | apply Kd.V_drewN | apply Kd.V_drew)); exact HO0.out, by repeat (first | exact HB.out | apply below_alloc | apply pw_below_drewN | apply below_drew1)⟩
mutual
def impl_formOf.j0 : Nat → Int → Bool → Option (Int × Int)
 | 0, _, _ => none
 | k + 1, x0, x9 => if x9 = true then (some (2, wrap64 (Go.bits .and .u8 x0 31))) else (if x0 ≥ 224 then (impl_formOf.j1 k x0 (decide (x0 ≤ 239))) else (impl_formOf.j1 k x0 false))
def impl_formOf.j1 : Nat → Int → Bool → Option (Int × Int)
 | 0, _, _ => none
 | k + 1, x0, x19 => if x19 = true then (some (3, wrap64 (Go.bits .and .u8 x0 15))) else (if x0 ≥ 240 then (if x0 ≤ 244 then (some (4, wrap64 (Go.bits .and .u8 x0 7))) else (some (0, 0))) else (some (0, 0)))
end
def impl_formOf.f (k : Nat) (a0 : Int) : Option (Int × Int) := if a0 < 128 then (some (1, wrap64 (a0))) else (if a0 ≥ 194 then (impl_formOf.j0 k a0 (decide (a0 ≤ 223))) else (impl_formOf.j0 k a0 false))
theorem impl_formOf.mono_l : ∀ k, (∀ y0 y1, LeO (impl_formOf.j0 k y0 y1) (impl_formOf.j0 (k + 1) y0 y1)) ∧ (∀ y0 y1, LeO (impl_formOf.j1 k y0 y1) (impl_formOf.j1 (k + 1) y0 y1))
 | 0 => ⟨fun _ _ r h => by simp [impl_formOf.j0] at h, fun _ _ r h => by simp [impl_formOf.j1] at h⟩
 | k + 1 => by
  obtain ⟨ih0, ih1⟩ := impl_formOf.mono_l k
  refine ⟨?_, ?_⟩
  · intro y0 y1
    unfold impl_formOf.j0
    repeat' first
    | (with_reducible exact ih0 _ _)
    | (with_reducible exact ih1 _ _)
    | (with_reducible exact LeO.refl _)
    | (with_reducible exact LeO.none _)
    | (with_reducible refine LeO.ite ?_ ?_)
    | (with_reducible refine LeO.bind ?_ (fun _ => ?_))
    | exact ih0 _ _
    | exact ih1 _ _
    | exact LeO.none _
    | refine LeO.ite ?_ ?_
    | refine LeO.bind ?_ (fun _ => ?_)
  · intro y0 y1
    unfold impl_formOf.j1
    repeat' first
    | (with_reducible exact ih0 _ _)
    | (with_reducible exact ih1 _ _)
    | (with_reducible exact LeO.refl _)
    | (with_reducible exact LeO.none _)
    | (with_reducible refine LeO.ite ?_ ?_)
    | (with_reducible refine LeO.bind ?_ (fun _ => ?_))
    | exact ih0 _ _
    | exact ih1 _ _
    | exact LeO.none _
    | refine LeO.ite ?_ ?_
    | refine LeO.bind ?_ (fun _ => ?_)
theorem impl_formOf.mono : ∀ a0 k, LeO (impl_formOf.f k a0) (impl_formOf.f (k + 1) a0) := by
 intro a0 k
 obtain ⟨ih0, ih1⟩ := impl_formOf.mono_l k
 unfold impl_formOf.f
 repeat' first
  | (with_reducible exact ih0 _ _)
  | (with_reducible exact ih1 _ _)
  | (with_reducible exact LeO.refl _)
  | (with_reducible exact LeO.none _)
  | (with_reducible refine LeO.ite ?_ ?_)
  | (with_reducible refine LeO.bind ?_ (fun _ => ?_))
  | exact ih0 _ _
  | exact ih1 _ _
  | exact LeO.none _
  | refine LeO.ite ?_ ?_
  | refine LeO.bind ?_ (fun _ => ?_)
set_option maxHeartbeats 8000000 in
set_option maxRecDepth 100000 in
theorem impl_formOf.calls (k : Nat) (a0 : Int) (r1 : Int) (r2 : Int) (w : World) (h : impl_formOf.f k a0 = some (r1, r2)) :
 Calls Try.prog 148 #[.int .u8 a0] w fun e w' => e = .returned (.tuple #[.int .i64 r1, .int .i64 r2]) ∧ Drawn0 w w' := by
 have H : (if a0 < 128 then (some (1, wrap64 (a0))) else (if a0 ≥ 194 then (impl_formOf.j0 k a0 (decide (a0 ≤ 223))) else (impl_formOf.j0 k a0 false))) = some (r1, r2) := h
 clear h
 by_cases c2 : a0 < 128
 · rw [if_pos c2] at H
   have c2b0 : decide (a0 < 128) = true := decide_eq_true c2
   clear c2
   simp only [Option.some.injEq, Prod.mk.injEq] at H
   obtain ⟨rfl, rfl⟩ := H
   go_enter Try.func148, Try.ntmps148
   go_wp2
   go_ret2
   exact ⟨by first | rfl | (simp; done) | (simp [*]; done), by repeat (first | exact Drawn0.refl _ | apply Drawn0.step)⟩
 · rw [if_neg c2] at H
   have c2b0 : decide (a0 < 128) = false := decide_eq_false c2
   clear c2
   have HC3 := Aside0.mk H
   clear H
   go_enter Try.func148, Try.ntmps148
   go_upto_region 3 with (fail)
   go_cut [9] (fun v9 wc => ∃ (kq : Nat) (x9_2 : Bool), v9 = .bool x9_2 ∧ Aside0 (impl_formOf.j0 kq a0 x9_2 = some (r1, r2)) ∧ Aside0 (kq ≤ k) ∧ Drawn0 w wc)
   case first =>
    have H := HC3.out
    clear HC3
    by_cases c4 : a0 ≥ 194
    · rw [if_pos c4] at H
      have c4b0 : decide (194 ≤ a0) = true := decide_eq_true c4
      clear c4
      (first | rw [c4b0] | (simp only [i64_w, i32_w]; rw [c4b0]) | skip)
      have H' := Aside0.mk H
      clear H
      go_wp2
      go_meet
      case rel => exact ⟨_, (decide (a0 ≤ 223)), (by first | rfl | (simp; done) | (simp [*]; done)), H', ⟨by first | omega | exact Nat.le_refl _⟩, by repeat (first | exact Drawn0.refl _ | apply Drawn0.step)⟩
    · rw [if_neg c4] at H
      have c4b0 : decide (194 ≤ a0) = false := decide_eq_false c4
      clear c4
      (first | rw [c4b0] | (simp only [i64_w, i32_w]; rw [c4b0]) | skip)
      have H' := Aside0.mk H
      clear H
      go_wp2
      go_meet
      case rel => exact ⟨_, (false), (by first | rfl | (simp; done) | (simp [*]; done)), H', ⟨by first | omega | exact Nat.le_refl _⟩, by repeat (first | exact Drawn0.refl _ | apply Drawn0.step)⟩
   case rest =>
    clear HC3
    try clear c1
    try clear c2
    try clear c2b0
    try clear p2
    try clear c4
    try clear c4b0
    obtain ⟨kq, x9_2, rfl, HA, HJ2, ⟨mc2, rfl⟩⟩ := hcut
    cases kq with
    | zero => exact absurd HA.out (by simp [impl_formOf.j0])
    | succ kj2 =>
     have H := HA.out
     clear HA
     simp only [impl_formOf.j0] at H
     by_cases c5 : x9_2 = true
     · subst c5
       rw [if_pos rfl] at H
       simp only [Option.some.injEq, Prod.mk.injEq] at H
       obtain ⟨rfl, rfl⟩ := H
       go_wp2
       go_ret2
       exact ⟨by first | rfl | (simp; done) | (simp [*]; done), by repeat (first | exact Drawn0.refl _ | apply Drawn0.step)⟩
     · replace c5 := Bool.eq_false_iff.mpr c5
       subst c5
       rw [if_neg (show ¬ (false = true) by decide)] at H
       have HC6 := Aside0.mk H
       clear H
       go_upto_region 5 with (fail)
       go_cut [19] (fun v19 wc => ∃ (kq : Nat) (x19_5 : Bool), v19 = .bool x19_5 ∧ Aside0 (impl_formOf.j1 kq a0 x19_5 = some (r1, r2)) ∧ Aside0 (kq ≤ kj2) ∧ Drawn0 w wc)
       case first =>
        have H := HC6.out
        clear HC6
        by_cases c7 : a0 ≥ 224
        · rw [if_pos c7] at H
          have c7b0 : decide (224 ≤ a0) = true := decide_eq_true c7
          clear c7
          (first | rw [c7b0] | (simp only [i64_w, i32_w]; rw [c7b0]) | skip)
          have H' := Aside0.mk H
          clear H
          go_wp2
          go_meet
          case rel => exact ⟨_, (decide (a0 ≤ 239)), (by first | rfl | (simp; done) | (simp [*]; done)), H', ⟨by have := HJ2.out; first | omega | exact Nat.le_refl _⟩, by repeat (first | exact Drawn0.refl _ | apply Drawn0.step)⟩
        · rw [if_neg c7] at H
          have c7b0 : decide (224 ≤ a0) = false := decide_eq_false c7
          clear c7
          (first | rw [c7b0] | (simp only [i64_w, i32_w]; rw [c7b0]) | skip)
          have H' := Aside0.mk H
          clear H
          go_wp2
          go_meet
          case rel => exact ⟨_, (false), (by first | rfl | (simp; done) | (simp [*]; done)), H', ⟨by have := HJ2.out; first | omega | exact Nat.le_refl _⟩, by repeat (first | exact Drawn0.refl _ | apply Drawn0.step)⟩
       case rest =>
        clear HC6
        try clear c1
        try clear c2
        try clear c2b0
        try clear p2
        try clear c4
        try clear c4b0
        try clear c5
        try clear p6
        try clear c7
        try clear c7b0
        try clear p2
        obtain ⟨kq, x19_5, rfl, HA, HJ5, ⟨mc5, rfl⟩⟩ := hcut
        cases kq with
        | zero => exact absurd HA.out (by simp [impl_formOf.j1])
        | succ kj5 =>
         have H := HA.out
         clear HA
         simp only [impl_formOf.j1] at H
         by_cases c8 : x19_5 = true
         · subst c8
           rw [if_pos rfl] at H
           simp only [Option.some.injEq, Prod.mk.injEq] at H
           obtain ⟨rfl, rfl⟩ := H
           go_wp2
           go_ret2
           exact ⟨by first | rfl | (simp; done) | (simp [*]; done), by repeat (first | exact Drawn0.refl _ | apply Drawn0.step)⟩
         · replace c8 := Bool.eq_false_iff.mpr c8
           subst c8
           rw [if_neg (show ¬ (false = true) by decide)] at H
           by_cases c9 : a0 ≥ 240
           · rw [if_pos c9] at H
             have c9b0 : decide (240 ≤ a0) = true := decide_eq_true c9
             clear c9
             by_cases c10 : a0 ≤ 244
             · rw [if_pos c10] at H
               have c10b0 : decide (a0 ≤ 244) = true := decide_eq_true c10
               clear c10
               simp only [Option.some.injEq, Prod.mk.injEq] at H
               obtain ⟨rfl, rfl⟩ := H
               go_wp2
               go_ret2
               exact ⟨by first | rfl | (simp; done) | (simp [*]; done), by repeat (first | exact Drawn0.refl _ | apply Drawn0.step)⟩
             · rw [if_neg c10] at H
               have c10b0 : decide (a0 ≤ 244) = false := decide_eq_false c10
               clear c10
               simp only [Option.some.injEq, Prod.mk.injEq] at H
               obtain ⟨rfl, rfl⟩ := H
               go_wp2
               go_ret2
               exact ⟨by first | rfl | (simp; done) | (simp [*]; done), by repeat (first | exact Drawn0.refl _ | apply Drawn0.step)⟩
           · rw [if_neg c9] at H
             have c9b0 : decide (240 ≤ a0) = false := decide_eq_false c9
             clear c9
             simp only [Option.some.injEq, Prod.mk.injEq] at H
             obtain ⟨rfl, rfl⟩ := H
             go_wp2
             go_ret2
             exact ⟨by first | rfl | (simp; done) | (simp [*]; done), by repeat (first | exact Drawn0.refl _ | apply Drawn0.step)⟩
def impl_boundsOf.f (a0 : Int) : Option (Int × Int) := if a0 = 224 then (some (160, 191)) else (if a0 = 237 then (some (128, 159)) else (if a0 = 240 then (some (144, 191)) else (if a0 = 244 then (some (128, 143)) else (some (128, 191)))))
set_option maxHeartbeats 8000000 in
set_option maxRecDepth 100000 in
theorem impl_boundsOf.calls (a0 : Int) (r1 : Int) (r2 : Int) (w : World) (h : impl_boundsOf.f a0 = some (r1, r2)) :
 Calls Try.prog 149 #[.int .u8 a0] w fun e w' => e = .returned (.tuple #[.int .u8 r1, .int .u8 r2]) ∧ Drawn0 w w' := by
 have H : (if a0 = 224 then (some (160, 191)) else (if a0 = 237 then (some (128, 159)) else (if a0 = 240 then (some (144, 191)) else (if a0 = 244 then (some (128, 143)) else (some (128, 191)))))) = some (r1, r2) := h
 clear h
 by_cases c2 : a0 = 224
 · rw [if_pos c2] at H
   have c2b0 : (a0 == 224) = true := beq_iff_eq.mpr c2
   have c2b1 : (a0 != 224) = false := bne_eq_false_iff_eq.mpr c2
   clear c2
   simp only [Option.some.injEq, Prod.mk.injEq] at H
   obtain ⟨rfl, rfl⟩ := H
   go_enter Try.func149, Try.ntmps149
   go_wp2
   go_ret2
   exact ⟨by first | rfl | (simp; done) | (simp [*]; done), by repeat (first | exact Drawn0.refl _ | apply Drawn0.step)⟩
 · rw [if_neg c2] at H
   have c2b0 : (a0 == 224) = false := beq_eq_false_iff_ne.mpr c2
   have c2b1 : (a0 != 224) = true := bne_iff_ne.mpr c2
   by_cases c3 : a0 = 237
   · rw [if_pos c3] at H
     have c3b0 : (a0 == 237) = true := beq_iff_eq.mpr c3
     have c3b1 : (a0 != 237) = false := bne_eq_false_iff_eq.mpr c3
     clear c3
     simp only [Option.some.injEq, Prod.mk.injEq] at H
     obtain ⟨rfl, rfl⟩ := H
     go_enter Try.func149, Try.ntmps149
     go_wp2
     go_ret2
     exact ⟨by first | rfl | (simp; done) | (simp [*]; done), by repeat (first | exact Drawn0.refl _ | apply Drawn0.step)⟩
   · rw [if_neg c3] at H
     have c3b0 : (a0 == 237) = false := beq_eq_false_iff_ne.mpr c3
     have c3b1 : (a0 != 237) = true := bne_iff_ne.mpr c3
     by_cases c4 : a0 = 240
     · rw [if_pos c4] at H
       have c4b0 : (a0 == 240) = true := beq_iff_eq.mpr c4
       have c4b1 : (a0 != 240) = false := bne_eq_false_iff_eq.mpr c4
       clear c4
       simp only [Option.some.injEq, Prod.mk.injEq] at H
       obtain ⟨rfl, rfl⟩ := H
       go_enter Try.func149, Try.ntmps149
       go_wp2
       go_ret2
       exact ⟨by first | rfl | (simp; done) | (simp [*]; done), by repeat (first | exact Drawn0.refl _ | apply Drawn0.step)⟩
     · rw [if_neg c4] at H
       have c4b0 : (a0 == 240) = false := beq_eq_false_iff_ne.mpr c4
       have c4b1 : (a0 != 240) = true := bne_iff_ne.mpr c4
       by_cases c5 : a0 = 244
       · rw [if_pos c5] at H
         have c5b0 : (a0 == 244) = true := beq_iff_eq.mpr c5
         have c5b1 : (a0 != 244) = false := bne_eq_false_iff_eq.mpr c5
         clear c5
         simp only [Option.some.injEq, Prod.mk.injEq] at H
         obtain ⟨rfl, rfl⟩ := H
         go_enter Try.func149, Try.ntmps149
         go_wp2
         go_ret2
         exact ⟨by first | rfl | (simp; done) | (simp [*]; done), by repeat (first | exact Drawn0.refl _ | apply Drawn0.step)⟩
       · rw [if_neg c5] at H
         have c5b0 : (a0 == 244) = false := beq_eq_false_iff_ne.mpr c5
         have c5b1 : (a0 != 244) = true := bne_iff_ne.mpr c5
         simp only [Option.some.injEq, Prod.mk.injEq] at H
         obtain ⟨rfl, rfl⟩ := H
         go_enter Try.func149, Try.ntmps149
         go_wp2
         go_ret2
         exact ⟨by first | rfl | (simp; done) | (simp [*]; done), by repeat (first | exact Drawn0.refl _ | apply Drawn0.step)⟩
def impl_readPoint.l0 : Nat → List Int → Int → Int → Int → Int → Int → Option (Int × Int)
 | 0, _, _, _, _, _, _ => none
 | k + 1, x0, x4, x5, x6, x7, x8 => if x8 < x4 then (if x8 ≥ (x0.length : Int) then (some (65533, x8)) else (if 0 ≤ x8 then (if x8 < (x0.length : Int) then (if (rd x0 x8) < x6 then (some (65533, x8)) else (if (rd x0 x8) > x7 then (some (65533, x8)) else (impl_readPoint.l0 k x0 x4 (Go.bits .or .i64 (wrap64 (x5 * 64)) (wrap64 (Go.bits .and .u8 (rd x0 x8) 63))) 128 191 (wrap64 (x8 + 1))))) else (none)) else (none))) else (some (x5, x4))
def impl_readPoint.f (k : Nat) (l0 : List Int) : Option (Int × Int) := if 0 < (l0.length : Int) then ((impl_formOf.f k (rd l0 0)).bind fun bt102 => (if bt102.1 = 0 then (some (65533, 1)) else ((impl_boundsOf.f (rd l0 0)).bind fun bt105 => (impl_readPoint.l0 k l0 bt102.1 bt102.2 bt105.1 bt105.2 1)))) else (none)
theorem impl_readPoint.mono_l : ∀ k, (∀ y0 y1 y2 y3 y4 y5, LeO (impl_readPoint.l0 k y0 y1 y2 y3 y4 y5) (impl_readPoint.l0 (k + 1) y0 y1 y2 y3 y4 y5))
 | 0 => fun _ _ _ _ _ _ r h => by simp [impl_readPoint.l0] at h
 | k + 1 => by
  have ih0 := impl_readPoint.mono_l k
  · intro y0 y1 y2 y3 y4 y5
    unfold impl_readPoint.l0
    repeat' first
    | (with_reducible exact ih0 _ _ _ _ _ _)
    | (with_reducible exact impl_formOf.mono _ _)
    | (with_reducible exact LeO.refl _)
    | (with_reducible exact LeO.none _)
    | (with_reducible refine LeO.ite ?_ ?_)
    | (with_reducible refine LeO.bind ?_ (fun _ => ?_))
    | exact ih0 _ _ _ _ _ _
    | exact impl_formOf.mono _ _
    | exact LeO.none _
    | refine LeO.ite ?_ ?_
    | refine LeO.bind ?_ (fun _ => ?_)
theorem impl_readPoint.mono : ∀ a0 k, LeO (impl_readPoint.f k a0) (impl_readPoint.f (k + 1) a0) := by
 intro a0 k
 have ih0 := impl_readPoint.mono_l k
 unfold impl_readPoint.f
 repeat' first
  | (with_reducible exact ih0 _ _ _ _ _ _)
  | (with_reducible exact impl_formOf.mono _ _)
  | (with_reducible exact LeO.refl _)
  | (with_reducible exact LeO.none _)
  | (with_reducible refine LeO.ite ?_ ?_)
  | (with_reducible refine LeO.bind ?_ (fun _ => ?_))
  | exact ih0 _ _ _ _ _ _
  | exact impl_formOf.mono _ _
  | exact LeO.none _
  | refine LeO.ite ?_ ?_
  | refine LeO.bind ?_ (fun _ => ?_)
set_option maxHeartbeats 8000000 in
set_option maxRecDepth 100000 in
theorem impl_readPoint.calls (k : Nat) (A0 : Option Addr) (c0 : Nat) (l0 : List Int) (r1 : Int) (r2 : Int) (w : World) (hr0 : Kd.C (Kd.int .u8) w A0 l0.length l0) (hc0 : l0.length ≤ c0) (h : impl_readPoint.f k l0 = some (r1, r2)) :
 Calls Try.prog 141 #[.slice A0 l0.length c0] w fun e w' => e = .returned (.tuple #[.int .i64 r1, .int .i64 r2]) ∧ Drawn0 w w' := by
 have HR0 := Aside0.mk hr0
 have HC0 := Aside0.mk hc0
 clear hr0 hc0
 have H : (if 0 < (l0.length : Int) then ((impl_formOf.f k (rd l0 0)).bind fun bt102 => (if bt102.1 = 0 then (some (65533, 1)) else ((impl_boundsOf.f (rd l0 0)).bind fun bt105 => (impl_readPoint.l0 k l0 bt102.1 bt102.2 bt105.1 bt105.2 1)))) else (none)) = some (r1, r2) := h
 clear h
 by_cases c2 : 0 < (l0.length : Int)
 · rw [if_pos c2] at H
   have c2b0 : decide (0 < (l0.length : Int)) = true := decide_eq_true c2
   have c2b1 : decide (0 < l0.length) = true := decide_eq_true (by omega)
   clear c2
   replace H := Option.bind_eq_some_iff.mp H
   obtain ⟨⟨t102, t103⟩, A30, H⟩ := H
   replace H : (if t102 = 0 then (some (65533, 1)) else ((impl_boundsOf.f (rd l0 0)).bind fun bt105 => (impl_readPoint.l0 k l0 t102 t103 bt105.1 bt105.2 1))) = some (r1, r2) := H
   have A3 := Aside0.mk A30
   clear A30
   by_cases c4 : t102 = 0
   · rw [if_pos c4] at H
     have c4b0 : (t102 == 0) = true := beq_iff_eq.mpr c4
     have c4b1 : (t102 != 0) = false := bne_eq_false_iff_eq.mpr c4
     clear c4
     simp only [Option.some.injEq, Prod.mk.injEq] at H
     obtain ⟨rfl, rfl⟩ := H
     have p101 : 0 ≤ (0 : Int) := (by omega)
     have q101 : 0 < (l0.length : Int) := of_decide_eq_true (by assumption)
     obtain ⟨ad101, e101, hx101_0⟩ := Kd.at_int HR0.out 0 p101 q101
     cases e101
     have qi101 : (0 < l0.length) = True := eq_true (by omega)
     (try rw [show ((0 : Int)).toNat = 0 from rfl] at hx101_0)
     (try rw [Addr.add_zero'] at hx101_0)
     replace p101 := eq_true p101
     replace q101 := eq_true q101
     go_enter Try.func141, Try.ntmps141
     go_wp2_with (first | ((with_reducible refine gate_callee (f := 148) rfl ?_); refine goesL_ (some 13) rfl rfl Try.func148 (by kernel_rfl) rfl #[.int .u8 (rd l0 0)] rfl (by (try simp only [List.map_toArray, List.map_cons, List.map_nil]); first | done | rfl | (simp only [List.length_drop, List.length_take]; rfl)) ?_; (with_reducible refine (impl_formOf.calls k (rd l0 0) t102 t103 _ A3.out).mono ?_); rintro e w' ⟨rfl, ⟨nd, rfl⟩⟩; refine ⟨_, rfl, ?_⟩))
     go_ret2
     exact ⟨by first | rfl | (simp; done) | (simp [*]; done), by repeat (first | exact Drawn0.refl _ | apply Drawn0.step)⟩
   · rw [if_neg c4] at H
     have c4b0 : (t102 == 0) = false := beq_eq_false_iff_ne.mpr c4
     have c4b1 : (t102 != 0) = true := bne_iff_ne.mpr c4
     replace H := Option.bind_eq_some_iff.mp H
     obtain ⟨⟨t105, t106⟩, A50, H⟩ := H
     replace H : (impl_readPoint.l0 k l0 t102 t103 t105 t106 1) = some (r1, r2) := H
     have A5 := Aside0.mk A50
     clear A50
     have H' := Aside0.mk H
     clear H
     have p101 : 0 ≤ (0 : Int) := (by omega)
     have q101 : 0 < (l0.length : Int) := of_decide_eq_true (by assumption)
     obtain ⟨ad101, e101, hx101_0⟩ := Kd.at_int HR0.out 0 p101 q101
     cases e101
     have qi101 : (0 < l0.length) = True := eq_true (by omega)
     (try rw [show ((0 : Int)).toNat = 0 from rfl] at hx101_0)
     (try rw [Addr.add_zero'] at hx101_0)
     replace p101 := eq_true p101
     replace q101 := eq_true q101
     go_enter Try.func141, Try.ntmps141
     go_wp2_with (first | ((with_reducible refine gate_callee (f := 148) rfl ?_); refine goesL_ (some 13) rfl rfl Try.func148 (by kernel_rfl) rfl #[.int .u8 (rd l0 0)] rfl (by (try simp only [List.map_toArray, List.map_cons, List.map_nil]); first | done | rfl | (simp only [List.length_drop, List.length_take]; rfl)) ?_; (with_reducible refine (impl_formOf.calls k (rd l0 0) t102 t103 _ A3.out).mono ?_); rintro e w' ⟨rfl, ⟨nd, rfl⟩⟩; refine ⟨_, rfl, ?_⟩; have p104 : 0 ≤ (0 : Int) := (by omega); have q104 : 0 < (l0.length : Int) := of_decide_eq_true (by assumption); obtain ⟨ad104, e104, hx104_0⟩ := Kd.at_int HR0.out 0 p104 q104; obtain rfl : ad101 = ad104 := (by injection e104); have qi104 : (0 < l0.length) = True := eq_true (by omega); (try rw [show ((0 : Int)).toNat = 0 from rfl] at hx104_0); (try rw [Addr.add_zero'] at hx104_0); replace p104 := eq_true p104; replace q104 := eq_true q104) | ((with_reducible refine gate_callee (f := 149) rfl ?_); refine goesL_ (some 22) rfl rfl Try.func149 (by kernel_rfl) rfl #[.int .u8 (rd l0 0)] rfl (by (try simp only [List.map_toArray, List.map_cons, List.map_nil]); first | done | rfl | (simp only [List.length_drop, List.length_take]; rfl)) ?_; (with_reducible refine (impl_boundsOf.calls (rd l0 0) t105 t106 _ A5.out).mono ?_); rintro e w' ⟨rfl, ⟨nd, rfl⟩⟩; refine ⟨_, rfl, ?_⟩))
     go_loopg [5, 6, 7, 8] k (fun kq v5 v6 v7 v8 w' => ∃ (x5_1 : Int) (x6_1 : Int) (x7_1 : Int) (x8_1 : Int), v5 = .int .i64 x5_1 ∧ v6 = .int .u8 x6_1 ∧ v7 = .int .u8 x7_1 ∧ v8 = .int .i64 x8_1 ∧ Aside0 (impl_readPoint.l0 kq l0 t102 x5_1 x6_1 x7_1 x8_1 = some (r1, r2)) ∧ Aside0 (kq ≤ k) ∧ Drawn0 w w')
     case atStart => exact ⟨(t103), (t105), (t106), (1), (by first | rfl | (simp; done) | (simp [*]; done)), (by first | rfl | (simp; done) | (simp [*]; done)), (by first | rfl | (simp; done) | (simp [*]; done)), (by first | rfl | (simp; done) | (simp [*]; done)), H', ⟨Nat.le_refl _⟩, by repeat (first | exact Drawn0.refl _ | apply Drawn0.step)⟩
     case round =>
      clear H'
      try clear c1
      try clear p1
      try clear q1
      try clear hx1
      try clear qi1
      try clear c2
      try clear c2b0
      try clear c2b1
      try clear p2
      try clear c4
      try clear c4b0
      try clear c4b1
      try clear hx101_0
      try clear hx104_0
      try clear p101
      try clear p104
      try clear q101
      try clear q104
      obtain ⟨x5_1, x6_1, x7_1, x8_1, rfl, rfl, rfl, rfl, HA, HK1, ⟨m1, rfl⟩⟩ := hrel
      cases gk with
      | zero => exact absurd HA.out (by simp [impl_readPoint.l0])
      | succ k1 =>
       have H := HA.out
       clear HA
       simp only [impl_readPoint.l0] at H
       by_cases c6 : x8_1 < t102
       · rw [if_pos c6] at H
         have c6b0 : decide (x8_1 < t102) = true := decide_eq_true c6
         clear c6
         by_cases c7 : x8_1 ≥ (l0.length : Int)
         · rw [if_pos c7] at H
           have c7b0 : decide ((l0.length : Int) ≤ x8_1) = true := decide_eq_true c7
           clear c7
           simp only [Option.some.injEq, Prod.mk.injEq] at H
           obtain ⟨rfl, rfl⟩ := H
           go_wp2
           go_ret2
           exact ⟨by first | rfl | (simp; done) | (simp [*]; done), by repeat (first | exact Drawn0.refl _ | apply Drawn0.step)⟩
         · rw [if_neg c7] at H
           have c7b0 : decide ((l0.length : Int) ≤ x8_1) = false := decide_eq_false c7
           clear c7
           by_cases c8 : 0 ≤ x8_1
           · rw [if_pos c8] at H
             have c8b0 : decide (0 ≤ x8_1) = true := decide_eq_true c8
             clear c8
             by_cases c9 : x8_1 < (l0.length : Int)
             · rw [if_pos c9] at H
               have c9b0 : decide (x8_1 < (l0.length : Int)) = true := decide_eq_true c9
               clear c9
               by_cases c10 : (rd l0 x8_1) < x6_1
               · rw [if_pos c10] at H
                 have c10b0 : decide ((rd l0 x8_1) < x6_1) = true := decide_eq_true c10
                 clear c10
                 simp only [Option.some.injEq, Prod.mk.injEq] at H
                 obtain ⟨rfl, rfl⟩ := H
                 have p107 : 0 ≤ (x8_1 : Int) := of_decide_eq_true (by assumption)
                 have q107 : x8_1 < (l0.length : Int) := of_decide_eq_true (by assumption)
                 obtain ⟨ad107, e107, hx107_0⟩ := Kd.at_int HR0.out x8_1 p107 q107
                 obtain rfl : ad101 = ad107 := (by injection e107)
                 replace p107 := eq_true p107
                 replace q107 := eq_true q107
                 go_wp2
                 go_ret2
                 exact ⟨by first | rfl | (simp; done) | (simp [*]; done), by repeat (first | exact Drawn0.refl _ | apply Drawn0.step)⟩
               · rw [if_neg c10] at H
                 have c10b0 : decide ((rd l0 x8_1) < x6_1) = false := decide_eq_false c10
                 clear c10
                 by_cases c11 : (rd l0 x8_1) > x7_1
                 · rw [if_pos c11] at H
                   have c11b0 : decide (x7_1 < (rd l0 x8_1)) = true := decide_eq_true c11
                   clear c11
                   simp only [Option.some.injEq, Prod.mk.injEq] at H
                   obtain ⟨rfl, rfl⟩ := H
                   have p107 : 0 ≤ (x8_1 : Int) := of_decide_eq_true (by assumption)
                   have q107 : x8_1 < (l0.length : Int) := of_decide_eq_true (by assumption)
                   obtain ⟨ad107, e107, hx107_0⟩ := Kd.at_int HR0.out x8_1 p107 q107
                   obtain rfl : ad101 = ad107 := (by injection e107)
                   replace p107 := eq_true p107
                   replace q107 := eq_true q107
                   have p108 : 0 ≤ (x8_1 : Int) := of_decide_eq_true (by assumption)
                   have q108 : x8_1 < (l0.length : Int) := of_decide_eq_true (by assumption)
                   obtain ⟨ad108, e108, hx108_0⟩ := Kd.at_int HR0.out x8_1 p108 q108
                   obtain rfl : ad101 = ad108 := (by injection e108)
                   replace p108 := eq_true p108
                   replace q108 := eq_true q108
                   go_wp2
                   go_ret2
                   exact ⟨by first | rfl | (simp; done) | (simp [*]; done), by repeat (first | exact Drawn0.refl _ | apply Drawn0.step)⟩
                 · rw [if_neg c11] at H
                   have c11b0 : decide (x7_1 < (rd l0 x8_1)) = false := decide_eq_false c11
                   clear c11
                   have H' := Aside0.mk H
                   clear H
                   have p107 : 0 ≤ (x8_1 : Int) := of_decide_eq_true (by assumption)
                   have q107 : x8_1 < (l0.length : Int) := of_decide_eq_true (by assumption)
                   obtain ⟨ad107, e107, hx107_0⟩ := Kd.at_int HR0.out x8_1 p107 q107
                   obtain rfl : ad101 = ad107 := (by injection e107)
                   replace p107 := eq_true p107
                   replace q107 := eq_true q107
                   have p108 : 0 ≤ (x8_1 : Int) := of_decide_eq_true (by assumption)
                   have q108 : x8_1 < (l0.length : Int) := of_decide_eq_true (by assumption)
                   obtain ⟨ad108, e108, hx108_0⟩ := Kd.at_int HR0.out x8_1 p108 q108
                   obtain rfl : ad101 = ad108 := (by injection e108)
                   replace p108 := eq_true p108
                   replace q108 := eq_true q108
                   have p109 : 0 ≤ (x8_1 : Int) := of_decide_eq_true (by assumption)
                   have q109 : x8_1 < (l0.length : Int) := of_decide_eq_true (by assumption)
                   obtain ⟨ad109, e109, hx109_0⟩ := Kd.at_int HR0.out x8_1 p109 q109
                   obtain rfl : ad101 = ad109 := (by injection e109)
                   replace p109 := eq_true p109
                   replace q109 := eq_true q109
                   go_wp2
                   go_roundg k1
                   case measure => have := HK1.out; omega
                   case rel => exact ⟨(Go.bits .or .i64 (wrap64 (x5_1 * 64)) (wrap64 (Go.bits .and .u8 (rd l0 x8_1) 63))), (128), (191), (wrap64 (x8_1 + 1)), (by first | rfl | (simp; done) | (simp [*]; done)), (by first | rfl | (simp; done) | (simp [*]; done)), (by first | rfl | (simp; done) | (simp [*]; done)), (by first | rfl | (simp; done) | (simp [*]; done)), H', ⟨by have := HK1.out; omega⟩, by repeat (first | exact Drawn0.refl _ | apply Drawn0.step)⟩
             · rw [if_neg c9] at H
               exact absurd H (by simp)
           · rw [if_neg c8] at H
             exact absurd H (by simp)
       · rw [if_neg c6] at H
         have c6b0 : decide (x8_1 < t102) = false := decide_eq_false c6
         clear c6
         simp only [Option.some.injEq, Prod.mk.injEq] at H
         obtain ⟨rfl, rfl⟩ := H
         go_wp2
         go_ret2
         exact ⟨by first | rfl | (simp; done) | (simp [*]; done), by repeat (first | exact Drawn0.refl _ | apply Drawn0.step)⟩
 · rw [if_neg c2] at H
   exact absurd H (by simp)
def impl_UtfRead.l0 : Nat → List Int → List Int → Option (List Int)
 | 0, _, _ => none
 | k + 1, x0, x3 => if (x0.length : Int) > 0 then ((impl_readPoint.f k x0).bind fun bt107 => (if x3.length < 17592186044416 then (if 0 ≤ bt107.2 then (if bt107.2 ≤ (x0.length : Int) then (impl_UtfRead.l0 k (x0.drop (bt107.2 : Int).toNat) (x3 ++ [bt107.1])) else (none)) else (none)) else (none))) else (some x3)
def impl_UtfRead.f (k : Nat) (l0 : List Int) : Option (List Int) := if (l0.length : Int) > 3000 then (some ([] : List Int)) else ((bytes_TrimPrefix.f l0 (([239, 187, 191] : List Int))).bind fun t104 => (impl_UtfRead.l0 k t104 ([] : List Int)))
theorem impl_UtfRead.mono_l : ∀ k, (∀ y0 y1, LeO (impl_UtfRead.l0 k y0 y1) (impl_UtfRead.l0 (k + 1) y0 y1))
 | 0 => fun _ _ r h => by simp [impl_UtfRead.l0] at h
 | k + 1 => by
  have ih0 := impl_UtfRead.mono_l k
  · intro y0 y1
    unfold impl_UtfRead.l0
    repeat' first
    | (with_reducible exact ih0 _ _)
    | (with_reducible exact impl_readPoint.mono _ _)
    | (with_reducible exact LeO.refl _)
    | (with_reducible exact LeO.none _)
    | (with_reducible refine LeO.ite ?_ ?_)
    | (with_reducible refine LeO.bind ?_ (fun _ => ?_))
    | exact ih0 _ _
    | exact impl_readPoint.mono _ _
    | exact LeO.none _
    | refine LeO.ite ?_ ?_
    | refine LeO.bind ?_ (fun _ => ?_)
theorem impl_UtfRead.mono : ∀ a0 k, LeO (impl_UtfRead.f k a0) (impl_UtfRead.f (k + 1) a0) := by
 intro a0 k
 have ih0 := impl_UtfRead.mono_l k
 unfold impl_UtfRead.f
 repeat' first
  | (with_reducible exact ih0 _ _)
  | (with_reducible exact impl_readPoint.mono _ _)
  | (with_reducible exact LeO.refl _)
  | (with_reducible exact LeO.none _)
  | (with_reducible refine LeO.ite ?_ ?_)
  | (with_reducible refine LeO.bind ?_ (fun _ => ?_))
  | exact ih0 _ _
  | exact impl_readPoint.mono _ _
  | exact LeO.none _
  | refine LeO.ite ?_ ?_
  | refine LeO.bind ?_ (fun _ => ?_)
set_option maxHeartbeats 8000000 in
set_option maxRecDepth 100000 in
theorem impl_UtfRead.calls (k : Nat) (A0 : Option Addr) (c0 : Nat) (l0 : List Int) (r : List Int) (w : World) (hr0 : Kd.C (Kd.int .u8) w A0 l0.length l0) (hc0 : l0.length ≤ c0) (h : impl_UtfRead.f k l0 = some r) :
 Calls Try.prog 131 #[.slice A0 l0.length c0] w fun e w' => ∃ v0_ : Value, e = .returned (v0_) ∧ Kd.R (Kd.int .i64) 3 w' w.heap.size (fun _ => True) v0_ r ∧ Below w.heap.size w w' := by
 have HR0 := Aside0.mk hr0
 have HC0 := Aside0.mk hc0
 clear hr0 hc0
 have HB := Aside0.mk (Below.refl w.heap.size w)
 have H : (if (l0.length : Int) > 3000 then (some ([] : List Int)) else ((bytes_TrimPrefix.f l0 (([239, 187, 191] : List Int))).bind fun t104 => (impl_UtfRead.l0 k t104 ([] : List Int)))) = some r := h
 clear h
 by_cases c2 : (l0.length : Int) > 3000
 · rw [if_pos c2] at H
   have c2b0 : decide (3000 < (l0.length : Int)) = true := decide_eq_true c2
   have c2b1 : decide (3000 < l0.length) = true := decide_eq_true (by omega)
   clear c2
   obtain rfl := Option.some.inj H
   go_enter Try.func131, Try.ntmps131
   go_wp2
   go_ret
   exact ⟨_, by first | rfl | (simp [*] <;> rfl), by first | exact Kd.R_nil _ _ _ _ _ | exact Kd.N_nil _ _ _ _ _ | exact Kd.V_nil _ _ _ _ _ | exact Kd.Q_nil _ _ _ _ _ | exact Kd.S_nil _ _ _ _ _, by repeat (first | exact HB.out | apply below_alloc | apply pw_below_drewN | apply below_drew1)⟩
 · rw [if_neg c2] at H
   have c2b0 : decide (3000 < (l0.length : Int)) = false := decide_eq_false c2
   have c2b1 : decide (3000 < l0.length) = false := decide_eq_false (by omega)
   clear c2
   obtain ⟨y101, hy101⟩ : ∃ y_ : List Int, y_ = (([239, 187, 191] : List Int)) := ⟨_, rfl⟩
   replace H : ((bytes_TrimPrefix.f l0 y101).bind fun t104 => (impl_UtfRead.l0 k t104 ([] : List Int))) = some r := by first | (rw [hy101]; with_reducible exact H) | (have H2_ := (Option.bind_some _ _).symm.trans H; rw [hy101]; with_reducible exact H2_) | (have H2_ := (Option.bind_some _ _).symm.trans H; with_reducible exact H2_) | with_reducible exact H | (rw [hy101]; exact H) | exact H
   have Ny101 := Aside0.mk hy101
   clear hy101
   replace H := Option.bind_eq_some_iff.mp H
   obtain ⟨t104, A30, H⟩ := H
   replace H : (impl_UtfRead.l0 k t104 ([] : List Int)) = some r := H
   have A3 := Aside0.mk A30
   clear A30
   have H' := Aside0.mk H
   clear H
   go_enter Try.func131, Try.ntmps131
   go_wp2_with (first | ((with_reducible refine gate_dst (N := 10) rfl ?_); refine Kd.R_lit (Kd.int .u8) _ 5 ?hg (N := 10) ?hd (xs := ([239, 187, 191] : List Int)) (inner := [.int .u8 239, .int .u8 187, .int .u8 191]) (ok := fun _ => True) (okp := fun _ => True) ?hr ?hp (fun _ hk => hk) trivial (Below.refl _ _) (Nat.le_refl _) (by simp) ?_; (case hd => rfl); (case hg => rfl); (case hr => first | (go_simp; done) | (go_simp; rfl)); (case hp => exact (Reps.one (show Kd.M (Kd.int .u8) _ _ _ 239 [.int .u8 239] from rfl) (Reps.one (show Kd.M (Kd.int .u8) _ _ _ 187 [.int .u8 187] from rfl) (Reps.one (show Kd.M (Kd.int .u8) _ _ _ 191 [.int .u8 191] from rfl) (Reps.none _ _))))); intro v102 w4 ho5 hb hg_ hnew_; clear hg_ hnew_; (first | rw [← Ny101.out] at ho5 | (simp only [Int.reduceToNat] at ho5; rw [← Ny101.out] at ho5)); have n0_ := Aside0.mk (Kd.R_lower ho5 (below_size (by repeat (first | exact HB.out | apply below_alloc | apply pw_below_drewN | apply below_drew1)))); have n1_ := Aside0.mk (below_step (by repeat (first | exact HB.out | apply below_alloc | apply pw_below_drewN | apply below_drew1)) hb); clear HB; have HO103 := n0_; have HB := n1_; clear n0_ n1_; clear hb ho5; obtain ⟨Ao6, co6, eo6⟩ := Kd.R_slice HO103.out; subst eo6) | ((with_reducible refine gate_callee (f := 140) rfl ?_); refine goesL_ (some 11) rfl rfl Try.func140 (by kernel_rfl) rfl #[.slice A0 l0.length c0, .slice Ao6 y101.length co6] rfl (by (try simp only [List.map_toArray, List.map_cons, List.map_nil]); first | done | rfl | (simp only [List.length_drop, List.length_take]; rfl)) ?_; (with_reducible refine (bytes_TrimPrefix.calls (fun k_ => k_ < w.heap.size) _ _ l0 _ _ y101 t104 _ ?side1 ?side2 ?side3 A3.out).mono ?_); (case side1 => exact Kd.V_mk HC0.out (Kd.F_below (Kd.C_F (Kd.heap_int .u8) HR0.out) (by repeat (first | exact HB.out | apply below_alloc | apply pw_below_drewN | apply below_drew1)))); (case side2 => repeat (first | exact (Kd.R_reads' HO103.out).2.2 | (with_reducible refine Kd.C_alloc ?_ _) | (with_reducible refine Kd.C_drewN ?_ _) | (with_reducible refine Kd.C_drew ?_))); (case side3 => exact (Kd.R_reads' HO103.out).2.1); rintro e w7 ⟨v105, rfl, ho0, hb⟩; refine ⟨_, rfl, ?_⟩; have n0_ := Aside0.mk (Kd.R_below HO103.out hb); have n1_ := Aside0.mk (Kd.V_lower (Kd.V_mono (ok' := fun k_ => some k_ ≠ (.slice Ao6 y101.length co6 : Value).ownBlock) ho0 (fun k_ hk_ => Or.elim hk_ (fun hs_ => fun e_ => Nat.not_le.2 hs_ (Kd.R_base HO103.out k_ e_.symm)) (fun hn_ => (Kd.fresh' (Kd.R_lt HO103.out) k_ hn_)))) (below_size (by repeat (first | exact HB.out | apply below_alloc | apply pw_below_drewN | apply below_drew1)))); have n2_ := Aside0.mk (below_step (by repeat (first | exact HB.out | apply below_alloc | apply pw_below_drewN | apply below_drew1)) hb); clear HO103; clear HB; have HO103 := n0_; have HO106 := n1_; have HB := n2_; clear n0_ n1_ n2_; (try clear hb); (try clear hb2); (try clear hk); (try clear hi); (try clear ho0)))
   go_loopg [0, 3] k (fun kq v0 v3 w' => ∃ (x0_1 : List Int) (x3_1 : List Int), Aside0 (impl_UtfRead.l0 kq x0_1 x3_1 = some r) ∧ Aside0 (kq ≤ k) ∧ Aside0 (Kd.V (Kd.int .u8) 5 w' w.heap.size (fun k_ => some k_ ≠ (v3 : Value).ownBlock) v0 x0_1) ∧ Aside0 (Kd.R (Kd.int .i64) 3 w' w.heap.size (fun _ => True) v3 x3_1) ∧ Aside0 (Below w.heap.size w w'))
   case atStart => exact ⟨(t104), (([] : List Int)), H', ⟨Nat.le_refl _⟩, ⟨by (with_reducible repeat (first | apply Kd.V_alloc | apply Kd.V_drewN | apply Kd.V_drew)); exact Kd.V_mono HO106.out (fun _ hk => (by simp [Value.ownBlock]))⟩, ⟨by first | exact Kd.R_nil _ _ _ _ _ | exact Kd.N_nil _ _ _ _ _ | exact Kd.V_nil _ _ _ _ _ | exact Kd.Q_nil _ _ _ _ _ | exact Kd.S_nil _ _ _ _ _⟩, ⟨by repeat (first | exact HB.out | apply below_alloc | apply pw_below_drewN | apply below_drew1)⟩⟩
   case round =>
    clear H'
    try clear c1
    try clear c2
    try clear c2b0
    try clear c2b1
    try clear p2
    obtain ⟨x0_1, x3_1, HA, HK1, HO_0, HO_3, HB⟩ := hrel
    cases gk with
    | zero => exact absurd HA.out (by simp [impl_UtfRead.l0])
    | succ k1 =>
     have H := HA.out
     clear HA
     simp only [impl_UtfRead.l0] at H
     by_cases c8 : (x0_1.length : Int) > 0
     · rw [if_pos c8] at H
       have c8b0 : decide (0 < (x0_1.length : Int)) = true := decide_eq_true c8
       have c8b1 : decide (0 < x0_1.length) = true := decide_eq_true (by omega)
       clear c8
       replace H := Option.bind_eq_some_iff.mp H
       obtain ⟨⟨t107, t108⟩, A90, H⟩ := H
       replace H : (if x3_1.length < 17592186044416 then (if 0 ≤ t108 then (if t108 ≤ (x0_1.length : Int) then (impl_UtfRead.l0 k1 (x0_1.drop (t108 : Int).toNat) (x3_1 ++ [t107])) else (none)) else (none)) else (none)) = some r := H
       have A9 := Aside0.mk A90
       clear A90
       by_cases c10 : x3_1.length < 17592186044416
       · rw [if_pos c10] at H
         have LMc10 := Aside0.mk c10
         clear c10
         obtain ⟨y109, hy109⟩ : ∃ y_ : List Int, y_ = (x3_1 ++ [t107]) := ⟨_, rfl⟩
         replace H : (if 0 ≤ t108 then (if t108 ≤ (x0_1.length : Int) then (impl_UtfRead.l0 k1 (x0_1.drop (t108 : Int).toNat) y109) else (none)) else (none)) = some r := by first | (rw [hy109]; with_reducible exact H) | (have H2_ := (Option.bind_some _ _).symm.trans H; rw [hy109]; with_reducible exact H2_) | (have H2_ := (Option.bind_some _ _).symm.trans H; with_reducible exact H2_) | with_reducible exact H | (rw [hy109]; exact H) | exact H
         have Ny109 := Aside0.mk hy109
         clear hy109
         by_cases c11 : 0 ≤ t108
         · rw [if_pos c11] at H
           have c11b0 := eq_true c11
           have c11b1 : decide (0 ≤ t108) = true := decide_eq_true c11
           clear c11
           by_cases c12 : t108 ≤ (x0_1.length : Int)
           · rw [if_pos c12] at H
             have c12b0 := eq_true c12
             have c12b1 : decide (t108 ≤ (x0_1.length : Int)) = true := decide_eq_true c12
             clear c12
             obtain ⟨y112, hy112⟩ : ∃ y_ : List Int, y_ = (x0_1.drop (t108 : Int).toNat) := ⟨_, rfl⟩
             replace H : (impl_UtfRead.l0 k1 y112 y109) = some r := by first | (rw [hy112]; with_reducible exact H) | (have H2_ := (Option.bind_some _ _).symm.trans H; rw [hy112]; with_reducible exact H2_) | (have H2_ := (Option.bind_some _ _).symm.trans H; with_reducible exact H2_) | with_reducible exact H | (rw [hy112]; exact H) | exact H
             have Ny112 := Aside0.mk hy112
             clear hy112
             have H' := Aside0.mk H
             clear H
             obtain ⟨Ao13, co13, eo13⟩ := Kd.V_slice HO_0.out
             subst eo13
             go_wp2_with (first | ((with_reducible refine gate_callee (f := 141) rfl ?_); refine goesL_ (some 17) rfl rfl Try.func141 (by kernel_rfl) rfl #[.slice Ao13 x0_1.length co13] rfl (by (try simp only [List.map_toArray, List.map_cons, List.map_nil]); first | done | rfl | (simp only [List.length_drop, List.length_take]; rfl)) ?_; (with_reducible refine (impl_readPoint.calls k1 _ _ x0_1 t107 t108 _ ?side1 ?side2 A9.out).mono ?_); (case side1 => repeat (first | exact (Kd.V_reads' HO_0.out).2.2 | (with_reducible refine Kd.C_alloc ?_ _) | (with_reducible refine Kd.C_drewN ?_ _) | (with_reducible refine Kd.C_drew ?_))); (case side2 => exact (Kd.V_reads' HO_0.out).2.1); rintro e w' ⟨rfl, ⟨nd, rfl⟩⟩; refine ⟨_, rfl, ?_⟩) | ((with_reducible refine gate_builtin (b := .append) (xs := #[.tmp 20, .tmp 22]) rfl ?_); at_builtin; refine Kd.R_append (Kd.int .i64) (w0 := w) w.heap.size rfl (.tmp 20) (.tmp 22) 37 3 (.int .i64 0) 8 rfl Try.underlying37 info3 rfl (by decide) (by omega) u3 x3_1 t107 [.int .i64 t107] (fun _ => True) (fun _ => False) rfl rfl ?aP (fun _ hk => hk.elim) ?aF ?aO ?aB ?aS ?aL ?_; (case aP => exact rfl); (case aB => exact (by repeat (first | exact HB.out | apply below_alloc | apply pw_below_drewN | apply below_drew1))); (case aF => exact (fun _ _ => trivial)); (case aO => exact HO_3.out); (case aS => exact (below_size (by repeat (first | exact HB.out | apply below_alloc | apply pw_below_drewN | apply below_drew1)))); (case aL => have := LMc10.out; omega); intro v110 w14 ho hb hg hat; rw [← Ny109.out] at ho; have n0_ := Aside0.mk (Kd.V_afterv (ok := (fun _ => True)) (by (with_reducible repeat (first | apply Kd.V_alloc | apply Kd.V_drewN | apply Kd.V_drew)); exact Kd.V_mono HO_0.out (fun _ hk => ⟨trivial, hk⟩)) hg hat); have n1_ := Aside0.mk (hb); have n2_ := Aside0.mk (ho); clear HO_0; clear HB; clear HO_3; have HO_0 := n0_; have HB := n1_; have HO111 := n2_; clear n0_ n1_ n2_; clear ho hb hg hat; have q15 : (t108 : Int) ≤ ((x0_1.length : Int) : Int) := of_decide_eq_true (by assumption); obtain ⟨i015, hi015, _, hsz15, _⟩ := info_parts info5; have hroom15 : x0_1.length ≤ co13 := (Kd.V_reads' HO_0.out).2.1; have hC15 : Kd.F (Kd.int .u8) _ _ Ao13 x0_1.length x0_1 := (Kd.V_at (base := w.heap.size) HO_0.out).2.2; have q015 : (0 : Int) ≤ (t108 : Int) := of_decide_eq_true (by assumption); have hcut15 := cut_from (P := Try.prog) 52 5 .i64 Try.underlying52 hi015 1 hsz15 Ao13 x0_1.length co13 t108 q015 q15; have hr15 := Kd.F_cut (m := (t108 : Int).toNat) (c := co13) hC15 (by omega) hroom15; obtain ⟨A15, hA15⟩ : ∃ A1, A1 = (if co13 = (t108 : Int).toNat then Ao13 else (Ao13 : Option Addr).map (·.add ((t108 : Int).toNat * 1))) := ⟨_, rfl⟩; obtain ⟨c15, hc15⟩ : ∃ c1, c1 = co13 - (t108 : Int).toNat := ⟨_, rfl⟩; have hy15 : y112.length = x0_1.length - (t108 : Int).toNat := (by rw [Ny112.out, List.length_drop] <;> omega); rw [show (x0_1).drop (t108 : Int).toNat = y112 from Ny112.out.symm] at hr15; replace hr15 : Kd.F (Kd.int .u8) _ _ A15 y112.length y112 := (by rw [hA15]; exact hr15); rw [← hy15, ← hA15, ← hc15] at hcut15; have HO116 := Aside0.mk (show Kd.V (Kd.int .u8) 5 _ w.heap.size _ (.slice A15 y112.length c15) y112 from Kd.V_mk (by rw [hy15, hc15]; exact Nat.sub_le_sub_right hroom15 _) hr15); have HC116 := Aside0.mk (show y112.length ≤ c15 from by rw [hy15, hc15]; exact Nat.sub_le_sub_right hroom15 _); clear hr15 hC15 hroom15 hi015 hsz15 hc15; have KY15 := Aside0.mk hy15; have KA15 := Aside0.mk hA15; clear hy15 hA15; replace q15 := eq_true q15))
             go_roundg k1
             case measure => have := HK1.out; omega
             case rel => exact ⟨(y112), (y109), H', ⟨by have := HK1.out; omega⟩, ⟨by (with_reducible repeat (first | apply Kd.V_alloc | apply Kd.V_drewN | apply Kd.V_drew)); exact Kd.V_mono HO116.out (fun _ hk => hk.2)⟩, ⟨by (with_reducible repeat (first | apply Kd.R_alloc | apply Kd.R_drewN | apply Kd.R_drew)); exact HO111.out⟩, ⟨by repeat (first | exact HB.out | apply below_alloc | apply pw_below_drewN | apply below_drew1)⟩⟩
           · rw [if_neg c12] at H
             exact absurd H (by simp)
         · rw [if_neg c11] at H
           exact absurd H (by simp)
       · rw [if_neg c10] at H
         exact absurd H (by simp)
     · rw [if_neg c8] at H
       have c8b0 : decide (0 < (x0_1.length : Int)) = false := decide_eq_false c8
       have c8b1 : decide (0 < x0_1.length) = false := decide_eq_false (by omega)
       clear c8
       obtain rfl := Option.some.inj H
       obtain ⟨Ao16, co16, eo16⟩ := Kd.V_slice HO_0.out
       subst eo16
       go_wp2
       go_ret
       exact ⟨_, by first | rfl | (simp [*] <;> rfl), by (with_reducible repeat (first | apply Kd.R_alloc | apply Kd.R_drewN | apply Kd.R_drew)); exact HO_3.out, by repeat (first | exact HB.out | apply below_alloc | apply pw_below_drewN | apply below_drew1)⟩
def impl_UtfOk.f (k : Nat) (l0 : List Int) : Option (Bool) := if (l0.length : Int) ≤ 3000 then ((impl_UtfRead.f k l0).bind fun t101 => ((impl_PointsPut.f k t101).bind fun t104 => ((bytes_Equal.f t104 l0).bind fun t107 => (some t107)))) else (some false)
theorem impl_UtfOk.mono : ∀ a0 k, LeO (impl_UtfOk.f k a0) (impl_UtfOk.f (k + 1) a0) := by
 intro a0 k
 unfold impl_UtfOk.f
 repeat' first
  | (with_reducible exact impl_PointsPut.mono _ _)
  | (with_reducible exact impl_UtfRead.mono _ _)
  | (with_reducible exact LeO.refl _)
  | (with_reducible exact LeO.none _)
  | (with_reducible refine LeO.ite ?_ ?_)
  | (with_reducible refine LeO.bind ?_ (fun _ => ?_))
  | exact impl_PointsPut.mono _ _
  | exact impl_UtfRead.mono _ _
  | exact LeO.none _
  | refine LeO.ite ?_ ?_
  | refine LeO.bind ?_ (fun _ => ?_)
set_option maxHeartbeats 8000000 in
set_option maxRecDepth 100000 in
theorem impl_UtfOk.calls (k : Nat) (A0 : Option Addr) (c0 : Nat) (l0 : List Int) (r : Bool) (w : World) (hr0 : Kd.C (Kd.int .u8) w A0 l0.length l0) (hc0 : l0.length ≤ c0) (h : impl_UtfOk.f k l0 = some r) :
 Calls Try.prog 113 #[.slice A0 l0.length c0] w fun e w' => e = .returned (.bool r) ∧ Below w.heap.size w w' := by
 have HR0 := Aside0.mk hr0
 have HC0 := Aside0.mk hc0
 clear hr0 hc0
 have HB := Aside0.mk (Below.refl w.heap.size w)
 have H : (if (l0.length : Int) ≤ 3000 then ((impl_UtfRead.f k l0).bind fun t101 => ((impl_PointsPut.f k t101).bind fun t104 => ((bytes_Equal.f t104 l0).bind fun t107 => (some t107)))) else (some false)) = some r := h
 clear h
 by_cases c2 : (l0.length : Int) ≤ 3000
 · rw [if_pos c2] at H
   have c2b0 : decide ((l0.length : Int) ≤ 3000) = true := decide_eq_true c2
   have c2b1 : decide (l0.length ≤ 3000) = true := decide_eq_true (by omega)
   clear c2
   replace H := Option.bind_eq_some_iff.mp H
   obtain ⟨t101, A30, H⟩ := H
   replace H : ((impl_PointsPut.f k t101).bind fun t104 => ((bytes_Equal.f t104 l0).bind fun t107 => (some t107))) = some r := H
   have A3 := Aside0.mk A30
   clear A30
   replace H := Option.bind_eq_some_iff.mp H
   obtain ⟨t104, A40, H⟩ := H
   replace H : ((bytes_Equal.f t104 l0).bind fun t107 => (some t107)) = some r := H
   have A4 := Aside0.mk A40
   clear A40
   replace H := Option.bind_eq_some_iff.mp H
   obtain ⟨t107, A50, H⟩ := H
   replace H : (some t107) = some r := H
   have A5 := Aside0.mk A50
   clear A50
   obtain rfl := Option.some.inj H
   go_enter Try.func113, Try.ntmps113
   go_wp2_with (first | (go_at_call 131; (with_reducible refine (impl_UtfRead.calls k _ _ l0 t101 _ ?side1 ?side2 A3.out).mono ?_); (case side1 => repeat (first | exact HR0.out | (with_reducible refine Kd.C_alloc ?_ _) | (with_reducible refine Kd.C_drewN ?_ _) | (with_reducible refine Kd.C_drew ?_))); (case side2 => exact HC0.out); rintro e w6 ⟨v102, rfl, ho0, hb⟩; have n0_ := Aside0.mk (Kd.R_lower ho0 (below_size (by repeat (first | exact HB.out | apply below_alloc | apply pw_below_drewN | apply below_drew1)))); have n1_ := Aside0.mk (below_step (by repeat (first | exact HB.out | apply below_alloc | apply pw_below_drewN | apply below_drew1)) hb); clear HB; have HO103 := n0_; have HB := n1_; clear n0_ n1_; (try clear hb); (try clear ho0); obtain ⟨Ao7, co7, eo7⟩ := Kd.R_slice HO103.out; subst eo7) | (go_at_call 130; (with_reducible refine (impl_PointsPut.calls k _ _ t101 t104 _ ?side1 ?side2 A4.out).mono ?_); (case side1 => repeat (first | exact (Kd.R_reads' HO103.out).2.2 | (with_reducible refine Kd.C_alloc ?_ _) | (with_reducible refine Kd.C_drewN ?_ _) | (with_reducible refine Kd.C_drew ?_))); (case side2 => exact (Kd.R_reads' HO103.out).2.1); rintro e w8 ⟨v105, rfl, ho0, hb⟩; have n0_ := Aside0.mk (Kd.R_below HO103.out hb); have n1_ := Aside0.mk (Kd.R_lower ho0 (below_size (by repeat (first | exact HB.out | apply below_alloc | apply pw_below_drewN | apply below_drew1)))); have n2_ := Aside0.mk (below_step (by repeat (first | exact HB.out | apply below_alloc | apply pw_below_drewN | apply below_drew1)) hb); clear HO103; clear HB; have HO103 := n0_; have HO106 := n1_; have HB := n2_; clear n0_ n1_ n2_; (try clear hb); (try clear ho0); obtain ⟨Ao9, co9, eo9⟩ := Kd.R_slice HO106.out; subst eo9) | (go_at_call 129; (with_reducible refine (bytes_Equal.calls _ _ t104 _ _ l0 t107 _ ?side1 ?side2 ?side3 ?side4 A5.out).mono ?_); (case side1 => repeat (first | exact (Kd.R_reads' HO106.out).2.2 | (with_reducible refine Kd.C_alloc ?_ _) | (with_reducible refine Kd.C_drewN ?_ _) | (with_reducible refine Kd.C_drew ?_))); (case side2 => exact (Kd.R_reads' HO106.out).2.1); (case side3 => exact (Kd.C_below HR0.out HB.out)); (case side4 => exact HC0.out); rintro e w' ⟨rfl, ⟨nd, rfl⟩⟩))
   go_ret
   exact ⟨by first | rfl | (simp [*] <;> rfl), by repeat (first | exact HB.out | apply below_alloc | apply pw_below_drewN | apply below_drew1)⟩
 · rw [if_neg c2] at H
   have c2b0 : decide ((l0.length : Int) ≤ 3000) = false := decide_eq_false c2
   have c2b1 : decide (l0.length ≤ 3000) = false := decide_eq_false (by omega)
   clear c2
   obtain rfl := Option.some.inj H
   go_enter Try.func113, Try.ntmps113
   go_wp2
   go_ret
   exact ⟨by first | rfl | (simp [*] <;> rfl), by repeat (first | exact HB.out | apply below_alloc | apply pw_below_drewN | apply below_drew1)⟩
def impl_textOk.f (k : Nat) (a0 : ByteArray) : Option (Bool) := if a0.size ≤ 140737488355328 then ((impl_UtfOk.f k (bytesOf a0)).bind fun t104 => (some t104)) else (none)
theorem impl_textOk.mono : ∀ a0 k, LeO (impl_textOk.f k a0) (impl_textOk.f (k + 1) a0) := by
 intro a0 k
 unfold impl_textOk.f
 repeat' first
  | (with_reducible exact impl_UtfOk.mono _ _)
  | (with_reducible exact LeO.refl _)
  | (with_reducible exact LeO.none _)
  | (with_reducible refine LeO.ite ?_ ?_)
  | (with_reducible refine LeO.bind ?_ (fun _ => ?_))
  | exact impl_UtfOk.mono _ _
  | exact LeO.none _
  | refine LeO.ite ?_ ?_
  | refine LeO.bind ?_ (fun _ => ?_)
set_option maxHeartbeats 8000000 in
set_option maxRecDepth 100000 in
theorem impl_textOk.calls (k : Nat) (a0 : ByteArray) (r : Bool) (w : World) (h : impl_textOk.f k a0 = some r) :
 Calls Try.prog 86 #[.string a0] w fun e w' => e = .returned (.bool r) ∧ Below w.heap.size w w' := by
 have HB := Aside0.mk (Below.refl w.heap.size w)
 have H : (if a0.size ≤ 140737488355328 then ((impl_UtfOk.f k (bytesOf a0)).bind fun t104 => (some t104)) else (none)) = some r := h
 clear h
 by_cases c2 : a0.size ≤ 140737488355328
 · rw [if_pos c2] at H
   have c2b0 := eq_true c2
   have c2b1 : decide (a0.size ≤ 140737488355328) = true := decide_eq_true c2
   clear c2
   obtain ⟨y101, hy101⟩ : ∃ y_ : List Int, y_ = (bytesOf a0) := ⟨_, rfl⟩
   replace H : ((impl_UtfOk.f k y101).bind fun t104 => (some t104)) = some r := by first | (rw [hy101]; with_reducible exact H) | (have H2_ := (Option.bind_some _ _).symm.trans H; rw [hy101]; with_reducible exact H2_) | (have H2_ := (Option.bind_some _ _).symm.trans H; with_reducible exact H2_) | with_reducible exact H | (rw [hy101]; exact H) | exact H
   have Ny101 := Aside0.mk hy101
   clear hy101
   replace H := Option.bind_eq_some_iff.mp H
   obtain ⟨t104, A30, H⟩ := H
   replace H : (some t104) = some r := H
   have A3 := Aside0.mk A30
   clear A30
   obtain rfl := Option.some.inj H
   go_enter Try.func86, Try.ntmps86
   go_wp2_with (first | ((with_reducible refine gate_dst (N := 4) rfl ?_); refine conv_V _ 5 rfl (N' := 4) rfl 9 52 _ rfl a0 rfl Try.underlying9 Try.underlying52 Try.underlying5 (of_decide_eq_true (by assumption) : a0.size ≤ 140737488355328) (ok := fun k_ => w.heap.size ≤ k_) (Nat.le_refl _) (Below.refl _ _) (Nat.le_refl _) ?_; intro v102 w4 ho5 hb hg_ hnew_; clear hg_ hnew_; (first | rw [← Ny101.out] at ho5 | (simp only [Int.reduceToNat] at ho5; rw [← Ny101.out] at ho5)); have n0_ := Aside0.mk (Kd.V_lower (Kd.V_mono (ok' := fun k_ => True) ho5 (fun k_ hk_ => trivial)) (below_size (HB.out))); have n1_ := Aside0.mk (below_step (HB.out) hb); clear HB; have HO103 := n0_; have HB := n1_; clear n0_ n1_; clear hb ho5; obtain ⟨Ao6, co6, eo6⟩ := Kd.V_slice HO103.out; subst eo6) | ((with_reducible refine gate_callee (f := 113) rfl ?_); refine goesL_ (some 5) rfl rfl Try.func113 (by kernel_rfl) rfl #[.slice Ao6 y101.length co6] rfl (by (try simp only [List.map_toArray, List.map_cons, List.map_nil]); first | done | rfl | (simp only [List.length_drop, List.length_take]; rfl)) ?_; (with_reducible refine (impl_UtfOk.calls k _ _ y101 t104 _ ?side1 ?side2 A3.out).mono ?_); (case side1 => repeat (first | exact (Kd.V_reads' HO103.out).2.2 | (with_reducible refine Kd.C_alloc ?_ _) | (with_reducible refine Kd.C_drewN ?_ _) | (with_reducible refine Kd.C_drew ?_))); (case side2 => exact (Kd.V_reads' HO103.out).2.1); rintro e w7 ⟨rfl, hb⟩; refine ⟨_, rfl, ?_⟩; have n0_ := Aside0.mk (Kd.V_below HO103.out hb); have n1_ := Aside0.mk (below_step (HB.out) hb); clear HO103; clear HB; have HO103 := n0_; have HB := n1_; clear n0_ n1_; (try clear hb); (try clear hb2); (try clear hk); (try clear hi)))
   go_ret
   exact ⟨by first | rfl | (simp [*] <;> rfl), HB.out⟩
 · rw [if_neg c2] at H
   exact absurd H (by simp)
def impl_doctypeOk.f (k : Nat) (a0 : ByteArray) : Option (Bool) := if (a0.size : Int) ≤ 60 then ((impl_textOk.f k a0).bind fun t101 => (some t101)) else (some false)
theorem impl_doctypeOk.mono : ∀ a0 k, LeO (impl_doctypeOk.f k a0) (impl_doctypeOk.f (k + 1) a0) := by
 intro a0 k
 unfold impl_doctypeOk.f
 repeat' first
  | (with_reducible exact impl_textOk.mono _ _)
  | (with_reducible exact LeO.refl _)
  | (with_reducible exact LeO.none _)
  | (with_reducible refine LeO.ite ?_ ?_)
  | (with_reducible refine LeO.bind ?_ (fun _ => ?_))
  | exact impl_textOk.mono _ _
  | exact LeO.none _
  | refine LeO.ite ?_ ?_
  | refine LeO.bind ?_ (fun _ => ?_)
set_option maxHeartbeats 8000000 in
set_option maxRecDepth 100000 in
theorem impl_doctypeOk.calls (k : Nat) (a0 : ByteArray) (r : Bool) (w : World) (h : impl_doctypeOk.f k a0 = some r) :
 Calls Try.prog 83 #[.string a0] w fun e w' => e = .returned (.bool r) ∧ Below w.heap.size w w' := by
 have HB := Aside0.mk (Below.refl w.heap.size w)
 have H : (if (a0.size : Int) ≤ 60 then ((impl_textOk.f k a0).bind fun t101 => (some t101)) else (some false)) = some r := h
 clear h
 by_cases c2 : (a0.size : Int) ≤ 60
 · rw [if_pos c2] at H
   have c2b0 : decide ((a0.size : Int) ≤ 60) = true := decide_eq_true c2
   have c2b1 : decide (a0.size ≤ 60) = true := decide_eq_true (by omega)
   clear c2
   replace H := Option.bind_eq_some_iff.mp H
   obtain ⟨t101, A30, H⟩ := H
   replace H : (some t101) = some r := H
   have A3 := Aside0.mk A30
   clear A30
   obtain rfl := Option.some.inj H
   go_enter Try.func83, Try.ntmps83
   go_wp2_with (first | (go_at_call 86; (with_reducible refine (impl_textOk.calls k a0 t101 _ A3.out).mono ?_); rintro e w4 ⟨rfl, hb⟩; have n0_ := Aside0.mk (below_step (by repeat (first | exact HB.out | apply below_alloc | apply pw_below_drewN | apply below_drew1)) hb); clear HB; have HB := n0_; clear n0_; (try clear hb); (try clear hb2); (try clear hk); (try clear hi)))
   go_ret
   exact ⟨by first | rfl | (simp [*] <;> rfl), by repeat (first | exact HB.out | apply below_alloc | apply pw_below_drewN | apply below_drew1)⟩
 · rw [if_neg c2] at H
   have c2b0 : decide ((a0.size : Int) ≤ 60) = false := decide_eq_false c2
   have c2b1 : decide (a0.size ≤ 60) = false := decide_eq_false (by omega)
   clear c2
   obtain rfl := Option.some.inj H
   go_enter Try.func83, Try.ntmps83
   go_wp2
   go_ret
   exact ⟨by first | rfl | (simp [*] <;> rfl), by repeat (first | exact HB.out | apply below_alloc | apply pw_below_drewN | apply below_drew1)⟩
def impl_IsBlank.f (a0 : Int) : Option (Bool) := if a0 = 9 then (some true) else (if a0 = 10 then (some true) else (if a0 = 12 then (some true) else (some (a0 == 32))))
set_option maxHeartbeats 8000000 in
set_option maxRecDepth 100000 in
theorem impl_IsBlank.calls (a0 : Int) (r : Bool) (w : World) (h : impl_IsBlank.f a0 = some r) :
 Calls Try.prog 126 #[.int .i64 a0] w fun e w' => e = .returned (.bool r) ∧ Drawn0 w w' := by
 have H : (if a0 = 9 then (some true) else (if a0 = 10 then (some true) else (if a0 = 12 then (some true) else (some (a0 == 32))))) = some r := h
 clear h
 by_cases c2 : a0 = 9
 · rw [if_pos c2] at H
   have c2b0 : (a0 == 9) = true := beq_iff_eq.mpr c2
   have c2b1 : (a0 != 9) = false := bne_eq_false_iff_eq.mpr c2
   clear c2
   obtain rfl := Option.some.inj H
   go_enter Try.func126, Try.ntmps126
   go_wp2
   go_ret
   exact ⟨by first | rfl | (simp; done) | (simp [*]; done), by repeat (first | exact Drawn0.refl _ | apply Drawn0.step)⟩
 · rw [if_neg c2] at H
   have c2b0 : (a0 == 9) = false := beq_eq_false_iff_ne.mpr c2
   have c2b1 : (a0 != 9) = true := bne_iff_ne.mpr c2
   by_cases c3 : a0 = 10
   · rw [if_pos c3] at H
     have c3b0 : (a0 == 10) = true := beq_iff_eq.mpr c3
     have c3b1 : (a0 != 10) = false := bne_eq_false_iff_eq.mpr c3
     clear c3
     obtain rfl := Option.some.inj H
     go_enter Try.func126, Try.ntmps126
     go_wp2
     go_ret
     exact ⟨by first | rfl | (simp; done) | (simp [*]; done), by repeat (first | exact Drawn0.refl _ | apply Drawn0.step)⟩
   · rw [if_neg c3] at H
     have c3b0 : (a0 == 10) = false := beq_eq_false_iff_ne.mpr c3
     have c3b1 : (a0 != 10) = true := bne_iff_ne.mpr c3
     by_cases c4 : a0 = 12
     · rw [if_pos c4] at H
       have c4b0 : (a0 == 12) = true := beq_iff_eq.mpr c4
       have c4b1 : (a0 != 12) = false := bne_eq_false_iff_eq.mpr c4
       clear c4
       obtain rfl := Option.some.inj H
       go_enter Try.func126, Try.ntmps126
       go_wp2
       go_ret
       exact ⟨by first | rfl | (simp; done) | (simp [*]; done), by repeat (first | exact Drawn0.refl _ | apply Drawn0.step)⟩
     · rw [if_neg c4] at H
       have c4b0 : (a0 == 12) = false := beq_eq_false_iff_ne.mpr c4
       have c4b1 : (a0 != 12) = true := bne_iff_ne.mpr c4
       obtain rfl := Option.some.inj H
       go_enter Try.func126, Try.ntmps126
       go_wp2
       go_ret
       exact ⟨by first | rfl | (simp; done) | (simp [*]; done), by repeat (first | exact Drawn0.refl _ | apply Drawn0.step)⟩
def impl_isOuter.f (a0 : Int) : Option (Bool) := (impl_IsBlank.f a0).bind fun t101 => (if t101 = true then (some true) else (if a0 = 47 then (some true) else (if a0 = 62 then (some true) else (if a0 = 0 then (some true) else ((impl_inRange.f a0 65 90).bind fun t102 => (some t102))))))
set_option maxHeartbeats 8000000 in
set_option maxRecDepth 100000 in
theorem impl_isOuter.calls (a0 : Int) (r : Bool) (w : World) (h : impl_isOuter.f a0 = some r) :
 Calls Try.prog 110 #[.int .i64 a0] w fun e w' => e = .returned (.bool r) ∧ Drawn0 w w' := by
 have H : ((impl_IsBlank.f a0).bind fun t101 => (if t101 = true then (some true) else (if a0 = 47 then (some true) else (if a0 = 62 then (some true) else (if a0 = 0 then (some true) else ((impl_inRange.f a0 65 90).bind fun t102 => (some t102))))))) = some r := h
 clear h
 replace H := Option.bind_eq_some_iff.mp H
 obtain ⟨t101, A20, H⟩ := H
 replace H : (if t101 = true then (some true) else (if a0 = 47 then (some true) else (if a0 = 62 then (some true) else (if a0 = 0 then (some true) else ((impl_inRange.f a0 65 90).bind fun t102 => (some t102)))))) = some r := H
 have A2 := Aside0.mk A20
 clear A20
 by_cases c3 : t101 = true
 · subst c3
   rw [if_pos rfl] at H
   obtain rfl := Option.some.inj H
   go_enter Try.func110, Try.ntmps110
   go_wp2_with (first | ((with_reducible refine gate_callee (f := 126) rfl ?_); refine goesL_ (some 4) rfl rfl Try.func126 (by kernel_rfl) rfl #[.int .i64 a0] rfl (by (try simp only [List.map_toArray, List.map_cons, List.map_nil]); first | done | rfl | (simp only [List.length_drop, List.length_take]; rfl)) ?_; (with_reducible refine (impl_IsBlank.calls a0 true _ A2.out).mono ?_); rintro e w' ⟨rfl, ⟨nd, rfl⟩⟩; refine ⟨_, rfl, ?_⟩))
   go_ret
   exact ⟨by first | rfl | (simp; done) | (simp [*]; done), by repeat (first | exact Drawn0.refl _ | apply Drawn0.step)⟩
 · replace c3 := Bool.eq_false_iff.mpr c3
   subst c3
   rw [if_neg (show ¬ (false = true) by decide)] at H
   by_cases c4 : a0 = 47
   · rw [if_pos c4] at H
     have c4b0 : (a0 == 47) = true := beq_iff_eq.mpr c4
     have c4b1 : (a0 != 47) = false := bne_eq_false_iff_eq.mpr c4
     clear c4
     obtain rfl := Option.some.inj H
     go_enter Try.func110, Try.ntmps110
     go_wp2_with (first | ((with_reducible refine gate_callee (f := 126) rfl ?_); refine goesL_ (some 4) rfl rfl Try.func126 (by kernel_rfl) rfl #[.int .i64 a0] rfl (by (try simp only [List.map_toArray, List.map_cons, List.map_nil]); first | done | rfl | (simp only [List.length_drop, List.length_take]; rfl)) ?_; (with_reducible refine (impl_IsBlank.calls a0 false _ A2.out).mono ?_); rintro e w' ⟨rfl, ⟨nd, rfl⟩⟩; refine ⟨_, rfl, ?_⟩))
     go_ret
     exact ⟨by first | rfl | (simp; done) | (simp [*]; done), by repeat (first | exact Drawn0.refl _ | apply Drawn0.step)⟩
   · rw [if_neg c4] at H
     have c4b0 : (a0 == 47) = false := beq_eq_false_iff_ne.mpr c4
     have c4b1 : (a0 != 47) = true := bne_iff_ne.mpr c4
     by_cases c5 : a0 = 62
     · rw [if_pos c5] at H
       have c5b0 : (a0 == 62) = true := beq_iff_eq.mpr c5
       have c5b1 : (a0 != 62) = false := bne_eq_false_iff_eq.mpr c5
       clear c5
       obtain rfl := Option.some.inj H
       go_enter Try.func110, Try.ntmps110
       go_wp2_with (first | ((with_reducible refine gate_callee (f := 126) rfl ?_); refine goesL_ (some 4) rfl rfl Try.func126 (by kernel_rfl) rfl #[.int .i64 a0] rfl (by (try simp only [List.map_toArray, List.map_cons, List.map_nil]); first | done | rfl | (simp only [List.length_drop, List.length_take]; rfl)) ?_; (with_reducible refine (impl_IsBlank.calls a0 false _ A2.out).mono ?_); rintro e w' ⟨rfl, ⟨nd, rfl⟩⟩; refine ⟨_, rfl, ?_⟩))
       go_ret
       exact ⟨by first | rfl | (simp; done) | (simp [*]; done), by repeat (first | exact Drawn0.refl _ | apply Drawn0.step)⟩
     · rw [if_neg c5] at H
       have c5b0 : (a0 == 62) = false := beq_eq_false_iff_ne.mpr c5
       have c5b1 : (a0 != 62) = true := bne_iff_ne.mpr c5
       by_cases c6 : a0 = 0
       · rw [if_pos c6] at H
         have c6b0 : (a0 == 0) = true := beq_iff_eq.mpr c6
         have c6b1 : (a0 != 0) = false := bne_eq_false_iff_eq.mpr c6
         clear c6
         obtain rfl := Option.some.inj H
         go_enter Try.func110, Try.ntmps110
         go_wp2_with (first | ((with_reducible refine gate_callee (f := 126) rfl ?_); refine goesL_ (some 4) rfl rfl Try.func126 (by kernel_rfl) rfl #[.int .i64 a0] rfl (by (try simp only [List.map_toArray, List.map_cons, List.map_nil]); first | done | rfl | (simp only [List.length_drop, List.length_take]; rfl)) ?_; (with_reducible refine (impl_IsBlank.calls a0 false _ A2.out).mono ?_); rintro e w' ⟨rfl, ⟨nd, rfl⟩⟩; refine ⟨_, rfl, ?_⟩))
         go_ret
         exact ⟨by first | rfl | (simp; done) | (simp [*]; done), by repeat (first | exact Drawn0.refl _ | apply Drawn0.step)⟩
       · rw [if_neg c6] at H
         have c6b0 : (a0 == 0) = false := beq_eq_false_iff_ne.mpr c6
         have c6b1 : (a0 != 0) = true := bne_iff_ne.mpr c6
         replace H := Option.bind_eq_some_iff.mp H
         obtain ⟨t102, A70, H⟩ := H
         replace H : (some t102) = some r := H
         have A7 := Aside0.mk A70
         clear A70
         obtain rfl := Option.some.inj H
         go_enter Try.func110, Try.ntmps110
         go_wp2_with (first | ((with_reducible refine gate_callee (f := 126) rfl ?_); refine goesL_ (some 4) rfl rfl Try.func126 (by kernel_rfl) rfl #[.int .i64 a0] rfl (by (try simp only [List.map_toArray, List.map_cons, List.map_nil]); first | done | rfl | (simp only [List.length_drop, List.length_take]; rfl)) ?_; (with_reducible refine (impl_IsBlank.calls a0 false _ A2.out).mono ?_); rintro e w' ⟨rfl, ⟨nd, rfl⟩⟩; refine ⟨_, rfl, ?_⟩) | (go_at_call 40; (with_reducible refine (impl_inRange.calls a0 65 90 t102 _ A7.out).mono ?_); rintro e w' ⟨rfl, ⟨nd, rfl⟩⟩))
         go_ret
         exact ⟨by first | rfl | (simp; done) | (simp [*]; done), by repeat (first | exact Drawn0.refl _ | apply Drawn0.step)⟩
end Go.Proofs.Ytgneacekgbjkkaa.X
