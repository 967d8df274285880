/- What the Go functions that FnExactPrintOf reaches compute, and that their walks come to just that (written by a program of this project over the kit's print). Conditions: as each states. -/
import Derived.Lib.SlBytesConst
import Derived.Deep.RegionHeld3
import Derived.Deep.QuietTactic
import Derived.BigQuiet
import Derived.Test.YtlnmmcipioagaaaGreatDoorKFnExactPrintOfx1
set_option maxHeartbeats 64000000
set_option maxRecDepth 100000
namespace Go.Proofs.YtlnmmcipioagaaaGreatDoor.X
open Go.RowKit Go.Proofs.YtlnmmcipioagaaaGreatDoorW.PrintWords Go.Proofs.YtlnmmcipioagaaaGreatDoorW.PrintLast Go.Proofs.YtlnmmcipioagaaaGreatDoorW.PrintMore
attribute [local go_sem] max2_int min2_int max_two min_two max_three min_three max_four min_four
set_option linter.unusedVariables false
set_option linter.unusedSimpArgs false
mutual
def spec_TreeOk.l0 : Nat → Int → List Bool → Int → List (S41) → Option (Bool)
 | 0, _, _, _, _ => none
 | k + 1, x3, x4, x5, x102000 => if x5 < x3 then (if 0 ≤ x5 then (if x5 < (x102000.length : Int) then ((spec_l6Node.f k ((rd_T41 x102000 x5).f0) ((rd_T41 x102000 x5).f1) ((rd_T41 x102000 x5).f2) ((rd_T41 x102000 x5).f3) ((rd_T41 x102000 x5).f4) ((rd_T41 x102000 x5).f5)).bind fun t108 => (if t108 = true then (if ((((rd_T41 x102000 x5).f0) == 1) != (x5 == 0)) = true then (spec_TreeOk.j1 k x3 x4 x5 true x102000 ((rd_T41 x102000 x5).f0) ((rd_T41 x102000 x5).f1) ((rd_T41 x102000 x5).f2) ((rd_T41 x102000 x5).f3) ((rd_T41 x102000 x5).f4) ((rd_T41 x102000 x5).f5)) else ((spec_l1In.f ((rd_T41 x102000 x5).f4) (-1) (wrap64 (x3 - 1))).bind fun t109 => (if t109 = true then (if x5 = 0 then (spec_TreeOk.j1 k x3 x4 x5 (((rd_T41 x102000 x5).f4) != (-1)) x102000 ((rd_T41 x102000 x5).f0) ((rd_T41 x102000 x5).f1) ((rd_T41 x102000 x5).f2) ((rd_T41 x102000 x5).f3) ((rd_T41 x102000 x5).f4) ((rd_T41 x102000 x5).f5)) else (spec_TreeOk.j1 k x3 x4 x5 false x102000 ((rd_T41 x102000 x5).f0) ((rd_T41 x102000 x5).f1) ((rd_T41 x102000 x5).f2) ((rd_T41 x102000 x5).f3) ((rd_T41 x102000 x5).f4) ((rd_T41 x102000 x5).f5))) else (spec_TreeOk.j1 k x3 x4 x5 true x102000 ((rd_T41 x102000 x5).f0) ((rd_T41 x102000 x5).f1) ((rd_T41 x102000 x5).f2) ((rd_T41 x102000 x5).f3) ((rd_T41 x102000 x5).f4) ((rd_T41 x102000 x5).f5))))) else (spec_TreeOk.j1 k x3 x4 x5 true x102000 ((rd_T41 x102000 x5).f0) ((rd_T41 x102000 x5).f1) ((rd_T41 x102000 x5).f2) ((rd_T41 x102000 x5).f3) ((rd_T41 x102000 x5).f4) ((rd_T41 x102000 x5).f5)))) else (none)) else (none)) else (spec_TreeOk.l2 k x3 x4 0 x102000)
def spec_TreeOk.j1 : Nat → Int → List Bool → Int → Bool → List (S41) → Int → ByteArray → List (S72) → ByteArray → Int → List Int → Option (Bool)
 | 0, _, _, _, _, _, _, _, _, _, _, _ => none
 | k + 1, x3, x4, x5, x57, x102000, x108000, x108001, x108002, x108003, x108004, x108005 => if x57 = true then (some false) else (spec_TreeOk.l1 k x3 x4 x5 0 x102000 x108000 x108001 x108002 x108003 x108004 x108005)
def spec_TreeOk.l1 : Nat → Int → List Bool → Int → Int → List (S41) → Int → ByteArray → List (S72) → ByteArray → Int → List Int → Option (Bool)
 | 0, _, _, _, _, _, _, _, _, _, _, _ => none
 | k + 1, x3, x4, x5, x7, x102000, x108000, x108001, x108002, x108003, x108004, x108005 => if x7 < (x108005.length : Int) then (if 0 ≤ x7 then ((spec_l1In.f (rd x108005 x7) 1 (wrap64 (x3 - 1))).bind fun t111 => (if t111 = true then (if 0 ≤ (rd x108005 x7) then (if (rd x108005 x7) < (x4.length : Int) then (if rdOf false x4 (rd x108005 x7) = true then (some false) else (if (rd x108005 x7) < (x102000.length : Int) then (if ((rd_T41 x102000 (rd x108005 x7)).f4) = x5 then (spec_TreeOk.l1 k x3 (x4.set ((rd x108005 x7) : Int).toNat true) x5 (wrap64 (x7 + 1)) x102000 x108000 x108001 x108002 x108003 x108004 x108005) else (some false)) else (none))) else (none)) else (none)) else (some false))) else (none)) else (spec_TreeOk.l0 k x3 x4 (wrap64 (x5 + 1)) x102000)
def spec_TreeOk.l2 : Nat → Int → List Bool → Int → List (S41) → Option (Bool)
 | 0, _, _, _, _ => none
 | k + 1, x3, x4, x9, x102000 => if x9 < x3 then (if 0 ≤ x9 then (if x9 < (x4.length : Int) then (if x9 < (x102000.length : Int) then (if ((rdOf false x4 x9) != (decide (((rd_T41 x102000 x9).f4) ≥ 0))) = true then (some false) else (spec_TreeOk.l3 k x3 x4 x9 x9 0 x102000)) else (none)) else (none)) else (none)) else (some true)
def spec_TreeOk.l3 : Nat → Int → List Bool → Int → Int → Int → List (S41) → Option (Bool)
 | 0, _, _, _, _, _, _ => none
 | k + 1, x3, x4, x9, x10, x11, x102000 => if x10 ≥ 0 then (if x11 > x3 then (some false) else (if 0 ≤ x10 then (if x10 < (x102000.length : Int) then (spec_TreeOk.l3 k x3 x4 x9 ((rd_T41 x102000 x10).f4) (wrap64 (x11 + 1)) x102000) else (none)) else (none))) else (spec_TreeOk.l2 k x3 x4 (wrap64 (x9 + 1)) x102000)
end
def spec_TreeOk.f (k : Nat) (l0_0 : List (S41)) : Option (Bool) := (spec_l1In.f (l0_0.length : Int) 1 500).bind fun t102 => (if t102 = true then (if 0 ≤ (l0_0.length : Int) then (if ((l0_0.length : Int) : Int).toNat ≤ 281474976710656 then (spec_TreeOk.l0 k (l0_0.length : Int) (List.replicate ((l0_0.length : Int) : Int).toNat false) 0 l0_0) else (none)) else (none)) else (some false))
theorem spec_TreeOk.mono_l : ∀ k, (∀ y0 y1 y2 y3, LeO (spec_TreeOk.l0 k y0 y1 y2 y3) (spec_TreeOk.l0 (k + 1) y0 y1 y2 y3)) ∧ (∀ y0 y1 y2 y3 y4 y5 y6 y7 y8 y9 y10, LeO (spec_TreeOk.j1 k y0 y1 y2 y3 y4 y5 y6 y7 y8 y9 y10) (spec_TreeOk.j1 (k + 1) y0 y1 y2 y3 y4 y5 y6 y7 y8 y9 y10)) ∧ (∀ y0 y1 y2 y3 y4 y5 y6 y7 y8 y9 y10, LeO (spec_TreeOk.l1 k y0 y1 y2 y3 y4 y5 y6 y7 y8 y9 y10) (spec_TreeOk.l1 (k + 1) y0 y1 y2 y3 y4 y5 y6 y7 y8 y9 y10)) ∧ (∀ y0 y1 y2 y3, LeO (spec_TreeOk.l2 k y0 y1 y2 y3) (spec_TreeOk.l2 (k + 1) y0 y1 y2 y3)) ∧ (∀ y0 y1 y2 y3 y4 y5, LeO (spec_TreeOk.l3 k y0 y1 y2 y3 y4 y5) (spec_TreeOk.l3 (k + 1) y0 y1 y2 y3 y4 y5))
 | 0 => ⟨fun _ _ _ _ r h => by simp [spec_TreeOk.l0] at h, fun _ _ _ _ _ _ _ _ _ _ _ r h => by simp [spec_TreeOk.j1] at h, fun _ _ _ _ _ _ _ _ _ _ _ r h => by simp [spec_TreeOk.l1] at h, fun _ _ _ _ r h => by simp [spec_TreeOk.l2] at h, fun _ _ _ _ _ _ r h => by simp [spec_TreeOk.l3] at h⟩
 | k + 1 => by
  obtain ⟨ih0, ih1, ih2, ih3, ih4⟩ := spec_TreeOk.mono_l k
  refine ⟨?_, ?_, ?_, ?_, ?_⟩
  ·intro y0 y1 y2 y3
   unfold spec_TreeOk.l0
   repeat' first | exact ih1 _ _ _ _ _ _ _ _ _ _ _ | exact ih3 _ _ _ _ | exact spec_l6Node.mono _ _ _ _ _ _ _ | (with_reducible exact LeO.refl _) | refine LeO.ite ?_ ?_ | refine LeO.bind ?_ (fun _ => ?_)
  ·intro y0 y1 y2 y3 y4 y5 y6 y7 y8 y9 y10
   unfold spec_TreeOk.j1
   exact LeO.ite (LeO.refl _) (ih2 _ _ _ _ _ _ _ _ _ _ _)
  ·intro y0 y1 y2 y3 y4 y5 y6 y7 y8 y9 y10
   unfold spec_TreeOk.l1
   repeat' first | exact ih0 _ _ _ _ | exact ih2 _ _ _ _ _ _ _ _ _ _ _ | (with_reducible exact LeO.refl _) | refine LeO.ite ?_ ?_ | refine LeO.bind ?_ (fun _ => ?_)
  ·intro y0 y1 y2 y3
   unfold spec_TreeOk.l2
   repeat' first | exact ih4 _ _ _ _ _ _ | (with_reducible exact LeO.refl _) | refine LeO.ite ?_ ?_
  ·intro y0 y1 y2 y3 y4 y5
   unfold spec_TreeOk.l3
   repeat' first | exact ih3 _ _ _ _ | exact ih4 _ _ _ _ _ _ | (with_reducible exact LeO.refl _) | refine LeO.ite ?_ ?_
theorem spec_TreeOk.mono : ∀ a0 k, LeO (spec_TreeOk.f k a0) (spec_TreeOk.f (k + 1) a0) := fun a0 k => LeO.bind (LeO.refl _) (fun _ => LeO.ite (LeO.ite (LeO.ite ((spec_TreeOk.mono_l k).1 _ _ _ _) (LeO.refl _)) (LeO.refl _)) (LeO.refl _))
structure SeenW (w W : World) (gt : Nat) (A : Option Addr) (m c : Nat) (gs cap : Nat) (s : List Bool) : Prop where
 box : BoxW w W gt A m c
 row : Kd.R Kd.bool 4 W w.heap.size (fun k => k = gs) (.slice (some ⟨gs, 0, none⟩) m cap) s
 ne : gs ≠ gt
section
variable {w W W2 : World} {gt m c gs cap : Nat} {A : Option Addr} {s : List Bool}
theorem SeenW.below (h : SeenW w W gt A m c gs cap s) (hb : Below W.heap.size W W2) : SeenW w W2 gt A m c gs cap s := ⟨h.box.below hb, Kd.R_below h.row hb, h.ne⟩
theorem SeenW.drewN (h : SeenW w W gt A m c gs cap s) (k : Nat) : SeenW w (W.drewN k) gt A m c gs cap s := ⟨h.box.drewN k, Kd.R_drewN h.row k, h.ne⟩
theorem SeenW.fill (h : SeenW w W gt A m c gs cap s) {gb : Nat} (hb : w.heap.size ≤ gb) (hne : gb ≠ gt) (hne2 : gb ≠ gs) (x : S41) (v2 v5 : Value) : SeenW w (fillN W gb x v2 v5) gt A m c gs cap s :=
 ⟨h.box.fill hb hne x v2 v5, by
  have hf : ∀ k, k = gs → k ≠ gb := fun k hk => by omega
  exact Kd.R_far (p := ⟨gb, 5, none⟩) (Kd.R_far (p := ⟨gb, 4, none⟩) (Kd.R_far (p := ⟨gb, 3, none⟩) (Kd.R_far (p := ⟨gb, 2, none⟩) (Kd.R_far (p := ⟨gb, 1, none⟩) (Kd.R_far (p := ⟨gb, 0, none⟩) h.row hf _) hf _) hf _) hf _) hf _) hf _, h.ne⟩
theorem SeenW.put (h : SeenW w W gt A m c gs cap s) (i : Int) (x : Bool) : SeenW w (W.setCell ⟨gs, i.toNat, none⟩ (.bool x)) gt A m c gs cap (s.set i.toNat x) :=
 ⟨⟨blk_far h.box.blk (p := ⟨gs, i.toNat, none⟩) (Ne.symm h.ne) _, below_set h.box.low (Kd.R_base h.row gs rfl), h.box.ge⟩, Kd.R_putn h.row i x, h.ne⟩
theorem SeenW.at_ (h : SeenW w W gt A m c gs cap s) (i : Int) (h0 : 0 ≤ i) (h1 : i < m) : W.cell? ⟨gs, i.toNat, none⟩ = some (.bool (rdOf false s i)) ∧ W.frozen? ⟨gs, i.toNat, none⟩ = false := Kd.R_celln false h.row i h0 h1
end
theorem spec_TreeOk.calls (k : Nat) (A0_0 : Option Addr) (c0_0 : Nat) (l0_0 : List S41) (r : Bool) (w : World) (hr0_0 : Kd.C k41 w A0_0 l0_0.length l0_0) (hc0_0 : l0_0.length ≤ c0_0) (h : spec_TreeOk.f k l0_0 = some r) :
 Calls Tryz.prog 13 #[.agg #[.slice A0_0 l0_0.length c0_0]] w fun e w' => e = .returned (.bool r) ∧ Below w.heap.size w w' := by
 have HC := Ak hr0_0
 clear hr0_0 hc0_0
 unfold spec_TreeOk.f at h
 obtain ⟨t, A1, h⟩ := Ob h
 have HN0 := Ak (show t = true → 0 < l0_0.length from fun e => by
  subst e
  unfold spec_l1In.f at A1
  split at A1
  ·omega
  ·cases A1)
 have HN1 := Ak (show t = true → l0_0.length ≤ 500 from fun e => by
  subst e
  unfold spec_l1In.f at A1
  split at A1
  ·have := of_decide_eq_true (Oi A1); omega
  ·cases A1)
 replace A1 := Ak A1
 cases t with
 | false =>
  rw [if_neg (by decide)] at h
  obtain rfl := Oi h
  clear h HN0 HN1
  go_enter Tryz.func13, Tryz.ntmps13
  go_wp2_with (first | (go_at_call 27; (with_reducible refine (spec_l1In.calls _ _ _ false _ A1.out).mono ?_); rintro e w' ⟨rfl, ⟨nd, rfl⟩⟩))
  go_ret
  exact ⟨rfl, by repeat (first | exact Below.refl _ _ | apply below_alloc | apply pw_below_drewN)⟩
 | true =>
  rw [if_pos rfl, if_pos (by omega), if_pos (by have := HN1.out rfl; omega)] at h
  have HA := Ak h
  have HM0 := Ak (HN0.out rfl)
  have HM1 := Ak (HN1.out rfl)
  clear h HN0 HN1
  go_enter Tryz.func13, Tryz.ntmps13
  go_wp2_with (first
   | ((with_reducible refine gate_dst (N := 1) rfl ?_); refine box_event ?hg (N := 1) ?hd (cs := #[.slice A0_0 l0_0.length c0_0]) (t := 29) ?hr ?_; (case hd => rfl); (case hg => rfl); (case hr => first | (go_simp; done) | (go_simp; rfl)); intro gt hg w1 hbox hb; have HX := Ak (show BoxW w w1 gt A0_0 l0_0.length c0_0 from ⟨hbox, hb, by rw [hg]; exact Nat.le_refl _⟩); have hcb := HX.out.cell; clear hbox hb hg)
   | (go_at_call 27; (with_reducible refine (spec_l1In.calls _ _ _ true _ A1.out).mono ?_); rintro e w' ⟨rfl, ⟨nd, rfl⟩⟩; have HX2 := Ak (HX.out.drewN nd); clear HX)
   | ((with_reducible refine gate_dst (N := 19) rfl ?_); refine Kd.R_make (w0 := w) Kd.bool w.heap.size 4 rfl (N := 19) rfl 56 _ _ rfl (l0_0.length : Int) rfl rfl Tryz.underlying56 (.bool false) 1 info4 rfl (by decide) (by omega) false (ok := fun k => k ≠ gt) (okp := fun k => k ≠ gt) rfl (fun _ hk => hk) (fun e_ => by have := blk_lt HX2.out.blk; omega) (by omega) (by have := HM1.out; omega) HX2.out.low HX2.out.low.size ?_; intro vs w2 ho hb hg_ hnew_; rw [Int.toNat_natCast] at ho; obtain ⟨gs, cap, ev, _, _, _⟩ := Kd.R_form ho (by have := HM0.out; rw [List.length_replicate]; exact this); rw [List.length_replicate] at ev; subst ev; have HS := Ak (show SeenW w w2 gt A0_0 l0_0.length c0_0 gs cap (List.replicate l0_0.length false) from ⟨⟨blk_grown HX2.out.blk hg_ (by simp), hb, HX2.out.ge⟩, Kd.R_mono (Kd.R_tight rfl ho) (fun k_ hk => by simpa [Value.ownBlock] using hk), Kd.R_away ho (fun k_ hk => hk) |> fun h_ e_ => h_ (by rw [e_]; rfl)⟩); clear ho hb hg_ hnew_ HX2 hcb))
  go_loopg [5] k (fun kq v5 w' => ∃ (i : Int) (s : List Bool), v5 = .int .i64 i ∧ Aside0 (spec_TreeOk.l0 kq (l0_0.length : Int) s i l0_0 = some r) ∧ Aside0 (kq ≤ k) ∧ Aside0 (SeenW w w' gt A0_0 l0_0.length c0_0 gs cap s))
  case atStart => exact ⟨0, _, rfl, (by rw [Int.toNat_natCast] at HA; exact HA), ⟨Nat.le_refl _⟩, HS⟩
  case round =>
   clear HA HS
   obtain ⟨i, s, rfl, HA, HK, HS⟩ := hrel
   cases gk with
   | zero => exact absurd HA.out (by simp [spec_TreeOk.l0])
   | succ k1 =>
    have H := HA.out
    clear HA
    simp only [spec_TreeOk.l0] at H
    by_cases c1 : i < (l0_0.length : Int)
    ·rw [if_pos c1] at H
     by_cases c2 : 0 ≤ i
     ·rw [if_pos c2, if_pos c1] at H
      have c1b : decide (i < (l0_0.length : Int)) = true := decide_eq_true c1
      obtain ⟨ad, A_2, c_2, A_5, c_5, e1, hx0, hx1, hx2, hx3, hx4, hx5, hl2, hi2, hl5, hi5⟩ := at_T41 HC.out i c2 c1
      subst e1
      replace hx0 := pw_cell_below HS.out.box.low hx0
      replace hx1 := pw_cell_below HS.out.box.low hx1
      replace hx2 := pw_cell_below HS.out.box.low hx2
      replace hx3 := pw_cell_below HS.out.box.low hx3
      replace hx4 := pw_cell_below HS.out.box.low hx4
      replace hx5 := pw_cell_below HS.out.box.low hx5
      have hcb := HS.out.box.cell
      have HI2 := Ak hi2
      have HI5 := Ak hi5
      have HL2 := Ak hl2
      have HL5 := Ak hl5
      clear hl2 hi2 hl5 hi5
      replace c2 := eq_true c2
      replace c1 := eq_true c1
      go_upto_region 9 with (first | ((with_reducible refine gate_dst (N := 6) rfl ?_); refine box_event ?hg (N := 6) ?hd (cs := #[.int .i64 0, .string (⟨#[]⟩ : ByteArray), .slice none 0 0, .string (⟨#[]⟩ : ByteArray), .int .i64 0, .slice none 0 0]) (t := 41) ?hr ?_; (case hd => rfl); (case hg => rfl); (case hr => first | (go_simp; done) | (go_simp; rfl)); intro gb hg w2 hbox hb; have HNE := Ak (show gb ≠ gt by have := blk_lt HS.out.box.blk; omega); have HNG := Ak (show gs ≠ gb by have := Kd.R_lt HS.out.row gs rfl; omega); have HS2 := Ak (HS.out.below hb); have HGB := Ak (show w.heap.size ≤ gb by rw [hg]; exact below_size HS.out.box.low); have HBX := Ak hbox; have hz0 := blk_cell hbox 0; have hz1 := blk_cell hbox 1; have hz2 := blk_cell hbox 2; have hz3 := blk_cell hbox 3; have hz4 := blk_cell hbox 4; have hz5 := blk_cell hbox 5; have hf := blk_frozen hbox; clear hbox hb hg HS))
      have HB6 := Ak (fillN_blk (rd_T41 l0_0 i) (.slice A_2 (rd_T41 l0_0 i).f2.length c_2) (.slice A_5 (rd_T41 l0_0 i).f5.length c_5) HBX.out)
      have HS := Ak (HS2.out.fill HGB.out HNE.out (Ne.symm HNG.out) (rd_T41 l0_0 i) (.slice A_2 (rd_T41 l0_0 i).f2.length c_2) (.slice A_5 (rd_T41 l0_0 i).f5.length c_5))
      show Code.wp _ _ _ _ (fillN w2 gb (rd_T41 l0_0 i) (.slice A_2 (rd_T41 l0_0 i).f2.length c_2) (.slice A_5 (rd_T41 l0_0 i).f5.length c_5))
      generalize fillN w2 gb (rd_T41 l0_0 i) (.slice A_2 (rd_T41 l0_0 i).f2.length c_2) (.slice A_5 (rd_T41 l0_0 i).f5.length c_5) = w3 at HB6 HS ⊢
      clear hz0 hz1 hz2 hz3 hz4 hz5 hf HBX HS2 hx0 hx1 hx2 hx3 hx4 hx5 HNE HGB hcb
      have hz0 := blk_cell HB6.out 0
      have hz1 := blk_cell HB6.out 1
      have hz2 := blk_cell HB6.out 2
      have hz3 := blk_cell HB6.out 3
      have hz4 := blk_cell HB6.out 4
      have hz5 := blk_cell HB6.out 5
      have HJ2 := Ak (Kd.C_below HI2.out HS.out.box.low)
      have HJ5 := Ak (Kd.C_below HI5.out HS.out.box.low)
      have HH := Ak H
      clear H
      go_cut [57] (fun v57 wc => ∃ (kq : Nat) (b : Bool), v57 = .bool b ∧ Aside0 (spec_TreeOk.j1 kq (l0_0.length : Int) s i b l0_0 (rd_T41 l0_0 i).f0 (rd_T41 l0_0 i).f1 (rd_T41 l0_0 i).f2 (rd_T41 l0_0 i).f3 (rd_T41 l0_0 i).f4 (rd_T41 l0_0 i).f5 = some r) ∧ Aside0 (kq ≤ k1) ∧ Aside0 (SeenW w wc gt (some ad) l0_0.length c0_0 gs cap s) ∧ Aside0 (wc.heap[gb]? = some (.cells #[.int .i64 (rd_T41 l0_0 i).f0, .string (rd_T41 l0_0 i).f1, (.slice A_2 (rd_T41 l0_0 i).f2.length c_2), .string (rd_T41 l0_0 i).f3, .int .i64 (rd_T41 l0_0 i).f4, (.slice A_5 (rd_T41 l0_0 i).f5.length c_5)] 41 (0, 0))))
      case first =>
       have H := HH.out
       clear HH
       obtain ⟨t, A2, H⟩ := Ob H
       replace A2 := Ak A2
       cases t with
       | false =>
        rw [if_neg (by decide)] at H
        have HA := Ak H
        clear H
        go_wp2_with (first | (go_at_call 28; (with_reducible refine (spec_l6Node.calls k1 _ _ _ _ _ _ _ _ _ _ false _ HJ2.out HL2.out HJ5.out HL5.out A2.out).mono ?_); rintro e w4 ⟨rfl, hb⟩; have HS4 := Ak (HS.out.below hb); have HB4 := Ak (blk_below HB6.out hb); have hy0 := blk_cell HB4.out 0; have hy4 := blk_cell HB4.out 4; clear hb))
        go_meet
        case rel => exact ⟨_, true, rfl, HA, ⟨by have := HK.out; omega⟩, HS4, HB4⟩
       | true =>
        rw [if_pos rfl] at H
        by_cases c3 : (((rd_T41 l0_0 i).f0 == 1) != (i == 0)) = true
        ·rw [if_pos c3] at H
         have c3b1 : decide (((rd_T41 l0_0 i).f0 == 1) = (i == 0)) = false := by simpa using c3
         have c3b2 : (((rd_T41 l0_0 i).f0 == 1) == (i == 0)) = false := by simpa using c3
         have c3b3 : ¬ (((rd_T41 l0_0 i).f0 == 1) = (i == 0)) := by simpa using c3
         have HA := Ak H
         clear H
         go_wp2_with (first | (go_at_call 28; (with_reducible refine (spec_l6Node.calls k1 _ _ _ _ _ _ _ _ _ _ true _ HJ2.out HL2.out HJ5.out HL5.out A2.out).mono ?_); rintro e w4 ⟨rfl, hb⟩; have HS4 := Ak (HS.out.below hb); have HB4 := Ak (blk_below HB6.out hb); have hy0 := blk_cell HB4.out 0; have hy4 := blk_cell HB4.out 4; clear hb))
         go_meet
         case rel => exact ⟨_, true, rfl, HA, ⟨by have := HK.out; omega⟩, HS4, HB4⟩
        ·rw [if_neg c3] at H
         obtain ⟨u, A3, H⟩ := Ob H
         replace A3 := Ak A3
         cases u with
         | false =>
          rw [if_neg (by decide)] at H
          have c3b : (((rd_T41 l0_0 i).f0 == 1) != (i == 0)) = false := Bool.eq_false_iff.mpr c3
          have c3b1 : decide (((rd_T41 l0_0 i).f0 == 1) = (i == 0)) = true := by simpa using c3
          have c3b2 : (((rd_T41 l0_0 i).f0 == 1) == (i == 0)) = true := by simpa using c3
          clear c3
          have HA := Ak H
          clear H
          go_wp2_with (first | (go_at_call 28; (with_reducible refine (spec_l6Node.calls k1 _ _ _ _ _ _ _ _ _ _ true _ HJ2.out HL2.out HJ5.out HL5.out A2.out).mono ?_); rintro e w4 ⟨rfl, hb⟩; have HS4 := Ak (HS.out.below hb); have HB4 := Ak (blk_below HB6.out hb); have hy0 := blk_cell HB4.out 0; have hy4 := blk_cell HB4.out 4; clear hb) | (go_at_call 27; (with_reducible refine (spec_l1In.calls _ _ _ false _ A3.out).mono ?_); rintro e w5 ⟨rfl, ⟨nd, rfl⟩⟩; (try first | exact ⟨rfl, _, World.drewN_drewN _ _ _⟩ | exact ⟨rfl, _, Eq.trans (World.drewN_drewN _ _ _) (congrArg (World.drewN _) (Nat.add_assoc _ _ _))⟩)))
          go_meet
          case rel => exact ⟨_, true, rfl, HA, ⟨by have := HK.out; omega⟩, ⟨SeenW.drewN HS4.out _⟩, HB4⟩
         | true =>
          rw [if_pos rfl] at H
          by_cases c4 : i = 0
          ·rw [if_pos c4] at H
           have c3c : ((rd_T41 l0_0 i).f0 == 1) = true := by have := Bool.eq_false_iff.mpr c3; rw [beq_iff_eq.mpr c4] at this; simpa using this
           have c4b : (i == 0) = true := beq_iff_eq.mpr c4
           clear c3 c4
           have HA := Ak H
           clear H
           go_wp2_with (first | (go_at_call 28; (with_reducible refine (spec_l6Node.calls k1 _ _ _ _ _ _ _ _ _ _ true _ HJ2.out HL2.out HJ5.out HL5.out A2.out).mono ?_); rintro e w4 ⟨rfl, hb⟩; have HS4 := Ak (HS.out.below hb); have HB4 := Ak (blk_below HB6.out hb); have hy0 := blk_cell HB4.out 0; have hy4 := blk_cell HB4.out 4; clear hb) | (go_at_call 27; (with_reducible refine (spec_l1In.calls _ _ _ true _ A3.out).mono ?_); rintro e w5 ⟨rfl, ⟨nd, rfl⟩⟩; (try first | exact ⟨rfl, _, World.drewN_drewN _ _ _⟩ | exact ⟨rfl, _, Eq.trans (World.drewN_drewN _ _ _) (congrArg (World.drewN _) (Nat.add_assoc _ _ _))⟩)))
           go_meet
           case rel => exact ⟨_, ((rd_T41 l0_0 i).f4 != -1), rfl, HA, ⟨by have := HK.out; omega⟩, ⟨SeenW.drewN HS4.out _⟩, HB4⟩
          ·rw [if_neg c4] at H
           have c3c : ((rd_T41 l0_0 i).f0 == 1) = false := by have := Bool.eq_false_iff.mpr c3; rw [beq_eq_false_iff_ne.mpr c4] at this; simpa using this
           have c4b : (i == 0) = false := beq_eq_false_iff_ne.mpr c4
           clear c3 c4
           have HA := Ak H
           clear H
           go_wp2_with (first | (go_at_call 28; (with_reducible refine (spec_l6Node.calls k1 _ _ _ _ _ _ _ _ _ _ true _ HJ2.out HL2.out HJ5.out HL5.out A2.out).mono ?_); rintro e w4 ⟨rfl, hb⟩; have HS4 := Ak (HS.out.below hb); have HB4 := Ak (blk_below HB6.out hb); have hy0 := blk_cell HB4.out 0; have hy4 := blk_cell HB4.out 4; clear hb) | (go_at_call 27; (with_reducible refine (spec_l1In.calls _ _ _ true _ A3.out).mono ?_); rintro e w5 ⟨rfl, ⟨nd, rfl⟩⟩; (try first | exact ⟨rfl, _, World.drewN_drewN _ _ _⟩ | exact ⟨rfl, _, Eq.trans (World.drewN_drewN _ _ _) (congrArg (World.drewN _) (Nat.add_assoc _ _ _))⟩)))
           go_meet
           case rel => exact ⟨_, false, rfl, HA, ⟨by have := HK.out; omega⟩, ⟨SeenW.drewN HS4.out _⟩, HB4⟩
      case rest =>
       obtain ⟨kq, b, rfl, HA, HJ, HS, HB6⟩ := hcut
       clear hz0 hz1 hz2 hz3 hz4 HJ2 HJ5 HH c1b
       cases kq with
       | zero => exact absurd HA.out (by simp [spec_TreeOk.j1])
       | succ kj =>
        have H := HA.out
        clear HA
        simp only [spec_TreeOk.j1] at H
        cases b with
        | true =>
         rw [if_pos (by trivial)] at H
         obtain rfl := Oi H
         clear H
         go_wp2
         go_ret
         exact ⟨rfl, HS.out.box.low⟩
        | false =>
         rw [if_neg (by decide)] at H
         have HA := Ak H
         clear H
         have HG5 := Ak HB6.out
         go_wp2
         go_loopg [7] kj (fun kq v7 w' => ∃ (j : Int) (s : List Bool), v7 = .int .i64 j ∧ Aside0 (spec_TreeOk.l1 kq (l0_0.length : Int) s i j l0_0 (rd_T41 l0_0 i).f0 (rd_T41 l0_0 i).f1 (rd_T41 l0_0 i).f2 (rd_T41 l0_0 i).f3 (rd_T41 l0_0 i).f4 (rd_T41 l0_0 i).f5 = some r) ∧ Aside0 (kq ≤ kj) ∧ Aside0 (SeenW w w' gt (some ad) l0_0.length c0_0 gs cap s) ∧ Aside0 (w'.heap[gb]? = some (.cells #[.int .i64 (rd_T41 l0_0 i).f0, .string (rd_T41 l0_0 i).f1, (.slice A_2 (rd_T41 l0_0 i).f2.length c_2), .string (rd_T41 l0_0 i).f3, .int .i64 (rd_T41 l0_0 i).f4, (.slice A_5 (rd_T41 l0_0 i).f5.length c_5)] 41 (0, 0))))
         case atStart => exact ⟨0, _, rfl, HA, ⟨Nat.le_refl _⟩, HS, HB6⟩
         case round =>
          clear HA HS HB6 hz5 HG5
          obtain ⟨j, s, rfl, HA, HK2, HS, HB6⟩ := hrel
          cases gk with
          | zero => exact absurd HA.out (by simp [spec_TreeOk.l1])
          | succ k2 =>
           have H := HA.out
           clear HA
           simp only [spec_TreeOk.l1] at H
           have hz5 := blk_cell HB6.out 5
           have hcb := HS.out.box.cell
           by_cases c3 : j < ((rd_T41 l0_0 i).f5.length : Int)
           ·rw [if_pos c3] at H
            by_cases c4 : 0 ≤ j
            ·rw [if_pos c4] at H
             obtain ⟨t, A3, H⟩ := Ob H
             replace A3 := Ak A3
             obtain ⟨ak, e2, hy0⟩ := Kd.at_int HI5.out j c4 c3
             subst e2
             replace hy0 := pw_cell_below HS.out.box.low hy0
             have c3b : decide (j < ((rd_T41 l0_0 i).f5.length : Int)) = true := decide_eq_true c3
             replace c3 := eq_true c3
             replace c4 := eq_true c4
             obtain ⟨kid, hkid⟩ : ∃ q : Int, q = rd (rd_T41 l0_0 i).f5 j := ⟨_, rfl⟩
             rw [← hkid] at hy0 H A3
             clear hkid
             cases t with
             | false =>
              rw [if_neg (by decide)] at H
              obtain rfl := Oi H
              clear H
              go_wp2_with (first | (go_at_call 27; (with_reducible refine (spec_l1In.calls _ _ _ false _ A3.out).mono ?_); rintro e w5 ⟨rfl, ⟨nd, rfl⟩⟩))
              go_ret
              exact ⟨rfl, pw_below_drewN HS.out.box.low _⟩
             | true =>
              rw [if_pos rfl] at H
              by_cases c5 : 0 ≤ kid
              ·rw [if_pos c5] at H
               by_cases c6' : kid < (s.length : Int)
               ·rw [if_pos c6'] at H
                have c6 : kid < (l0_0.length : Int) := by have := (Kd.R_reads' HS.out.row).1; omega
                clear c6'
                obtain ⟨hs, hsf⟩ := HS.out.at_ kid c5 c6
                by_cases c8 : rdOf false s kid = true
                ·rw [if_pos c8] at H
                 obtain rfl := Oi H
                 clear H
                 rw [c8] at hs
                 clear c8
                 replace c5 := eq_true c5
                 replace c6 := eq_true c6
                 go_wp2_with (first | (go_at_call 27; (with_reducible refine (spec_l1In.calls _ _ _ true _ A3.out).mono ?_); rintro e w5 ⟨rfl, ⟨nd, rfl⟩⟩))
                 go_ret
                 exact ⟨rfl, pw_below_drewN HS.out.box.low _⟩
                ·rw [if_neg c8, if_pos c6] at H
                 rw [Bool.eq_false_iff.mpr c8] at hs
                 clear c8
                 obtain ⟨ad', A_6, c_6, A_7, c_7, e3, hw0, hw1, hw2, hw3, hw4, hw5, hl6, hi6, hl7, hi7⟩ := at_T41 HC.out kid c5 c6
                 injection e3 with e3
                 subst e3
                 replace hw4 := pw_cell_below HS.out.box.low hw4
                 clear hw0 hw1 hw2 hw3 hw5 hl6 hi6 hl7 hi7
                 replace c5 := eq_true c5
                 replace c6 := eq_true c6
                 by_cases c7 : (rd_T41 l0_0 kid).f4 = i
                 ·rw [if_pos c7] at H
                  have HA := Ak H
                  clear H
                  have c7b : ((rd_T41 l0_0 kid).f4 == i) = true := beq_iff_eq.mpr c7
                  have c7c : ((rd_T41 l0_0 kid).f4 != i) = false := bne_eq_false_iff_eq.mpr c7
                  clear c7
                  go_wp2_with (first | (go_at_call 27; (with_reducible refine (spec_l1In.calls _ _ _ true _ A3.out).mono ?_); rintro e w5 ⟨rfl, ⟨nd, rfl⟩⟩))
                  go_roundg k2
                  case measure => have := HK.out; have := HJ.out; have := HK2.out; omega
                  case rel => exact ⟨_, _, rfl, HA, ⟨by have := HK2.out; omega⟩, ⟨SeenW.put (SeenW.drewN HS.out _) kid true⟩, ⟨blk_far (p := ⟨gs, kid.toNat, none⟩) HB6.out (Ne.symm (HNG.out)) _⟩⟩
                 ·rw [if_neg c7] at H
                  obtain rfl := Oi H
                  clear H
                  have c7b : ((rd_T41 l0_0 kid).f4 == i) = false := beq_eq_false_iff_ne.mpr c7
                  have c7c : ((rd_T41 l0_0 kid).f4 != i) = true := bne_iff_ne.mpr c7
                  clear c7
                  go_wp2_with (first | (go_at_call 27; (with_reducible refine (spec_l1In.calls _ _ _ true _ A3.out).mono ?_); rintro e w5 ⟨rfl, ⟨nd, rfl⟩⟩))
                  go_ret
                  exact ⟨rfl, pw_below_drewN HS.out.box.low _⟩
               ·rw [if_neg c6'] at H; cases H
              ·rw [if_neg c5] at H; cases H
            ·rw [if_neg c4] at H; cases H
           ·rw [if_neg c3] at H
            have HA := Ak H
            clear H
            have c3b : decide (j < ((rd_T41 l0_0 i).f5.length : Int)) = false := decide_eq_false c3
            clear c3
            go_wp2
            go_roundg k2
            case measure => have := HK.out; have := HJ.out; have := HK2.out; omega
            case rel => exact ⟨_, _, rfl, HA, ⟨by have := HK.out; have := HJ.out; have := HK2.out; omega⟩, HS⟩
     ·rw [if_neg c2] at H; cases H
    ·rw [if_neg c1] at H
     have HA := Ak H
     clear H
     have c1b : decide (i < (l0_0.length : Int)) = false := decide_eq_false c1
     clear c1
     go_wp2
     go_loopg [9] k1 (fun kq v9 w' => ∃ (i : Int), v9 = .int .i64 i ∧ Aside0 (spec_TreeOk.l2 kq (l0_0.length : Int) s i l0_0 = some r) ∧ Aside0 (kq ≤ k1) ∧ Aside0 (SeenW w w' gt A0_0 l0_0.length c0_0 gs cap s))
     case atStart => exact ⟨0, rfl, HA, ⟨Nat.le_refl _⟩, HS⟩
     case round =>
      clear HA HS c1b
      obtain ⟨i, rfl, HA, HK2, HS⟩ := hrel
      cases gk with
      | zero => exact absurd HA.out (by simp [spec_TreeOk.l2])
      | succ k2 =>
       have H := HA.out
       clear HA
       simp only [spec_TreeOk.l2] at H
       by_cases c1 : i < (l0_0.length : Int)
       ·rw [if_pos c1] at H
        by_cases c2 : 0 ≤ i
        ·rw [if_pos c2] at H
         by_cases c2' : i < (s.length : Int)
         ·rw [if_pos c2', if_pos c1] at H
          clear c2'
          have c1b : decide (i < (l0_0.length : Int)) = true := decide_eq_true c1
          have hcb := HS.out.box.cell
          obtain ⟨hs, hsf⟩ := HS.out.at_ i c2 c1
          obtain ⟨ad, A_2, c_2, A_5, c_5, e1, hx0, hx1, hx2, hx3, hx4, hx5, hl2, hi2, hl5, hi5⟩ := at_T41 HC.out i c2 c1
          subst e1
          replace hx4 := pw_cell_below HS.out.box.low hx4
          clear hx0 hx1 hx2 hx3 hx5 hl2 hi2 hl5 hi5
          replace c2 := eq_true c2
          replace c1 := eq_true c1
          by_cases c3 : (rdOf false s i != decide ((rd_T41 l0_0 i).f4 ≥ 0)) = true
          ·rw [if_pos c3] at H
           obtain rfl := Oi H
           clear H
           have c3b1 : decide (rdOf false s i = decide (0 ≤ (rd_T41 l0_0 i).f4)) = false := by simpa using c3
           have c3b2 : (rdOf false s i == decide (0 ≤ (rd_T41 l0_0 i).f4)) = false := by simpa using c3
           have c3b3 : ¬ (rdOf false s i = decide (0 ≤ (rd_T41 l0_0 i).f4)) := by simpa using c3
           have c3b4 : (rdOf false s i != decide (0 ≤ (rd_T41 l0_0 i).f4)) = true := c3
           clear c3
           go_wp2
           go_quiet (fail)
           try go_wp2
           go_ret
           exact ⟨rfl, pw_below_drewN HS.out.box.low _⟩
          ·rw [if_neg c3] at H
           have HA := Ak H
           clear H
           have c3b1 : decide (rdOf false s i = decide (0 ≤ (rd_T41 l0_0 i).f4)) = true := by simpa using c3
           have c3b2 : (rdOf false s i == decide (0 ≤ (rd_T41 l0_0 i).f4)) = true := by simpa using c3
           have c3b4 : (rdOf false s i != decide (0 ≤ (rd_T41 l0_0 i).f4)) = false := Bool.eq_false_iff.mpr c3
           clear c3
           go_wp2
           go_quiet (fail)
           try go_wp2
           go_loopg [10, 11] k2 (fun kq v10 v11 w' => ∃ (u : Int) (q : Int), v10 = .int .i64 u ∧ v11 = .int .i64 q ∧ Aside0 (spec_TreeOk.l3 kq (l0_0.length : Int) s i u q l0_0 = some r) ∧ Aside0 (kq ≤ k2) ∧ Aside0 (SeenW w w' gt (some ad) l0_0.length c0_0 gs cap s))
           case atStart => exact ⟨_, 0, rfl, rfl, HA, ⟨Nat.le_refl _⟩, ⟨SeenW.drewN HS.out _⟩⟩
           case round =>
            clear HA HS hs hsf hcb c1b c3b1 c3b2 c3b4 hx4
            obtain ⟨u, q, rfl, rfl, HA, HK3, HS⟩ := hrel
            cases gk with
            | zero => exact absurd HA.out (by simp [spec_TreeOk.l3])
            | succ k3 =>
             have H := HA.out
             clear HA
             simp only [spec_TreeOk.l3] at H
             have hcb := HS.out.box.cell
             by_cases c4 : u ≥ 0
             ·rw [if_pos c4] at H
              have c4b : decide (0 ≤ u) = true := decide_eq_true c4
              by_cases c5 : q > (l0_0.length : Int)
              ·rw [if_pos c5] at H
               obtain rfl := Oi H
               clear H
               have c5b : decide ((l0_0.length : Int) < q) = true := decide_eq_true c5
               clear c4 c5
               go_wp2
               go_ret
               exact ⟨rfl, HS.out.box.low⟩
              ·rw [if_neg c5] at H
               have c5b : decide ((l0_0.length : Int) < q) = false := decide_eq_false c5
               rw [if_pos c4] at H
               by_cases c6 : u < (l0_0.length : Int)
               ·rw [if_pos c6] at H
                have HA := Ak H
                clear H
                obtain ⟨ad', A_6, c_6, A_7, c_7, e3, hw0, hw1, hw2, hw3, hw4, hw5, hl6, hi6, hl7, hi7⟩ := at_T41 HC.out u c4 c6
                injection e3 with e3
                subst e3
                replace hw4 := pw_cell_below HS.out.box.low hw4
                clear hw0 hw1 hw2 hw3 hw5 hl6 hi6 hl7 hi7 c5
                have c4' : (0 ≤ u) = True := eq_true c4
                clear c4
                replace c6 := eq_true c6
                go_wp2
                go_roundg k3
                case measure => have := HK.out; have := HK2.out; have := HK3.out; omega
                case rel => exact ⟨_, _, rfl, rfl, HA, ⟨by have := HK3.out; omega⟩, HS⟩
               ·rw [if_neg c6] at H; cases H
             ·rw [if_neg c4] at H
              have HA := Ak H
              clear H
              have c4b : decide (0 ≤ u) = false := decide_eq_false c4
              clear c4
              go_wp2
              go_roundg k3
              case measure => have := HK.out; have := HK2.out; have := HK3.out; omega
              case rel => exact ⟨_, rfl, HA, ⟨by have := HK2.out; have := HK3.out; omega⟩, HS⟩
         ·rw [if_neg c2'] at H; cases H
        ·rw [if_neg c2] at H; cases H
       ·rw [if_neg c1] at H
        obtain rfl := Oi H
        clear H
        have c1b : decide (i < (l0_0.length : Int)) = false := decide_eq_false c1
        clear c1
        go_wp2
        go_ret
        exact ⟨rfl, HS.out.box.low⟩
theorem C_lit {W : World} {g : Nat} {xs : List Int} {e : TypeId} {fr : Nat × Nat} (h : W.heap[g]? = some (.cells (xs.map (Value.int .u8)).toArray e fr)) (hl : xs.length ≤ 9223372036854775807) : (Kd.int .u8).C W (some ⟨g, 0, none⟩) xs.length xs := by
 refine ⟨rfl, hl, fun _ => ⟨_, rfl, fun j p hj => ⟨[.int .u8 p], rfl, rfl, fun i u hu => ?_⟩⟩⟩
 cases i with
 | succ i => simp at hu
 | zero =>
  have e0 : (⟨g, 0, none⟩ : Addr).add (j * (Kd.int .u8).sz + 0) = ⟨g, j, none⟩ := by
   have e1 : (Kd.int .u8).sz = 1 := rfl
   simp [Addr.add, e1]
   exact fun e_ => e_.symm
  have hu' : u = .int .u8 p := by simpa using hu.symm
  rw [e0, hu']
  simp [World.cell?, h, hj]
def spec_Escape.one (v : Bool) (b : Int) : List Int := if b = 38 then [38, 97, 109, 112, 59] else if b = 34 ∧ v = true then [38, 113, 117, 111, 116, 59] else if b = 60 ∧ v = false then [38, 108, 116, 59] else if b = 62 ∧ v = false then [38, 103, 116, 59] else [b % 256]
def spec_Escape.l0 : Nat → ByteArray → Bool → List Int → Int → Option ByteArray
 | 0, _, _, _, _ => none
 | k + 1, s, v, o, i => if i < (s.size : Int) then (if 0 ≤ i then (if o.length < 100000000000 then (if i < 1000000000000 then (if bt s i = 194 ∧ i + 1 < (s.size : Int) ∧ bt s (i + 1) = 160 then spec_Escape.l0 k s v (o ++ [38, 110, 98, 115, 112, 59]) (wrap64 (i + 1 + 1)) else spec_Escape.l0 k s v (o ++ spec_Escape.one v (bt s i)) (wrap64 (i + 1))) else none) else none) else none) else some (strOfNums o)
def spec_Escape.f (k : Nat) (s : ByteArray) (v : Bool) : Option ByteArray := spec_Escape.l0 k s v [] 0
theorem spec_Escape.mono0 : ∀ k a b c d, LeO (spec_Escape.l0 k a b c d) (spec_Escape.l0 (k + 1) a b c d)
 | 0 => fun _ _ _ _ r h => by simp [spec_Escape.l0] at h
 | k + 1 => fun a b c d => by
  rw [spec_Escape.l0, spec_Escape.l0]
  exact LeO.ite (LeO.ite (LeO.ite (LeO.ite (LeO.ite (spec_Escape.mono0 k _ _ _ _) (spec_Escape.mono0 k _ _ _ _)) (LeO.refl _)) (LeO.refl _)) (LeO.refl _)) (LeO.refl _)
theorem spec_Escape.mono : ∀ a0 a1 k, LeO (spec_Escape.f k a0 a1) (spec_Escape.f (k + 1) a0 a1) := fun _ _ k => spec_Escape.mono0 k _ _ _ _
theorem spec_Escape.calls (k : Nat) (s : ByteArray) (v : Bool) (r : ByteArray) (w : World) (h : spec_Escape.f k s v = some r) :
 Calls Tryz.prog 39 #[.string s, .bool v] w fun e w' => e = .returned (.string r) ∧ Below w.heap.size w w' := by
 have HA := Ak (show spec_Escape.l0 k s v [] 0 = some r from h)
 clear h
 have kc := fun (w : World) (C : Array Value) (n c : Nat) => Lib.run_convert_bytes_const (P := Tryz.prog) w 33 5 C n c Tryz.underlying33 Tryz.underlying5
 go_enter Tryz.func39, Tryz.ntmps39
 go_wp2_with (first | ((with_reducible refine gate_dst (N := 7) rfl ?_); refine Kd.R_lit (Kd.int .u8) _ 5 ?hg (N := 7) ?hd (xs := ([] : List Int)) (inner := []) (ok := fun _ => True) (okp := fun _ => True) ?hr ?hp (fun _ hk => hk) trivial (Below.refl _ _) (Nat.le_refl _) (by simp) ?_; (case hd => rfl); (case hg => rfl); (case hr => first | (go_simp; done) | (go_simp; rfl)); (case hp => exact (Reps.none _ _)); intro vz w2 hz hb hg_ hnew_; have HP := Ak (show Kd.R (Kd.int .u8) 5 w2 w.heap.size (fun _ => True) vz [] ∧ Below w.heap.size w w2 from ⟨hz, hb⟩); clear hz hb hg_ hnew_))
 go_loopg [5, 6] k (fun kq v5 v6 w' => ∃ (o : List Int) (i : Int), v6 = .int .i64 i ∧ Aside0 (spec_Escape.l0 kq s v o i = some r) ∧ Aside0 (kq ≤ k) ∧ Aside0 (Kd.R (Kd.int .u8) 5 w' w.heap.size (fun _ => True) v5 o ∧ Below w.heap.size w w'))
 case atStart => exact ⟨_, _, rfl, HA, ⟨Nat.le_refl _⟩, HP⟩
 case round =>
  clear HA HP
  obtain ⟨o, i, rfl, HA, HK, HP⟩ := hrel
  cases gk with
  | zero => exact absurd HA.out (by simp [spec_Escape.l0])
  | succ k1 =>
   have H := HA.out
   clear HA
   simp only [spec_Escape.l0] at H
   by_cases c1 : i < (s.size : Int)
   ·rw [if_pos c1] at H
    by_cases c2 : 0 ≤ i
    ·rw [if_pos c2] at H
     by_cases c3 : o.length < 100000000000
     ·rw [if_pos c3] at H
      have HL := Ak c3
      clear c3
      by_cases c4 : i < 1000000000000
      ·rw [if_pos c4] at H
       have c1b : decide (i < (s.size : Int)) = true := decide_eq_true c1
       have hw1 : wrap64 (i + 1) = i + 1 := by unfold wrap64; omega
       have c5 : 0 ≤ i + 1 := by omega
       clear c4
       have hx7 := bt_at s i
       have hy7 := bt_at s (i + 1)
       have hb0 : 0 ≤ bt s i ∧ bt s i ≤ 255 := bt_range s i
       replace c1 := eq_true c1
       replace c2 := eq_true c2
       replace c5 := eq_true c5
       by_cases e38 : bt s i = 38
       ·rw [if_neg (fun e => by have := e.1; omega)] at H
        have c38b : (bt s i == 38) = true := beq_iff_eq.2 e38
        have HA := Ak (show spec_Escape.l0 k1 s v (o ++ [38, 97, 109, 112, 59]) (wrap64 (i + 1)) = some r from by rw [show spec_Escape.one v (bt s i) = [38, 97, 109, 112, 59] from by unfold spec_Escape.one; simp [e38]] at H; exact H)
        clear H e38 hb0
        go_wp2_with (first | ((with_reducible refine gate_builtin (b := .append) (xs := #[.tmp 25, .tmp 27]) rfl ?_); at_builtin; refine Kd.R_append_rows (Kd.int .u8) (w0 := w) w.heap.size rfl (.tmp 25) (.tmp 27) 33 5 (.int .u8 0) 1 rfl Tryz.underlying33 info5 rfl (by decide) (by omega) u5 o [38, 97, 109, 112, 59] _ _ _ (fun _ => True) (fun _ => False) rfl rfl (Kd.R_below HP.out.1 (below_alloc (Below.refl _ _) _)) (C_lit (xs := [38, 97, 109, 112, 59]) (blk_new _ _) (by decide)) (fun _ _ h => h) (fun _ h => h.elim) (fun _ _ => trivial) (below_alloc HP.out.2 _) (below_size (below_alloc HP.out.2 _)) ?aL ?_; (case aL => have := HL.out; (try simp only [List.length_cons, List.length_nil]); omega); intro v1 w1 ho hb hg hat; have HP1 := Ak (And.intro ho hb); clear ho hb hg hat))
        go_roundg k1
        case measure => have := HK.out; omega
        case rel => exact ⟨_, _, rfl, HA, ⟨by have := HK.out; omega⟩, HP1⟩
       ·have c38b : (bt s i == 38) = false := beq_eq_false_iff_ne.2 e38
        go_upto_region 8 with (fail)
        go_cut [29] from 30 to 47 (fun v29 wc => v29 = .bool (decide (bt s i = 194 ∧ i + 1 < (s.size : Int) ∧ bt s (i + 1) = 160)) ∧ Aside0 (Kd.R (Kd.int .u8) 5 wc w.heap.size (fun _ => True) u5 o ∧ Below w.heap.size w wc))
        case first =>
         by_cases d1 : bt s i = 194
         ·have d1b : (bt s i == 194) = true := beq_iff_eq.2 d1
          have D1 := Ak d1
          clear d1
          by_cases d2 : i + 1 < (s.size : Int)
          ·have d2b : decide (i + 1 < (s.size : Int)) = true := decide_eq_true d2
           have D2 := Ak d2
           have d2c := eq_true d2
           clear d2
           by_cases d3 : bt s (i + 1) = 160
           ·have d3b : (bt s (i + 1) == 160) = true := beq_iff_eq.2 d3
            have D3 := Ak d3
            clear d3
            go_wp2
            go_meet
            case rel => exact ⟨by rw [decide_eq_true ⟨D1.out, D2.out, D3.out⟩], HP⟩
           ·have d3b : (bt s (i + 1) == 160) = false := beq_eq_false_iff_ne.2 d3
            have D3 := Ak d3
            clear d3
            go_wp2
            go_meet
            case rel => exact ⟨by rw [decide_eq_false]; exact fun e => D3.out e.2.2, HP⟩
          ·have d2b : decide (i + 1 < (s.size : Int)) = false := decide_eq_false d2
           have D2 := Ak d2
           clear d2
           go_wp2
           go_meet
           case rel => exact ⟨by rw [decide_eq_false]; exact fun e => by have := D2.out; have := e.2.1; omega, HP⟩
         ·have d1b : (bt s i == 194) = false := beq_eq_false_iff_ne.2 d1
          have D1 := Ak d1
          clear d1
          go_wp2
          go_meet
          case rel => exact ⟨by rw [decide_eq_false]; exact fun e => D1.out e.1, HP⟩
        case rest =>
         clear HP
         obtain ⟨rfl, HP⟩ := hcut
         by_cases d : bt s i = 194 ∧ i + 1 < (s.size : Int) ∧ bt s (i + 1) = 160
         ·rw [if_pos d] at H
          rw [decide_eq_true d]
          have HA := Ak H
          have hw2 : wrap64 (wrap64 (i + 1) + 1) = wrap64 (i + 1 + 1) := by rw [hw1]
          clear H d hb0
          go_wp2_with (first | ((with_reducible refine gate_builtin (b := .append) (xs := #[.tmp 48, .tmp 50]) rfl ?_); at_builtin; refine Kd.R_append_rows (Kd.int .u8) (w0 := w) w.heap.size rfl (.tmp 48) (.tmp 50) 33 5 (.int .u8 0) 1 rfl Tryz.underlying33 info5 rfl (by decide) (by omega) u5 o [38, 110, 98, 115, 112, 59] _ _ _ (fun _ => True) (fun _ => False) rfl rfl (Kd.R_below HP.out.1 (below_alloc (Below.refl _ _) _)) (C_lit (xs := [38, 110, 98, 115, 112, 59]) (blk_new _ _) (by decide)) (fun _ _ h => h) (fun _ h => h.elim) (fun _ _ => trivial) (below_alloc HP.out.2 _) (below_size (below_alloc HP.out.2 _)) ?aL ?_; (case aL => have := HL.out; (try simp only [List.length_cons, List.length_nil]); omega); intro v1 w1 ho hb hg hat; have HP1 := Ak (And.intro ho hb); clear ho hb hg hat))
          go_roundg k1
          case measure => have := HK.out; omega
          case rel => exact ⟨_, _, rfl, HA, ⟨by have := HK.out; omega⟩, HP1⟩
         ·rw [if_neg d] at H
          rw [decide_eq_false d]
          clear d hy7
          cases v with
          | true =>
           by_cases e34 : bt s i = 34
           ·have c34b : (bt s i == 34) = true := beq_iff_eq.2 e34
            have HA := Ak (show spec_Escape.l0 k1 s true (o ++ [38, 113, 117, 111, 116, 59]) (wrap64 (i + 1)) = some r from by rw [show spec_Escape.one true (bt s i) = [38, 113, 117, 111, 116, 59] from by unfold spec_Escape.one; simp [e38, e34]] at H; exact H)
            clear H
            clear e38 e34 hb0
            go_wp2_with (first | ((with_reducible refine gate_builtin (b := .append) (xs := #[.tmp 62, .tmp 64]) rfl ?_); at_builtin; refine Kd.R_append_rows (Kd.int .u8) (w0 := w) w.heap.size rfl (.tmp 62) (.tmp 64) 33 5 (.int .u8 0) 1 rfl Tryz.underlying33 info5 rfl (by decide) (by omega) u5 o [38, 113, 117, 111, 116, 59] _ _ _ (fun _ => True) (fun _ => False) rfl rfl (Kd.R_below HP.out.1 (below_alloc (Below.refl _ _) _)) (C_lit (xs := [38, 113, 117, 111, 116, 59]) (blk_new _ _) (by decide)) (fun _ _ h => h) (fun _ h => h.elim) (fun _ _ => trivial) (below_alloc HP.out.2 _) (below_size (below_alloc HP.out.2 _)) ?aL ?_; (case aL => have := HL.out; (try simp only [List.length_cons, List.length_nil]); omega); intro v1 w1 ho hb hg hat; have HP1 := Ak (And.intro ho hb); clear ho hb hg hat))
            go_roundg k1
            case measure => have := HK.out; omega
            case rel => exact ⟨_, _, rfl, HA, ⟨by have := HK.out; omega⟩, HP1⟩
           ·have c34b : (bt s i == 34) = false := beq_eq_false_iff_ne.2 e34
            by_cases e60 : bt s i = 60
            ·have c60b : (bt s i == 60) = true := beq_iff_eq.2 e60
             have c62b : (bt s i == 62) = false := beq_eq_false_iff_ne.2 (by omega)
             have HA := Ak (show spec_Escape.l0 k1 s true (o ++ [bt s i]) (wrap64 (i + 1)) = some r from by rw [show spec_Escape.one true (bt s i) = [bt s i] from by unfold spec_Escape.one; simp [e38, e34, e60, Int.emod_eq_of_lt hb0.1 (show bt s i < 256 by omega)]] at H; exact H)
             clear H
             clear hb0 e38 e34 e60
             go_wp2_with (first | ((with_reducible refine gate_builtin (b := .append) (xs := #[.tmp 14, .tmp 18]) rfl ?_); at_builtin; refine Kd.R_append (Kd.int .u8) (w0 := w) w.heap.size rfl (.tmp 14) (.tmp 18) 33 5 (.int .u8 0) 1 rfl Tryz.underlying33 info5 rfl (by decide) (by omega) u5 o (bt s i) [.int .u8 (bt s i)] (fun _ => True) (fun _ => False) rfl rfl ?aP (fun _ hk => hk.elim) (fun _ _ => trivial) HP.out.1 HP.out.2 (below_size HP.out.2) ?aL ?_; (case aP => exact rfl); (case aL => have := HL.out; omega); intro v1 w1 ho hb hg hat; have HP1 := Ak (And.intro ho hb); clear ho hb hg hat))
             go_roundg k1
             case measure => have := HK.out; omega
             case rel => exact ⟨_, _, rfl, HA, ⟨by have := HK.out; omega⟩, HP1⟩
            ·have c60b : (bt s i == 60) = false := beq_eq_false_iff_ne.2 e60
             by_cases e62 : bt s i = 62
             ·have c62b : (bt s i == 62) = true := beq_iff_eq.2 e62
              have HA := Ak (show spec_Escape.l0 k1 s true (o ++ [bt s i]) (wrap64 (i + 1)) = some r from by rw [show spec_Escape.one true (bt s i) = [bt s i] from by unfold spec_Escape.one; simp [e38, e34, e60, e62, Int.emod_eq_of_lt hb0.1 (show bt s i < 256 by omega)]] at H; exact H)
              clear H
              clear hb0 e38 e34 e60 e62
              go_wp2_with (first | ((with_reducible refine gate_builtin (b := .append) (xs := #[.tmp 14, .tmp 18]) rfl ?_); at_builtin; refine Kd.R_append (Kd.int .u8) (w0 := w) w.heap.size rfl (.tmp 14) (.tmp 18) 33 5 (.int .u8 0) 1 rfl Tryz.underlying33 info5 rfl (by decide) (by omega) u5 o (bt s i) [.int .u8 (bt s i)] (fun _ => True) (fun _ => False) rfl rfl ?aP (fun _ hk => hk.elim) (fun _ _ => trivial) HP.out.1 HP.out.2 (below_size HP.out.2) ?aL ?_; (case aP => exact rfl); (case aL => have := HL.out; omega); intro v1 w1 ho hb hg hat; have HP1 := Ak (And.intro ho hb); clear ho hb hg hat))
              go_roundg k1
              case measure => have := HK.out; omega
              case rel => exact ⟨_, _, rfl, HA, ⟨by have := HK.out; omega⟩, HP1⟩
             ·have c62b : (bt s i == 62) = false := beq_eq_false_iff_ne.2 e62
              have HA := Ak (show spec_Escape.l0 k1 s true (o ++ [bt s i]) (wrap64 (i + 1)) = some r from by rw [show spec_Escape.one true (bt s i) = [bt s i] from by unfold spec_Escape.one; simp [e38, e34, e60, e62, Int.emod_eq_of_lt hb0.1 (show bt s i < 256 by omega)]] at H; exact H)
              clear H
              clear hb0 e38 e34 e60 e62
              go_wp2_with (first | ((with_reducible refine gate_builtin (b := .append) (xs := #[.tmp 14, .tmp 18]) rfl ?_); at_builtin; refine Kd.R_append (Kd.int .u8) (w0 := w) w.heap.size rfl (.tmp 14) (.tmp 18) 33 5 (.int .u8 0) 1 rfl Tryz.underlying33 info5 rfl (by decide) (by omega) u5 o (bt s i) [.int .u8 (bt s i)] (fun _ => True) (fun _ => False) rfl rfl ?aP (fun _ hk => hk.elim) (fun _ _ => trivial) HP.out.1 HP.out.2 (below_size HP.out.2) ?aL ?_; (case aP => exact rfl); (case aL => have := HL.out; omega); intro v1 w1 ho hb hg hat; have HP1 := Ak (And.intro ho hb); clear ho hb hg hat))
              go_roundg k1
              case measure => have := HK.out; omega
              case rel => exact ⟨_, _, rfl, HA, ⟨by have := HK.out; omega⟩, HP1⟩
          | false =>
           by_cases e34 : bt s i = 34
           ·have e60 : ¬ bt s i = 60 := by omega
            have e62 : ¬ bt s i = 62 := by omega
            have c34b : (bt s i == 34) = true := beq_iff_eq.2 e34
            have c60b : (bt s i == 60) = false := beq_eq_false_iff_ne.2 e60
            have c62b : (bt s i == 62) = false := beq_eq_false_iff_ne.2 e62
            have HA := Ak (show spec_Escape.l0 k1 s false (o ++ [bt s i]) (wrap64 (i + 1)) = some r from by rw [show spec_Escape.one false (bt s i) = [bt s i] from by unfold spec_Escape.one; simp [e38, e34, e60, e62, Int.emod_eq_of_lt hb0.1 (show bt s i < 256 by omega)]] at H; exact H)
            clear H
            clear hb0 e38 e34 e60 e62
            go_wp2_with (first | ((with_reducible refine gate_builtin (b := .append) (xs := #[.tmp 14, .tmp 18]) rfl ?_); at_builtin; refine Kd.R_append (Kd.int .u8) (w0 := w) w.heap.size rfl (.tmp 14) (.tmp 18) 33 5 (.int .u8 0) 1 rfl Tryz.underlying33 info5 rfl (by decide) (by omega) u5 o (bt s i) [.int .u8 (bt s i)] (fun _ => True) (fun _ => False) rfl rfl ?aP (fun _ hk => hk.elim) (fun _ _ => trivial) HP.out.1 HP.out.2 (below_size HP.out.2) ?aL ?_; (case aP => exact rfl); (case aL => have := HL.out; omega); intro v1 w1 ho hb hg hat; have HP1 := Ak (And.intro ho hb); clear ho hb hg hat))
            go_roundg k1
            case measure => have := HK.out; omega
            case rel => exact ⟨_, _, rfl, HA, ⟨by have := HK.out; omega⟩, HP1⟩
           ·have c34b : (bt s i == 34) = false := beq_eq_false_iff_ne.2 e34
            by_cases e60 : bt s i = 60
            ·have c60b : (bt s i == 60) = true := beq_iff_eq.2 e60
             have HA := Ak (show spec_Escape.l0 k1 s false (o ++ [38, 108, 116, 59]) (wrap64 (i + 1)) = some r from by rw [show spec_Escape.one false (bt s i) = [38, 108, 116, 59] from by unfold spec_Escape.one; simp [e38, e34, e60]] at H; exact H)
             clear H
             clear e38 e34 e60 hb0
             go_wp2_with (first | ((with_reducible refine gate_builtin (b := .append) (xs := #[.tmp 75, .tmp 77]) rfl ?_); at_builtin; refine Kd.R_append_rows (Kd.int .u8) (w0 := w) w.heap.size rfl (.tmp 75) (.tmp 77) 33 5 (.int .u8 0) 1 rfl Tryz.underlying33 info5 rfl (by decide) (by omega) u5 o [38, 108, 116, 59] _ _ _ (fun _ => True) (fun _ => False) rfl rfl (Kd.R_below HP.out.1 (below_alloc (Below.refl _ _) _)) (C_lit (xs := [38, 108, 116, 59]) (blk_new _ _) (by decide)) (fun _ _ h => h) (fun _ h => h.elim) (fun _ _ => trivial) (below_alloc HP.out.2 _) (below_size (below_alloc HP.out.2 _)) ?aL ?_; (case aL => have := HL.out; (try simp only [List.length_cons, List.length_nil]); omega); intro v1 w1 ho hb hg hat; have HP1 := Ak (And.intro ho hb); clear ho hb hg hat))
             go_roundg k1
             case measure => have := HK.out; omega
             case rel => exact ⟨_, _, rfl, HA, ⟨by have := HK.out; omega⟩, HP1⟩
            ·have c60b : (bt s i == 60) = false := beq_eq_false_iff_ne.2 e60
             by_cases e62 : bt s i = 62
             ·have c62b : (bt s i == 62) = true := beq_iff_eq.2 e62
              have HA := Ak (show spec_Escape.l0 k1 s false (o ++ [38, 103, 116, 59]) (wrap64 (i + 1)) = some r from by rw [show spec_Escape.one false (bt s i) = [38, 103, 116, 59] from by unfold spec_Escape.one; simp [e38, e34, e60, e62]] at H; exact H)
              clear H
              clear e38 e34 e60 e62 hb0
              go_wp2_with (first | ((with_reducible refine gate_builtin (b := .append) (xs := #[.tmp 88, .tmp 90]) rfl ?_); at_builtin; refine Kd.R_append_rows (Kd.int .u8) (w0 := w) w.heap.size rfl (.tmp 88) (.tmp 90) 33 5 (.int .u8 0) 1 rfl Tryz.underlying33 info5 rfl (by decide) (by omega) u5 o [38, 103, 116, 59] _ _ _ (fun _ => True) (fun _ => False) rfl rfl (Kd.R_below HP.out.1 (below_alloc (Below.refl _ _) _)) (C_lit (xs := [38, 103, 116, 59]) (blk_new _ _) (by decide)) (fun _ _ h => h) (fun _ h => h.elim) (fun _ _ => trivial) (below_alloc HP.out.2 _) (below_size (below_alloc HP.out.2 _)) ?aL ?_; (case aL => have := HL.out; (try simp only [List.length_cons, List.length_nil]); omega); intro v1 w1 ho hb hg hat; have HP1 := Ak (And.intro ho hb); clear ho hb hg hat))
              go_roundg k1
              case measure => have := HK.out; omega
              case rel => exact ⟨_, _, rfl, HA, ⟨by have := HK.out; omega⟩, HP1⟩
             ·have c62b : (bt s i == 62) = false := beq_eq_false_iff_ne.2 e62
              have HA := Ak (show spec_Escape.l0 k1 s false (o ++ [bt s i]) (wrap64 (i + 1)) = some r from by rw [show spec_Escape.one false (bt s i) = [bt s i] from by unfold spec_Escape.one; simp [e38, e34, e60, e62, Int.emod_eq_of_lt hb0.1 (show bt s i < 256 by omega)]] at H; exact H)
              clear H
              clear hb0 e38 e34 e60 e62
              go_wp2_with (first | ((with_reducible refine gate_builtin (b := .append) (xs := #[.tmp 14, .tmp 18]) rfl ?_); at_builtin; refine Kd.R_append (Kd.int .u8) (w0 := w) w.heap.size rfl (.tmp 14) (.tmp 18) 33 5 (.int .u8 0) 1 rfl Tryz.underlying33 info5 rfl (by decide) (by omega) u5 o (bt s i) [.int .u8 (bt s i)] (fun _ => True) (fun _ => False) rfl rfl ?aP (fun _ hk => hk.elim) (fun _ _ => trivial) HP.out.1 HP.out.2 (below_size HP.out.2) ?aL ?_; (case aP => exact rfl); (case aL => have := HL.out; omega); intro v1 w1 ho hb hg hat; have HP1 := Ak (And.intro ho hb); clear ho hb hg hat))
              go_roundg k1
              case measure => have := HK.out; omega
              case rel => exact ⟨_, _, rfl, HA, ⟨by have := HK.out; omega⟩, HP1⟩
      ·rw [if_neg c4] at H; cases H
     ·rw [if_neg c3] at H; cases H
    ·rw [if_neg c2] at H; cases H
   ·rw [if_neg c1] at H
    obtain rfl := Oi H
    clear H
    have c1b : decide (i < (s.size : Int)) = false := decide_eq_false c1
    clear c1
    have hcv := own_string (P := Tryz.prog) Tryz.underlying33 Tryz.underlying5 Tryz.underlying9 (Kd.own_of_R HP.out.1)
    go_wp2
    go_ret
    exact ⟨rfl, HP.out.2⟩
def spec_l7Find.l0 : Nat → List ByteArray → ByteArray → Int → Option (Int)
 | 0, _, _, _ => none
 | k + 1, x0, x1, x5 => if x5 < (x0.length : Int) then (if 0 ≤ x5 then (if (rdOf ByteArray.empty x0 x5).toList = x1.toList then (some x5) else (spec_l7Find.l0 k x0 x1 (wrap64 (x5 + 1)))) else (none)) else (some (-1))
def spec_l7Find.f (k : Nat) (l0 : List ByteArray) (a1 : ByteArray) : Option (Int) := spec_l7Find.l0 k l0 a1 0
theorem spec_l7Find.mono_l : ∀ k, (∀ y0 y1 y2, LeO (spec_l7Find.l0 k y0 y1 y2) (spec_l7Find.l0 (k + 1) y0 y1 y2))
 | 0 => fun _ _ _ r h => by simp [spec_l7Find.l0] at h
 | k + 1 => by
  have ih0 := spec_l7Find.mono_l k
  ·intro y0 y1 y2
   unfold spec_l7Find.l0
   repeat' (with_reducible first | exact ih0 _ _ _ | exact LeO.refl _ | exact LeO.none _ | refine LeO.ite ?_ ?_ | refine LeO.bind ?_ (fun _ => ?_))
theorem spec_l7Find.mono : ∀ a0 a1 k, LeO (spec_l7Find.f k a0 a1) (spec_l7Find.f (k + 1) a0 a1) := by
 intro a0 a1 k
 have ih0 := spec_l7Find.mono_l k
 unfold spec_l7Find.f
 repeat' (with_reducible first | exact ih0 _ _ _ | exact LeO.refl _ | exact LeO.none _ | refine LeO.ite ?_ ?_ | refine LeO.bind ?_ (fun _ => ?_))
theorem spec_l7Find.calls (k : Nat) (A0 : Option Addr) (c0 : Nat) (l0 : List ByteArray) (a1 : ByteArray) (r : Int) (w : World) (hr0 : Kd.C Kd.string w A0 l0.length l0) (hc0 : l0.length ≤ c0) (h : spec_l7Find.f k l0 a1 = some r) :
 Calls Tryz.prog 92 #[.slice A0 l0.length c0, .string a1] w fun e w' => e = .returned (.int .i64 r) ∧ Drawn0 w w' := by
 have HR0 := Ak hr0
 have HC0 := Ak hc0
 clear hr0 hc0
 have H : (spec_l7Find.l0 k l0 a1 0) = some r := h
 clear h
 have H' := Ak H
 clear H
 go_enter Tryz.func92, Tryz.ntmps92
 go_wp2
 go_loopg [5] k (fun kq v5 w' => ∃ (x5_1 : Int), v5 = .int .i64 x5_1 ∧ Aside0 (spec_l7Find.l0 kq l0 a1 x5_1 = some r) ∧ Aside0 (kq ≤ k) ∧ Drawn0 w w')
 case atStart => exact ⟨(0), rfl, H', ⟨Nat.le_refl _⟩, by repeat (first | exact Drawn0.refl _ | apply Drawn0.step)⟩
 case round =>
  clear H'
  try clear p2
  obtain ⟨x5_1, rfl, HA, HK1, ⟨m1, rfl⟩⟩ := hrel
  cases gk with
  | zero => exact absurd HA.out (by simp [spec_l7Find.l0])
  | succ k1 =>
   have H := HA.out
   clear HA
   simp only [spec_l7Find.l0] at H
   by_cases c3 : x5_1 < (l0.length : Int)
   ·rw [if_pos c3] at H
    have c3b0 := decide_eq_true c3
    clear c3
    by_cases c4 : 0 ≤ x5_1
    ·rw [if_pos c4] at H
     have c4b0 := decide_eq_true c4
     clear c4
     by_cases c5 : (rdOf ByteArray.empty l0 x5_1).toList = a1.toList
     ·rw [if_pos c5] at H
      have c5b0 := beq_iff_eq.mpr c5
      have c5b1 := bne_eq_false_iff_eq.mpr c5
      clear c5
      obtain rfl := Oi H
      have p101 : 0 ≤ (x5_1 : Int) := of_decide_eq_true (by assumption)
      have q101 : x5_1 < (l0.length : Int) := of_decide_eq_true (by assumption)
      obtain ⟨ad101, e101, hx101_0⟩ := Kd.at_string HR0.out x5_1 p101 q101
      cases e101
      replace p101 := eq_true p101
      replace q101 := eq_true q101
      go_wp2
      go_ret
      exact ⟨rfl, by repeat (first | exact Drawn0.refl _ | apply Drawn0.step)⟩
     ·rw [if_neg c5] at H
      have c5b0 := beq_eq_false_iff_ne.mpr c5
      have c5b1 := bne_iff_ne.mpr c5
      have H' := Ak H
      clear H
      have p101 : 0 ≤ (x5_1 : Int) := of_decide_eq_true (by assumption)
      have q101 : x5_1 < (l0.length : Int) := of_decide_eq_true (by assumption)
      obtain ⟨ad101, e101, hx101_0⟩ := Kd.at_string HR0.out x5_1 p101 q101
      cases e101
      replace p101 := eq_true p101
      replace q101 := eq_true q101
      go_wp2
      go_roundg k1
      case measure => have := HK1.out; omega
      case rel => exact ⟨(wrap64 (x5_1 + 1)), rfl, H', ⟨by have := HK1.out; omega⟩, by repeat (first | exact Drawn0.refl _ | apply Drawn0.step)⟩
    ·rw [if_neg c4] at H
     exact absurd H (by simp)
   ·rw [if_neg c3] at H
    have c3b0 := decide_eq_false c3
    clear c3
    obtain rfl := Oi H
    go_wp2
    go_ret
    exact ⟨rfl, by repeat (first | exact Drawn0.refl _ | apply Drawn0.step)⟩
def spec_l8In.f (k : Nat) (l0 : List ByteArray) (a1 : ByteArray) : Option (Bool) := (spec_l7Find.f k l0 a1).bind fun t101 => (some (decide (t101 ≥ 0)))
theorem spec_l8In.mono : ∀ a0 a1 k, LeO (spec_l8In.f k a0 a1) (spec_l8In.f (k + 1) a0 a1) := by
 intro a0 a1 k
 unfold spec_l8In.f
 repeat' first
  | (with_reducible exact spec_l7Find.mono _ _ _)
  | (with_reducible exact LeO.refl _)
  | (with_reducible exact LeO.none _)
  | (with_reducible refine LeO.ite ?_ ?_)
  | (with_reducible refine LeO.bind ?_ (fun _ => ?_))
  | exact spec_l7Find.mono _ _ _
  | exact LeO.none _
  | refine LeO.ite ?_ ?_
  | refine LeO.bind ?_ (fun _ => ?_)
theorem spec_l8In.calls (k : Nat) (A0 : Option Addr) (c0 : Nat) (l0 : List ByteArray) (a1 : ByteArray) (r : Bool) (w : World) (hr0 : Kd.C Kd.string w A0 l0.length l0) (hc0 : l0.length ≤ c0) (h : spec_l8In.f k l0 a1 = some r) :
 Calls Tryz.prog 62 #[.slice A0 l0.length c0, .string a1] w fun e w' => e = .returned (.bool r) ∧ Drawn0 w w' := by
 have HR0 := Ak hr0
 have HC0 := Ak hc0
 clear hr0 hc0
 have H : ((spec_l7Find.f k l0 a1).bind fun t101 => (some (decide (t101 ≥ 0)))) = some r := h
 clear h
 replace H := Ob H
 obtain ⟨t101, A30, H⟩ := H
 replace H : (some (decide (t101 ≥ 0))) = some r := H
 have A3 := Ak A30
 clear A30
 obtain rfl := Oi H
 go_enter Tryz.func62, Tryz.ntmps62
 go_wp2_with (first | ((with_reducible refine gate_callee (f := 92) rfl ?_); refine goesL_ (some 7) rfl rfl Tryz.func92 (by kernel_rfl) rfl #[.slice A0 l0.length c0, .string a1] rfl (by (try simp only [List.map_toArray, List.map_cons, List.map_nil]); first | done | rfl | (simp only [List.length_drop, List.length_take]; rfl)) ?_; (with_reducible refine (spec_l7Find.calls k _ _ l0 a1 t101 _ ?side1 ?side2 A3.out).mono ?_); (case side1 => repeat (first | exact HR0.out | (with_reducible refine Kd.C_alloc ?_ _) | (with_reducible refine Kd.C_drewN ?_ _) | (with_reducible refine Kd.C_drew ?_))); (case side2 => exact HC0.out); rintro e w' ⟨rfl, ⟨nd, rfl⟩⟩; refine ⟨_, rfl, ?_⟩))
 go_ret
 exact ⟨by first | rfl | (simp; done) | (simp [*]; done), by repeat (first | exact Drawn0.refl _ | apply Drawn0.step)⟩
def spec_IsVoid.f (k : Nat) (a0 : ByteArray) : Option (Bool) := (spec_l8In.f k (([(⟨#[97, 114, 101, 97]⟩ : ByteArray), (⟨#[98, 97, 115, 101]⟩ : ByteArray), (⟨#[98, 114]⟩ : ByteArray), (⟨#[101, 109, 98, 101, 100]⟩ : ByteArray), (⟨#[104, 114]⟩ : ByteArray), (⟨#[105, 109, 103]⟩ : ByteArray), (⟨#[105, 110, 112, 117, 116]⟩ : ByteArray), (⟨#[108, 105, 110, 107]⟩ : ByteArray), (⟨#[109, 101, 116, 97]⟩ : ByteArray), (⟨#[112, 97, 114, 97, 109]⟩ : ByteArray), (⟨#[115, 111, 117, 114, 99, 101]⟩ : ByteArray), (⟨#[116, 114, 97, 99, 107]⟩ : ByteArray), (⟨#[119, 98, 114]⟩ : ByteArray)] : List ByteArray)) a0).bind fun t104 => (some t104)
theorem spec_IsVoid.mono : ∀ a0 k, LeO (spec_IsVoid.f k a0) (spec_IsVoid.f (k + 1) a0) := by
 intro a0 k
 unfold spec_IsVoid.f
 repeat' first
  | (with_reducible exact spec_l8In.mono _ _ _)
  | (with_reducible exact LeO.refl _)
  | (with_reducible exact LeO.none _)
  | (with_reducible refine LeO.ite ?_ ?_)
  | (with_reducible refine LeO.bind ?_ (fun _ => ?_))
  | exact spec_l8In.mono _ _ _
  | exact LeO.none _
  | refine LeO.ite ?_ ?_
  | refine LeO.bind ?_ (fun _ => ?_)
theorem spec_IsVoid.calls (k : Nat) (a0 : ByteArray) (r : Bool) (w : World) (h : spec_IsVoid.f k a0 = some r) :
 Calls Tryz.prog 40 #[.string a0] w fun e w' => e = .returned (.bool r) ∧ Below w.heap.size w w' := by
 have HB := Ak (Below.refl w.heap.size w)
 have H : ((spec_l8In.f k (([(⟨#[97, 114, 101, 97]⟩ : ByteArray), (⟨#[98, 97, 115, 101]⟩ : ByteArray), (⟨#[98, 114]⟩ : ByteArray), (⟨#[101, 109, 98, 101, 100]⟩ : ByteArray), (⟨#[104, 114]⟩ : ByteArray), (⟨#[105, 109, 103]⟩ : ByteArray), (⟨#[105, 110, 112, 117, 116]⟩ : ByteArray), (⟨#[108, 105, 110, 107]⟩ : ByteArray), (⟨#[109, 101, 116, 97]⟩ : ByteArray), (⟨#[112, 97, 114, 97, 109]⟩ : ByteArray), (⟨#[115, 111, 117, 114, 99, 101]⟩ : ByteArray), (⟨#[116, 114, 97, 99, 107]⟩ : ByteArray), (⟨#[119, 98, 114]⟩ : ByteArray)] : List ByteArray)) a0).bind fun t104 => (some t104)) = some r := h
 clear h
 obtain ⟨y101, hy101⟩ : ∃ y_ : List ByteArray, y_ = (([(⟨#[97, 114, 101, 97]⟩ : ByteArray), (⟨#[98, 97, 115, 101]⟩ : ByteArray), (⟨#[98, 114]⟩ : ByteArray), (⟨#[101, 109, 98, 101, 100]⟩ : ByteArray), (⟨#[104, 114]⟩ : ByteArray), (⟨#[105, 109, 103]⟩ : ByteArray), (⟨#[105, 110, 112, 117, 116]⟩ : ByteArray), (⟨#[108, 105, 110, 107]⟩ : ByteArray), (⟨#[109, 101, 116, 97]⟩ : ByteArray), (⟨#[112, 97, 114, 97, 109]⟩ : ByteArray), (⟨#[115, 111, 117, 114, 99, 101]⟩ : ByteArray), (⟨#[116, 114, 97, 99, 107]⟩ : ByteArray), (⟨#[119, 98, 114]⟩ : ByteArray)] : List ByteArray)) := ⟨_, rfl⟩
 replace H : ((spec_l8In.f k y101 a0).bind fun t104 => (some t104)) = some r := by first | (rw [hy101]; with_reducible exact H) | (have H2_ := (Option.bind_some _ _).symm.trans H; rw [hy101]; with_reducible exact H2_) | (have H2_ := (Option.bind_some _ _).symm.trans H; with_reducible exact H2_) | with_reducible exact H | (rw [hy101]; exact H) | exact H
 have Ny101 := Ak hy101
 clear hy101
 replace H := Ob H
 obtain ⟨t104, A20, H⟩ := H
 replace H : (some t104) = some r := H
 have A2 := Ak A20
 clear A20
 obtain rfl := Oi H
 go_enter Tryz.func40, Tryz.ntmps40
 go_wp2_with (first | ((with_reducible refine gate_dst (N := 3) rfl ?_); refine Kd.R_lit Kd.string _ 9 ?hg (N := 3) ?hd (xs := ([(⟨#[97, 114, 101, 97]⟩ : ByteArray), (⟨#[98, 97, 115, 101]⟩ : ByteArray), (⟨#[98, 114]⟩ : ByteArray), (⟨#[101, 109, 98, 101, 100]⟩ : ByteArray), (⟨#[104, 114]⟩ : ByteArray), (⟨#[105, 109, 103]⟩ : ByteArray), (⟨#[105, 110, 112, 117, 116]⟩ : ByteArray), (⟨#[108, 105, 110, 107]⟩ : ByteArray), (⟨#[109, 101, 116, 97]⟩ : ByteArray), (⟨#[112, 97, 114, 97, 109]⟩ : ByteArray), (⟨#[115, 111, 117, 114, 99, 101]⟩ : ByteArray), (⟨#[116, 114, 97, 99, 107]⟩ : ByteArray), (⟨#[119, 98, 114]⟩ : ByteArray)] : List ByteArray)) (inner := [.string (⟨#[97, 114, 101, 97]⟩ : ByteArray), .string (⟨#[98, 97, 115, 101]⟩ : ByteArray), .string (⟨#[98, 114]⟩ : ByteArray), .string (⟨#[101, 109, 98, 101, 100]⟩ : ByteArray), .string (⟨#[104, 114]⟩ : ByteArray), .string (⟨#[105, 109, 103]⟩ : ByteArray), .string (⟨#[105, 110, 112, 117, 116]⟩ : ByteArray), .string (⟨#[108, 105, 110, 107]⟩ : ByteArray), .string (⟨#[109, 101, 116, 97]⟩ : ByteArray), .string (⟨#[112, 97, 114, 97, 109]⟩ : ByteArray), .string (⟨#[115, 111, 117, 114, 99, 101]⟩ : ByteArray), .string (⟨#[116, 114, 97, 99, 107]⟩ : ByteArray), .string (⟨#[119, 98, 114]⟩ : ByteArray)]) (ok := fun _ => True) (okp := fun _ => True) ?hr ?hp (fun _ hk => hk) trivial (Below.refl _ _) (Nat.le_refl _) (by simp) ?_; (case hd => rfl); (case hg => rfl); (case hr => first | (go_simp; done) | (go_simp; rfl)); (case hp => exact (Reps.one (show Kd.M Kd.string _ _ _ (⟨#[97, 114, 101, 97]⟩ : ByteArray) [.string (⟨#[97, 114, 101, 97]⟩ : ByteArray)] from rfl) (Reps.one (show Kd.M Kd.string _ _ _ (⟨#[98, 97, 115, 101]⟩ : ByteArray) [.string (⟨#[98, 97, 115, 101]⟩ : ByteArray)] from rfl) (Reps.one (show Kd.M Kd.string _ _ _ (⟨#[98, 114]⟩ : ByteArray) [.string (⟨#[98, 114]⟩ : ByteArray)] from rfl) (Reps.one (show Kd.M Kd.string _ _ _ (⟨#[101, 109, 98, 101, 100]⟩ : ByteArray) [.string (⟨#[101, 109, 98, 101, 100]⟩ : ByteArray)] from rfl) (Reps.one (show Kd.M Kd.string _ _ _ (⟨#[104, 114]⟩ : ByteArray) [.string (⟨#[104, 114]⟩ : ByteArray)] from rfl) (Reps.one (show Kd.M Kd.string _ _ _ (⟨#[105, 109, 103]⟩ : ByteArray) [.string (⟨#[105, 109, 103]⟩ : ByteArray)] from rfl) (Reps.one (show Kd.M Kd.string _ _ _ (⟨#[105, 110, 112, 117, 116]⟩ : ByteArray) [.string (⟨#[105, 110, 112, 117, 116]⟩ : ByteArray)] from rfl) (Reps.one (show Kd.M Kd.string _ _ _ (⟨#[108, 105, 110, 107]⟩ : ByteArray) [.string (⟨#[108, 105, 110, 107]⟩ : ByteArray)] from rfl) (Reps.one (show Kd.M Kd.string _ _ _ (⟨#[109, 101, 116, 97]⟩ : ByteArray) [.string (⟨#[109, 101, 116, 97]⟩ : ByteArray)] from rfl) (Reps.one (show Kd.M Kd.string _ _ _ (⟨#[112, 97, 114, 97, 109]⟩ : ByteArray) [.string (⟨#[112, 97, 114, 97, 109]⟩ : ByteArray)] from rfl) (Reps.one (show Kd.M Kd.string _ _ _ (⟨#[115, 111, 117, 114, 99, 101]⟩ : ByteArray) [.string (⟨#[115, 111, 117, 114, 99, 101]⟩ : ByteArray)] from rfl) (Reps.one (show Kd.M Kd.string _ _ _ (⟨#[116, 114, 97, 99, 107]⟩ : ByteArray) [.string (⟨#[116, 114, 97, 99, 107]⟩ : ByteArray)] from rfl) (Reps.one (show Kd.M Kd.string _ _ _ (⟨#[119, 98, 114]⟩ : ByteArray) [.string (⟨#[119, 98, 114]⟩ : ByteArray)] from rfl) (Reps.none _ _))))))))))))))); intro v102 w3 ho4 hb hg_ hnew_; clear hg_ hnew_; (first | rw [← Ny101.out] at ho4 | (simp only [Int.reduceToNat] at ho4; rw [← Ny101.out] at ho4)); have n0_ := Ak (Kd.R_lower ho4 (below_size (by repeat (first | exact HB.out | apply below_alloc | apply pw_below_drewN | apply below_drew1)))); have n1_ := Ak (below_step (by repeat (first | exact HB.out | apply below_alloc | apply pw_below_drewN | apply below_drew1)) hb); clear HB; have HO103 := n0_; have HB := n1_; clear n0_ n1_; clear hb ho4; obtain ⟨Ao5, co5, eo5⟩ := Kd.R_slice HO103.out; subst eo5) | ((with_reducible refine gate_callee (f := 62) rfl ?_); refine goesL_ (some 5) rfl rfl Tryz.func62 (by kernel_rfl) rfl #[.slice Ao5 y101.length co5, .string a0] rfl (by (try simp only [List.map_toArray, List.map_cons, List.map_nil]); first | done | rfl | (simp only [List.length_drop, List.length_take]; rfl)) ?_; (with_reducible refine (spec_l8In.calls k _ _ y101 a0 t104 _ ?side1 ?side2 A2.out).mono ?_); (case side1 => repeat (first | exact (Kd.R_reads' HO103.out).2.2 | (with_reducible refine Kd.C_alloc ?_ _) | (with_reducible refine Kd.C_drewN ?_ _) | (with_reducible refine Kd.C_drew ?_))); (case side2 => exact (Kd.R_reads' HO103.out).2.1); rintro e w' ⟨rfl, ⟨nd, rfl⟩⟩; refine ⟨_, rfl, ?_⟩))
 go_ret
 exact ⟨by first | rfl | (simp [*] <;> rfl), by repeat (first | exact HB.out | apply below_alloc | apply pw_below_drewN | apply below_drew1)⟩
def spec_IsRaw.f (k : Nat) (a0 : ByteArray) : Option (Bool) := (spec_l8In.f k (([(⟨#[105, 102, 114, 97, 109, 101]⟩ : ByteArray), (⟨#[110, 111, 101, 109, 98, 101, 100]⟩ : ByteArray), (⟨#[110, 111, 102, 114, 97, 109, 101, 115]⟩ : ByteArray), (⟨#[112, 108, 97, 105, 110, 116, 101, 120, 116]⟩ : ByteArray), (⟨#[115, 99, 114, 105, 112, 116]⟩ : ByteArray), (⟨#[115, 116, 121, 108, 101]⟩ : ByteArray), (⟨#[120, 109, 112]⟩ : ByteArray)] : List ByteArray)) a0).bind fun t104 => (some t104)
theorem spec_IsRaw.mono : ∀ a0 k, LeO (spec_IsRaw.f k a0) (spec_IsRaw.f (k + 1) a0) := by
 intro a0 k
 unfold spec_IsRaw.f
 repeat' first
  | (with_reducible exact spec_l8In.mono _ _ _)
  | (with_reducible exact LeO.refl _)
  | (with_reducible exact LeO.none _)
  | (with_reducible refine LeO.ite ?_ ?_)
  | (with_reducible refine LeO.bind ?_ (fun _ => ?_))
  | exact spec_l8In.mono _ _ _
  | exact LeO.none _
  | refine LeO.ite ?_ ?_
  | refine LeO.bind ?_ (fun _ => ?_)
theorem spec_IsRaw.calls (k : Nat) (a0 : ByteArray) (r : Bool) (w : World) (h : spec_IsRaw.f k a0 = some r) :
 Calls Tryz.prog 41 #[.string a0] w fun e w' => e = .returned (.bool r) ∧ Below w.heap.size w w' := by
 have HB := Ak (Below.refl w.heap.size w)
 have H : ((spec_l8In.f k (([(⟨#[105, 102, 114, 97, 109, 101]⟩ : ByteArray), (⟨#[110, 111, 101, 109, 98, 101, 100]⟩ : ByteArray), (⟨#[110, 111, 102, 114, 97, 109, 101, 115]⟩ : ByteArray), (⟨#[112, 108, 97, 105, 110, 116, 101, 120, 116]⟩ : ByteArray), (⟨#[115, 99, 114, 105, 112, 116]⟩ : ByteArray), (⟨#[115, 116, 121, 108, 101]⟩ : ByteArray), (⟨#[120, 109, 112]⟩ : ByteArray)] : List ByteArray)) a0).bind fun t104 => (some t104)) = some r := h
 clear h
 obtain ⟨y101, hy101⟩ : ∃ y_ : List ByteArray, y_ = (([(⟨#[105, 102, 114, 97, 109, 101]⟩ : ByteArray), (⟨#[110, 111, 101, 109, 98, 101, 100]⟩ : ByteArray), (⟨#[110, 111, 102, 114, 97, 109, 101, 115]⟩ : ByteArray), (⟨#[112, 108, 97, 105, 110, 116, 101, 120, 116]⟩ : ByteArray), (⟨#[115, 99, 114, 105, 112, 116]⟩ : ByteArray), (⟨#[115, 116, 121, 108, 101]⟩ : ByteArray), (⟨#[120, 109, 112]⟩ : ByteArray)] : List ByteArray)) := ⟨_, rfl⟩
 replace H : ((spec_l8In.f k y101 a0).bind fun t104 => (some t104)) = some r := by first | (rw [hy101]; with_reducible exact H) | (have H2_ := (Option.bind_some _ _).symm.trans H; rw [hy101]; with_reducible exact H2_) | (have H2_ := (Option.bind_some _ _).symm.trans H; with_reducible exact H2_) | with_reducible exact H | (rw [hy101]; exact H) | exact H
 have Ny101 := Ak hy101
 clear hy101
 replace H := Ob H
 obtain ⟨t104, A20, H⟩ := H
 replace H : (some t104) = some r := H
 have A2 := Ak A20
 clear A20
 obtain rfl := Oi H
 go_enter Tryz.func41, Tryz.ntmps41
 go_wp2_with (first | ((with_reducible refine gate_dst (N := 3) rfl ?_); refine Kd.R_lit Kd.string _ 9 ?hg (N := 3) ?hd (xs := ([(⟨#[105, 102, 114, 97, 109, 101]⟩ : ByteArray), (⟨#[110, 111, 101, 109, 98, 101, 100]⟩ : ByteArray), (⟨#[110, 111, 102, 114, 97, 109, 101, 115]⟩ : ByteArray), (⟨#[112, 108, 97, 105, 110, 116, 101, 120, 116]⟩ : ByteArray), (⟨#[115, 99, 114, 105, 112, 116]⟩ : ByteArray), (⟨#[115, 116, 121, 108, 101]⟩ : ByteArray), (⟨#[120, 109, 112]⟩ : ByteArray)] : List ByteArray)) (inner := [.string (⟨#[105, 102, 114, 97, 109, 101]⟩ : ByteArray), .string (⟨#[110, 111, 101, 109, 98, 101, 100]⟩ : ByteArray), .string (⟨#[110, 111, 102, 114, 97, 109, 101, 115]⟩ : ByteArray), .string (⟨#[112, 108, 97, 105, 110, 116, 101, 120, 116]⟩ : ByteArray), .string (⟨#[115, 99, 114, 105, 112, 116]⟩ : ByteArray), .string (⟨#[115, 116, 121, 108, 101]⟩ : ByteArray), .string (⟨#[120, 109, 112]⟩ : ByteArray)]) (ok := fun _ => True) (okp := fun _ => True) ?hr ?hp (fun _ hk => hk) trivial (Below.refl _ _) (Nat.le_refl _) (by simp) ?_; (case hd => rfl); (case hg => rfl); (case hr => first | (go_simp; done) | (go_simp; rfl)); (case hp => exact (Reps.one (show Kd.M Kd.string _ _ _ (⟨#[105, 102, 114, 97, 109, 101]⟩ : ByteArray) [.string (⟨#[105, 102, 114, 97, 109, 101]⟩ : ByteArray)] from rfl) (Reps.one (show Kd.M Kd.string _ _ _ (⟨#[110, 111, 101, 109, 98, 101, 100]⟩ : ByteArray) [.string (⟨#[110, 111, 101, 109, 98, 101, 100]⟩ : ByteArray)] from rfl) (Reps.one (show Kd.M Kd.string _ _ _ (⟨#[110, 111, 102, 114, 97, 109, 101, 115]⟩ : ByteArray) [.string (⟨#[110, 111, 102, 114, 97, 109, 101, 115]⟩ : ByteArray)] from rfl) (Reps.one (show Kd.M Kd.string _ _ _ (⟨#[112, 108, 97, 105, 110, 116, 101, 120, 116]⟩ : ByteArray) [.string (⟨#[112, 108, 97, 105, 110, 116, 101, 120, 116]⟩ : ByteArray)] from rfl) (Reps.one (show Kd.M Kd.string _ _ _ (⟨#[115, 99, 114, 105, 112, 116]⟩ : ByteArray) [.string (⟨#[115, 99, 114, 105, 112, 116]⟩ : ByteArray)] from rfl) (Reps.one (show Kd.M Kd.string _ _ _ (⟨#[115, 116, 121, 108, 101]⟩ : ByteArray) [.string (⟨#[115, 116, 121, 108, 101]⟩ : ByteArray)] from rfl) (Reps.one (show Kd.M Kd.string _ _ _ (⟨#[120, 109, 112]⟩ : ByteArray) [.string (⟨#[120, 109, 112]⟩ : ByteArray)] from rfl) (Reps.none _ _))))))))); intro v102 w3 ho4 hb hg_ hnew_; clear hg_ hnew_; (first | rw [← Ny101.out] at ho4 | (simp only [Int.reduceToNat] at ho4; rw [← Ny101.out] at ho4)); have n0_ := Ak (Kd.R_lower ho4 (below_size (by repeat (first | exact HB.out | apply below_alloc | apply pw_below_drewN | apply below_drew1)))); have n1_ := Ak (below_step (by repeat (first | exact HB.out | apply below_alloc | apply pw_below_drewN | apply below_drew1)) hb); clear HB; have HO103 := n0_; have HB := n1_; clear n0_ n1_; clear hb ho4; obtain ⟨Ao5, co5, eo5⟩ := Kd.R_slice HO103.out; subst eo5) | ((with_reducible refine gate_callee (f := 62) rfl ?_); refine goesL_ (some 5) rfl rfl Tryz.func62 (by kernel_rfl) rfl #[.slice Ao5 y101.length co5, .string a0] rfl (by (try simp only [List.map_toArray, List.map_cons, List.map_nil]); first | done | rfl | (simp only [List.length_drop, List.length_take]; rfl)) ?_; (with_reducible refine (spec_l8In.calls k _ _ y101 a0 t104 _ ?side1 ?side2 A2.out).mono ?_); (case side1 => repeat (first | exact (Kd.R_reads' HO103.out).2.2 | (with_reducible refine Kd.C_alloc ?_ _) | (with_reducible refine Kd.C_drewN ?_ _) | (with_reducible refine Kd.C_drew ?_))); (case side2 => exact (Kd.R_reads' HO103.out).2.1); rintro e w' ⟨rfl, ⟨nd, rfl⟩⟩; refine ⟨_, rfl, ?_⟩))
 go_ret
 exact ⟨by first | rfl | (simp [*] <;> rfl), by repeat (first | exact HB.out | apply below_alloc | apply pw_below_drewN | apply below_drew1)⟩
structure OutW (w W : World) (gq : Nat) (vo : Value) (outs : List S41) : Prop where
 blk : W.heap[gq]? = some (.cells #[vo] 29 (0, 0))
 row : Kd.S k41 41 W w.heap.size (fun k => k ≠ gq) vo outs
 low : Below w.heap.size w W
 ge : w.heap.size ≤ gq
section
variable {w W W2 : World} {gq : Nat} {vo : Value} {outs : List S41}
theorem OutW.below (h : OutW w W gq vo outs) (hb : Below W.heap.size W W2) : OutW w W2 gq vo outs := ⟨blk_below h.blk hb, Kd.S_below h.row hb, below_step h.low hb, h.ge⟩
theorem OutW.drewN (h : OutW w W gq vo outs) (n : Nat) : OutW w (W.drewN n) gq vo outs := ⟨h.blk, Kd.S_drewN h.row n, pw_below_drewN h.low n, h.ge⟩
theorem OutW.cell (h : OutW w W gq vo outs) : W.cell? ⟨gq, 0, none⟩ = some vo := (blk_cell h.blk 0).trans rfl
theorem OutW.lt (h : OutW w W gq vo outs) : gq < W.heap.size := blk_lt h.blk
end
structure NodW (w W : World) (gb : Nat) (x : S41) (v2 v5 : Value) : Prop where
 blk : W.heap[gb]? = some (.cells #[.int .i64 x.f0, .string x.f1, v2, .string x.f3, .int .i64 x.f4, v5] 41 (0, 0))
 r2 : Kd.R k72 72 W w.heap.size (fun k => k ≠ gb) v2 x.f2
 r5 : Kd.R (Kd.int .i64) 3 W w.heap.size (fun k => k ≠ gb) v5 x.f5
 low : Below w.heap.size w W
 ge : w.heap.size ≤ gb
section
variable {w W W2 : World} {gb : Nat} {x : S41} {v2 v5 : Value}
theorem NodW.below (h : NodW w W gb x v2 v5) (hb : Below W.heap.size W W2) : NodW w W2 gb x v2 v5 := ⟨blk_below h.blk hb, Kd.R_below h.r2 hb, Kd.R_below h.r5 hb, below_step h.low hb, h.ge⟩
theorem NodW.drewN (h : NodW w W gb x v2 v5) (n : Nat) : NodW w (W.drewN n) gb x v2 v5 := ⟨h.blk, Kd.R_drewN h.r2 n, Kd.R_drewN h.r5 n, pw_below_drewN h.low n, h.ge⟩
theorem NodW.new {w W w2 : World} {a0 a1 a2 a3 a4 a5 : Value} (x : S41) (r2 : Kd.R k72 72 W w.heap.size (fun _ => True) v2 x.f2) (r5 : Kd.R (Kd.int .i64) 3 W w.heap.size (fun _ => True) v5 x.f5) (hb : Below w.heap.size w W) (hb2 : Below W.heap.size W w2) (hg : gb = W.heap.size) (hbox : w2.heap[gb]? = some (.cells #[a0, a1, a2, a3, a4, a5] 41 (0, 0))) : NodW w (fillN w2 gb x v2 v5) gb x v2 v5 := by
 have hge : w.heap.size ≤ gb := by rw [hg]; exact hb.size
 have q2 : Kd.R k72 72 w2 w.heap.size (fun k => k ≠ gb) v2 x.f2 := Kd.R_below (Kd.R_mono (Kd.R_bound r2) (fun k hk => by omega)) hb2
 have q5 : Kd.R (Kd.int .i64) 3 w2 w.heap.size (fun k => k ≠ gb) v5 x.f5 := Kd.R_below (Kd.R_mono (Kd.R_bound r5) (fun k hk => by omega)) hb2
 have f2 : ∀ k, k ≠ gb → k ≠ gb := fun _ h => h
 refine ⟨fillN_blk x v2 v5 hbox, ?_, ?_, fillN_below x v2 v5 (below_step hb hb2) hge, hge⟩
 ·exact Kd.R_far (p := ⟨gb, 5, none⟩) (Kd.R_far (p := ⟨gb, 4, none⟩) (Kd.R_far (p := ⟨gb, 3, none⟩) (Kd.R_far (p := ⟨gb, 2, none⟩) (Kd.R_far (p := ⟨gb, 1, none⟩) (Kd.R_far (p := ⟨gb, 0, none⟩) q2 f2 _) f2 _) f2 _) f2 _) f2 _) f2 _
 ·exact Kd.R_far (p := ⟨gb, 5, none⟩) (Kd.R_far (p := ⟨gb, 4, none⟩) (Kd.R_far (p := ⟨gb, 3, none⟩) (Kd.R_far (p := ⟨gb, 2, none⟩) (Kd.R_far (p := ⟨gb, 1, none⟩) (Kd.R_far (p := ⟨gb, 0, none⟩) q5 f2 _) f2 _) f2 _) f2 _) f2 _) f2 _
theorem NodW.cells (h : NodW w W gb x v2 v5) : W.cell? ⟨gb, 0, none⟩ = some (.int .i64 x.f0) ∧ W.cell? ⟨gb, 1, none⟩ = some (.string x.f1) ∧ W.cell? ⟨gb, 2, none⟩ = some v2 ∧ W.cell? ⟨gb, 3, none⟩ = some (.string x.f3) ∧ W.cell? ⟨gb, 4, none⟩ = some (.int .i64 x.f4) ∧ W.cell? ⟨gb, 5, none⟩ = some v5 :=
 ⟨(blk_cell h.blk 0).trans rfl, (blk_cell h.blk 1).trans rfl, (blk_cell h.blk 2).trans rfl, (blk_cell h.blk 3).trans rfl, (blk_cell h.blk 4).trans rfl, (blk_cell h.blk 5).trans rfl⟩
theorem NodW.kid {gk n cap : Nat} (h : NodW w W gb x v2 (.slice (some ⟨gk, 0, none⟩) n cap)) (i y : Int) : NodW w (W.setCell ⟨gk, i.toNat, none⟩ (.int .i64 y)) gb ⟨x.f0, x.f1, x.f2, x.f3, x.f4, x.f5.set i.toNat y⟩ v2 (.slice (some ⟨gk, 0, none⟩) n cap) := by
 have hne : gk ≠ gb := h.r5.1 gk rfl
 obtain ⟨cells, hc⟩ := Kd.R_typed h.r5 gk rfl
 exact ⟨blk_far (p := ⟨gk, i.toNat, none⟩) h.blk (Ne.symm hne) _, Kd.R_mono (Kd.R_far (p := ⟨gk, i.toNat, none⟩) (Kd.R_types h.r2 hc (by decide)) (fun _ hk => hk.2) _) (fun _ hk => hk.1), Kd.R_putn h.r5 i y, below_set h.low (Kd.R_base h.r5 gk rfl), h.ge⟩
theorem NodW.par (h : NodW w W gb x v2 v5) (y : Int) : NodW w (W.setCell ⟨gb, 4, none⟩ (.int .i64 y)) gb ⟨x.f0, x.f1, x.f2, x.f3, y, x.f5⟩ v2 v5 :=
 ⟨blk_set h.blk 4 _, Kd.R_far (p := ⟨gb, 4, none⟩) h.r2 (fun _ hk => hk) _, Kd.R_far (p := ⟨gb, 4, none⟩) h.r5 (fun _ hk => hk) _, below_set h.low h.ge, h.ge⟩
theorem NodW.elem {w0 : World} (h : NodW w W gb x v2 v5) (hb : Below w0.heap.size w0 w) : k41.M W w0.heap.size (fun k => w.heap.size ≤ k ∧ k < W.heap.size) x [.int .i64 x.f0, .string x.f1, v2, .string x.f3, .int .i64 x.f4, v5] :=
 k41_mkM _ _ _ x (Kd.R_lower (Kd.R_mono (Kd.R_bound h.r2) (fun _ hk => ⟨hk.2.1, hk.2.2.1⟩)) hb.size) (Kd.R_lower (Kd.R_mono (Kd.R_bound h.r5) (fun _ hk => ⟨hk.2.1, hk.2.2.1⟩)) hb.size)
theorem OutW.apart {w0 : World} {gq : Nat} {vo : Value} {outs : List S41} (h : OutW w0 w gq vo outs) (hb : Below w.heap.size w W) : Kd.S k41 41 W w0.heap.size (fun k => k ≠ gq ∧ ¬ (w.heap.size ≤ k ∧ k < W.heap.size)) vo outs :=
 Kd.S_below (Kd.S_mono (Kd.S_bound h.row) (fun k hk => ⟨hk.1, by have := hk.2.2.1; omega⟩)) hb
theorem OutW.okp {w0 : World} {gq : Nat} {vo : Value} {outs : List S41} (h : OutW w0 w gq vo outs) {B : Nat} : ∀ k, (w.heap.size ≤ k ∧ k < B) → k ≠ gq ∧ some k ≠ vo.ownBlock := fun k hk => ⟨by have := h.lt; omega, fun e => by have := Kd.S_lt h.row k e.symm; omega⟩
theorem OutW.put {w0 : World} {gq : Nat} {vo v1 : Value} {outs ys : List S41} {w1 : World} (h : OutW w0 w gq vo outs) (hb : Below w.heap.size w W) (hS : Kd.S k41 41 w1 w0.heap.size (fun k => k ≠ gq) v1 ys) (hlow : Below w0.heap.size w0 w1) (hg : W.grownBy w1 vo.ownBlock) : OutW w0 (w1.setCell ⟨gq, 0, none⟩ v1) gq v1 ys := by
 have hne : some gq ≠ vo.ownBlock := fun e => h.row |> Kd.S_R |>.1 gq e.symm <| rfl
 refine ⟨blk_set (blk_grown (blk_below h.blk hb) hg hne) 0 v1, Kd.S_far (p := ⟨gq, 0, none⟩) hS (fun _ hk => hk) _, below_set hlow h.ge, h.ge⟩
end
structure RowW (w W : World) (gs n cap : Nat) (s : List Int) : Prop where
 row : Kd.R (Kd.int .i64) 3 W w.heap.size (fun k => k = gs) (.slice (some ⟨gs, 0, none⟩) n cap) s
 low : Below w.heap.size w W
section
variable {w W W2 : World} {gs n cap : Nat} {s : List Int}
theorem RowW.of {vs : Value} (h : Kd.R (Kd.int .i64) 3 W w.heap.size (fun _ => True) vs s) (hb : Below w.heap.size w W) (hp : 0 < s.length) : ∃ gs cap, vs = .slice (some ⟨gs, 0, none⟩) s.length cap ∧ RowW w W gs s.length cap s := by
 obtain ⟨gs, cap, ev, _, _, _⟩ := Kd.R_form h hp
 subst ev
 exact ⟨gs, cap, rfl, Kd.R_mono (Kd.R_tight rfl h) (fun k_ hk => by simpa [Value.ownBlock] using hk), hb⟩
theorem RowW.below (h : RowW w W gs n cap s) (hb : Below W.heap.size W W2) : RowW w W2 gs n cap s := ⟨Kd.R_below h.row hb, below_step h.low hb⟩
theorem RowW.drewN (h : RowW w W gs n cap s) (k : Nat) : RowW w (W.drewN k) gs n cap s := ⟨Kd.R_drewN h.row k, pw_below_drewN h.low k⟩
theorem RowW.put (h : RowW w W gs n cap s) (i x : Int) : RowW w (W.setCell ⟨gs, i.toNat, none⟩ (.int .i64 x)) gs n cap (s.set i.toNat x) :=
 ⟨Kd.R_putn h.row i x, below_set h.low (Kd.R_base h.row gs rfl)⟩
theorem RowW.at_ (h : RowW w W gs n cap s) (i : Int) (h0 : 0 ≤ i) (h1 : i < n) : W.cell? ⟨gs, i.toNat, none⟩ = some (.int .i64 (rd s i)) ∧ W.frozen? ⟨gs, i.toNat, none⟩ = false := Kd.R_celln 0 h.row i h0 h1
theorem RowW.len (h : RowW w W gs n cap s) : n = s.length := (Kd.R_reads' h.row).1
end
structure ElemW (W : World) (base : Nat) (ok : Nat → Prop) (g n cap : Nat) (xs : List S41) (i : Int) (oki : Nat → Prop) (x : S41) (v2 v5 : Value) : Prop where
 h0 : 0 ≤ i
 h1 : i < n
 hole : Kd.H k41 41 W base ok (.slice (some ⟨g, 0, none⟩) n cap) xs i oki [.int .i64 x.f0, .string x.f1, v2, .string x.f3, .int .i64 x.f4, v5]
 r2 : Kd.R k72 72 W base oki v2 x.f2
 r5 : Kd.R (Kd.int .i64) 3 W base oki v5 x.f5
 ne : ∀ k, oki k → k ≠ g
 new : ∀ k, ok k → W.heap.size ≤ k → oki k
 sub : ∀ k, oki k → ok k
theorem ElemW.of {W : World} {base g n cap : Nat} {ok : Nat → Prop} {xs : List S41} (h : Kd.S k41 41 W base ok (.slice (some ⟨g, 0, none⟩) n cap) xs) (i : Int) (h0 : 0 ≤ i) (h1 : i < n) : ∃ oki v2 v5, ElemW W base ok g n cap xs i oki (rd_T41 xs i) v2 v5 := by
 obtain ⟨oki, c, hcl, hM, hcc, hfr, hoki, hH⟩ := Kd.S_elem h z41 i h0 h1
 obtain ⟨v2, v5, rfl, g2, g5⟩ := k41_openM hM
 have hg : g < W.heap.size := Kd.S_lt h g rfl
 exact ⟨fun k => oki k ∨ ok k ∧ W.heap.size ≤ k, v2, v5, h0, h1, Kd.H_widen hH, Kd.R_mono g2 (fun _ hk => .inl hk), Kd.R_mono g5 (fun _ hk => .inl hk), fun k hk => hk.elim (fun h_ => (hoki k h_).2) (fun h_ => by omega), fun k h1 h2 => .inr ⟨h1, h2⟩, fun k hk => hk.elim (fun h_ => (hoki k h_).1) (fun h_ => h_.1)⟩
theorem ElemW.cell {W : World} {base g n cap : Nat} {ok oki : Nat → Prop} {xs : List S41} {i : Int} {x : S41} {v2 v5 : Value} (h : ElemW W base ok g n cap xs i oki x v2 v5) (j : Nat) (u : Value) (hu : ([.int .i64 x.f0, .string x.f1, v2, .string x.f3, .int .i64 x.f4, v5] : List Value)[j]? = some u) : W.cell? ⟨g, i.toNat * 6 + j, none⟩ = some u := H_cellN h.hole h.h0 h.h1 j u hu
theorem ElemW.free {W : World} {base g n cap : Nat} {ok oki : Nat → Prop} {xs : List S41} {i : Int} {x : S41} {v2 v5 : Value} (h : ElemW W base ok g n cap xs i oki x v2 v5) (j : Nat) : W.frozen? ⟨g, j, none⟩ = false := H_freeN h.hole h.h0 h.h1 j
theorem ElemW.kids {W W2 : World} {base g n cap : Nat} {ok oki : Nat → Prop} {xs : List S41} {i : Int} {x : S41} {v2 v5 v5n : Value} {ys : List Int} (h : ElemW W base ok g n cap xs i oki x v2 v5) (r5 : Kd.R (Kd.int .i64) 3 W2 base oki v5n ys) (hk : Kept W W2 (fun k => some k = v5.ownBlock)) :
 Kd.S k41 41 (W2.setCell ⟨g, i.toNat * 6 + 5, none⟩ v5n) base ok (.slice (some ⟨g, 0, none⟩) n cap) (xs.set i.toNat ⟨x.f0, x.f1, x.f2, x.f3, x.f4, ys⟩) := by
 have hH2 : Kd.H k41 41 W2 base ok (.slice (some ⟨g, 0, none⟩) n cap) xs i oki _ := Kd.H_step h.hole (fun k _ hn hlt => hk.2 k hlt (fun e => hn (h.r5.1 k e.symm)))
 have q2 : Kd.R k72 72 W2 base oki v2 x.f2 := Kd.R_reok rfl (Kd.R_kept (Kd.R_tight rfl h.r2) hk (fun k h2 h5 => by
  obtain ⟨c2, e2⟩ := Kd.R_typed h.r2 k h2.symm
  obtain ⟨c5, e5⟩ := Kd.R_typed h.r5 k h5.symm
  rw [e2] at e5
  injection e5 with e5
  injection e5 with _ e5
  exact absurd e5 (by decide))) (fun k e => h.r2.1 k e)
 obtain ⟨g1, _⟩ := Kd.H_seg hH2 h.h0 h.h1 (seg := [v5n]) (j := 5) (show 5 + 1 ≤ 6 by omega) (fun q hq => by rw [List.mem_singleton.1 hq]; exact (Kd.R_val r5).2)
 have hf : ∀ k, oki k → k ≠ g := h.ne
 exact Kd.H_back (w := W2.setCell ⟨g, i.toNat * 6 + 5, none⟩ v5n) g1 (k41_mkM _ _ oki ⟨x.f0, x.f1, x.f2, x.f3, x.f4, ys⟩ (Kd.R_far (p := ⟨g, i.toNat * 6 + 5, none⟩) q2 hf _) (Kd.R_far (p := ⟨g, i.toNat * 6 + 5, none⟩) r5 hf _)) (fun _ hk => hk)
structure AlkW (w W : World) (ga gb : Nat) (A0 A1 : Option Addr) (n0 c0 n1 c1 : Nat) : Prop where
 a : W.heap[ga]? = some (.cells #[.slice A0 n0 c0] 29 (0, 0))
 b : W.heap[gb]? = some (.cells #[.slice A1 n1 c1] 29 (0, 0))
 low : Below w.heap.size w W
section
variable {w W W2 : World} {ga gb n0 c0 n1 c1 : Nat} {A0 A1 : Option Addr}
theorem AlkW.below (h : AlkW w W ga gb A0 A1 n0 c0 n1 c1) (hb : Below W.heap.size W W2) : AlkW w W2 ga gb A0 A1 n0 c0 n1 c1 := ⟨blk_below h.a hb, blk_below h.b hb, below_step h.low hb⟩
theorem AlkW.drewN (h : AlkW w W ga gb A0 A1 n0 c0 n1 c1) (n : Nat) : AlkW w (W.drewN n) ga gb A0 A1 n0 c0 n1 c1 := ⟨h.a, h.b, pw_below_drewN h.low n⟩
end
def okS (s : ByteArray) : Option ByteArray := if s.size ≤ 9223372036854775807 then some s else none
def spec_l8Print.la : Nat → ByteArray → List S72 → Int → Option ByteArray
 | 0, _, _, _ => none
 | k + 1, o, as_, j => if j < (as_.length : Int) then (if 0 ≤ j then (spec_Escape.f k (rd_T72 as_ j).f1 true).bind fun e => (okS (o ++ (⟨#[32]⟩ : ByteArray) ++ (rd_T72 as_ j).f0 ++ (⟨#[61, 34]⟩ : ByteArray) ++ e ++ (⟨#[34]⟩ : ByteArray))).bind fun o2 => spec_l8Print.la k o2 as_ (wrap64 (j + 1)) else none) else some o
def spec_l8Print.n (p : Option ByteArray) (k : Nat) (nm o : ByteArray) (x : S41) : Option ByteArray :=
 if x.f0 = 2 then okS (o ++ (⟨#[60, 33, 68, 79, 67, 84, 89, 80, 69, 32]⟩ : ByteArray) ++ x.f1 ++ (⟨#[62]⟩ : ByteArray))
 else if x.f0 = 3 then (okS (o ++ (⟨#[60]⟩ : ByteArray) ++ x.f1)).bind fun o1 => (spec_l8Print.la k o1 x.f2 0).bind fun o2 => (okS (o2 ++ (⟨#[62]⟩ : ByteArray))).bind fun o3 => (spec_IsVoid.f k x.f1).bind fun v => if v = true then some o3 else p.bind fun s => okS (o3 ++ s ++ (⟨#[60, 47]⟩ : ByteArray) ++ x.f1 ++ (⟨#[62]⟩ : ByteArray))
 else if x.f0 = 4 then (spec_IsRaw.f k nm).bind fun q => if q = true then okS (o ++ x.f3) else (spec_Escape.f k x.f3 false).bind fun e => okS (o ++ e)
 else if x.f0 = 5 then okS (o ++ (⟨#[60, 33, 45, 45]⟩ : ByteArray) ++ x.f3 ++ (⟨#[45, 45, 62]⟩ : ByteArray))
 else some o
def spec_l8Print.lk (p : Int → Option ByteArray) (xs : List S41) (nm : ByteArray) : Nat → ByteArray → List Int → Int → Option ByteArray
 | 0, _, _, _ => none
 | k + 1, o, ks, i => if i < (ks.length : Int) then (if 0 ≤ i then (if 0 ≤ rd ks i then (if rd ks i < (xs.length : Int) then (spec_l8Print.n (p (rd ks i)) k nm o (rd_T41 xs (rd ks i))).bind fun o2 => spec_l8Print.lk p xs nm k o2 ks (wrap64 (i + 1)) else none) else none) else none) else some o
def spec_l8Print.f : Nat → List S41 → Int → Option ByteArray
 | 0, _, _ => none
 | k + 1, xs, at_ => if 0 ≤ at_ then (if at_ < (xs.length : Int) then spec_l8Print.lk (fun i => spec_l8Print.f k xs i) xs (rd_T41 xs at_).f1 k ⟨#[]⟩ (rd_T41 xs at_).f5 0 else none) else none
theorem spec_l8Print.mono_a : ∀ k a b c, LeO (spec_l8Print.la k a b c) (spec_l8Print.la (k + 1) a b c)
 | 0 => fun _ _ _ r h => by simp [spec_l8Print.la] at h
 | k + 1 => fun a b c => by
  rw [spec_l8Print.la, spec_l8Print.la]
  exact LeO.ite (LeO.ite (LeO.bind (spec_Escape.mono _ _ k) (fun _ => LeO.bind (LeO.refl _) (fun _ => spec_l8Print.mono_a k _ _ _))) (LeO.refl _)) (LeO.refl _)
theorem spec_l8Print.mono_n {p q : Option ByteArray} (hp : LeO p q) (k : Nat) (a b c) : LeO (spec_l8Print.n p k a b c) (spec_l8Print.n q (k + 1) a b c) := by
 unfold spec_l8Print.n
 exact LeO.ite (LeO.refl _) (LeO.ite (LeO.bind (LeO.refl _) (fun _ => LeO.bind (spec_l8Print.mono_a k _ _ _) (fun _ => LeO.bind (LeO.refl _) (fun _ => LeO.bind (spec_IsVoid.mono _ k) (fun _ => LeO.ite (LeO.refl _) (LeO.bind hp (fun _ => LeO.refl _))))))) (LeO.ite (LeO.bind (spec_IsRaw.mono _ k) (fun _ => LeO.ite (LeO.refl _) (LeO.bind (spec_Escape.mono _ _ k) (fun _ => LeO.refl _)))) (LeO.refl _)))
theorem spec_l8Print.mono_k {p q : Int → Option ByteArray} (hp : ∀ i, LeO (p i) (q i)) (xs nm) : ∀ k a b c, LeO (spec_l8Print.lk p xs nm k a b c) (spec_l8Print.lk q xs nm (k + 1) a b c)
 | 0 => fun _ _ _ r h => by simp [spec_l8Print.lk] at h
 | k + 1 => fun a b c => by
  rw [spec_l8Print.lk, spec_l8Print.lk]
  exact LeO.ite (LeO.ite (LeO.ite (LeO.ite (LeO.bind (spec_l8Print.mono_n (hp _) k _ _ _) (fun _ => spec_l8Print.mono_k hp xs nm k _ _ _)) (LeO.refl _)) (LeO.refl _)) (LeO.refl _)) (LeO.refl _)
theorem spec_l8Print.mono : ∀ k a b, LeO (spec_l8Print.f k a b) (spec_l8Print.f (k + 1) a b)
 | 0 => fun _ _ r h => by simp [spec_l8Print.f] at h
 | k + 1 => fun a b => by
  rw [spec_l8Print.f, spec_l8Print.f]
  exact LeO.ite (LeO.ite (spec_l8Print.mono_k (fun _ => spec_l8Print.mono k _ _) _ _ k _ _ _) (LeO.refl _)) (LeO.refl _)
theorem okS_le {s r : ByteArray} (h : okS s = some r) : s.size ≤ 9223372036854775807 ∧ r = s := by
 unfold okS at h
 by_cases c : s.size ≤ 9223372036854775807
 ·rw [if_pos c] at h
  exact ⟨c, (Oi h).symm⟩
 ·rw [if_neg c] at h; cases h
structure LpN (w W : World) (gt : Nat) (A0 : Option Addr) (n0 c0 gn : Nat) (x : S41) (A2 A5 : Option Addr) (c2 c5 : Nat) : Prop where
 t : BoxW w W gt A0 n0 c0
 bn : W.heap[gn]? = some (.cells #[.int .i64 x.f0, .string x.f1, .slice A2 x.f2.length c2, .string x.f3, .int .i64 x.f4, .slice A5 x.f5.length c5] 41 (0, 0))
section
variable {w W W2 : World} {gt gn n0 c0 c2 c5 : Nat} {A0 A2 A5 : Option Addr} {x : S41}
theorem LpN.below (h : LpN w W gt A0 n0 c0 gn x A2 A5 c2 c5) (hb : Below W.heap.size W W2) : LpN w W2 gt A0 n0 c0 gn x A2 A5 c2 c5 := ⟨h.t.below hb, blk_below h.bn hb⟩
theorem LpN.drew (h : LpN w W gt A0 n0 c0 gn x A2 A5 c2 c5) : LpN w W.drew gt A0 n0 c0 gn x A2 A5 c2 c5 := h.below (pw_below_drewN (Below.refl _ _) 1)
end
abbrev LpAt (k : Nat) : Prop := ∀ (A0 : Option Addr) (c0 : Nat) (xs : List S41) (at_ : Int) (r : ByteArray) (w : World), Kd.C k41 w A0 xs.length xs → spec_l8Print.f k xs at_ = some r → Calls Tryz.prog 19 #[.agg #[.slice A0 xs.length c0], .int .i64 at_] w fun e w' => e = .returned (.string r) ∧ Below w.heap.size w w'
theorem spec_l8Print.step (k : Nat) (hp : LpAt k) : LpAt (k + 1) := by
 intro A0 c0 xs at_ r w hc h
 simp only [spec_l8Print.f] at h
 by_cases c1 : 0 ≤ at_
 case neg => rw [if_neg c1] at h; cases h
 rw [if_pos c1] at h
 by_cases c2 : at_ < (xs.length : Int)
 case neg => rw [if_neg c2] at h; cases h
 rw [if_pos c2] at h
 have HP := Ak hp
 have HC := Ak hc
 have HA := Ak h
 obtain ⟨ad, B_2, d_2, B_5, d_5, e1, hx0, hx1, hx2, hx3, hx4, hx5, hl2, hi2, hl5, hi5⟩ := at_T41 hc at_ c1 c2
 subst e1
 have HI5 := Ak hi5
 have HX1 := Ak hx1
 have HX5 := Ak hx5
 clear hp hc h hx0 hx1 hx2 hx3 hx4 hx5 hl2 hi2 hl5 hi5
 replace c1 := eq_true c1
 replace c2 := eq_true c2
 generalize (rd_T41 xs at_).f5 = ks at *
 generalize (rd_T41 xs at_).f1 = nm at *
 go_enter Tryz.func19, Tryz.ntmps19
 go_upto_region 1 with (first
  | ((with_reducible refine gate_dst (N := 2) rfl ?_); refine box_event ?hg (N := 2) ?hd (cs := #[.slice (some ad) xs.length c0]) (t := 29) ?hr ?_; (case hd => rfl); (case hg => rfl); (case hr => first | (go_simp; done) | (go_simp; rfl)); intro gt hg w1 hbox hb; have HX := Ak (show BoxW w w1 gt (some ad) xs.length c0 from ⟨hbox, hb, by rw [hg]; exact Nat.le_refl _⟩); clear hbox hb hg))
 have hct := HX.out.cell
 have hx5 := pw_cell_below HX.out.low HX5.out
 go_wp2
 clear hct hx5 HX5
 go_loopg [5, 7] k (fun kq v5 v7 w' => ∃ (o : ByteArray) (i : Int), v5 = .string o ∧ v7 = .int .i64 i ∧ Aside0 (spec_l8Print.lk (fun i => spec_l8Print.f k xs i) xs nm kq o ks i = some r) ∧ Aside0 (kq ≤ k) ∧ Aside0 (BoxW w w' gt (some ad) xs.length c0))
 case atStart => exact ⟨_, 0, rfl, rfl, HA, ⟨Nat.le_refl _⟩, HX⟩
 case round =>
  clear HA HX
  obtain ⟨o, i, rfl, rfl, HA, HK, HX⟩ := hrel
  cases gk with
  | zero => exact absurd HA.out (by simp [spec_l8Print.lk])
  | succ k1 =>
   have H := HA.out
   clear HA
   simp only [spec_l8Print.lk] at H
   by_cases g1 : i < (ks.length : Int)
   case neg =>
    rw [if_neg g1] at H
    obtain rfl := Oi H
    clear H
    have g1b : decide (i < (ks.length : Int)) = false := decide_eq_false g1
    clear g1
    go_wp2
    go_ret
    exact ⟨rfl, HX.out.low⟩
   rw [if_pos g1] at H
   by_cases g2 : 0 ≤ i
   case neg => rw [if_neg g2] at H; cases H
   rw [if_pos g2] at H
   by_cases g3 : 0 ≤ rd ks i
   case neg => rw [if_neg g3] at H; cases H
   rw [if_pos g3] at H
   by_cases g4 : rd ks i < (xs.length : Int)
   case neg => rw [if_neg g4] at H; cases H
   rw [if_pos g4] at H
   obtain ⟨o9, A1, H⟩ := Ob H
   have HA := Ak H
   have HN := Ak A1
   clear H A1
   have g1b : decide (i < (ks.length : Int)) = true := decide_eq_true g1
   obtain ⟨ak, e2, hy0⟩ := Kd.at_int HI5.out i g2 g1
   subst e2
   obtain ⟨ad', A_2, c_2, A_5, c_5, e1, hx0, hx1, hx2, hx3, hx4, hx5, hl2, hi2, hl5, hi5⟩ := at_T41 HC.out (rd ks i) g3 g4
   injection e1 with e1
   subst e1
   have HY := Ak hy0
   have HI2 := Ak hi2
   clear hl2 hi2 hl5 hi5
   have hy0 := pw_cell_below HX.out.low hy0
   have hx0 := pw_cell_below HX.out.low hx0
   have hx1 := pw_cell_below HX.out.low hx1
   have hx2 := pw_cell_below HX.out.low hx2
   have hx3 := pw_cell_below HX.out.low hx3
   have hx4 := pw_cell_below HX.out.low hx4
   have hx5 := pw_cell_below HX.out.low hx5
   have hct := HX.out.cell
   replace g1 := eq_true g1
   replace g2 := eq_true g2
   replace g3 := eq_true g3
   replace g4 := eq_true g4
   generalize hxx : rd_T41 xs (rd ks i) = x at *
   clear hxx
   generalize hii : rd ks i = ii at *
   clear hii
   go_upto_region 6 with (fail)
   have hqhct := fun O => pw_cell_below (below_alloc (Below.refl wr.heap.size wr) O) hct
   have hqhy0 := fun O => pw_cell_below (below_alloc (Below.refl wr.heap.size wr) O) hy0
   have hqhx0 := fun O => pw_cell_below (below_alloc (Below.refl wr.heap.size wr) O) hx0
   have hqhx1 := fun O => pw_cell_below (below_alloc (Below.refl wr.heap.size wr) O) hx1
   have hqhx2 := fun O => pw_cell_below (below_alloc (Below.refl wr.heap.size wr) O) hx2
   have hqhx3 := fun O => pw_cell_below (below_alloc (Below.refl wr.heap.size wr) O) hx3
   have hqhx4 := fun O => pw_cell_below (below_alloc (Below.refl wr.heap.size wr) O) hx4
   have hqhx5 := fun O => pw_cell_below (below_alloc (Below.refl wr.heap.size wr) O) hx5
   go_cut [8] (fun v8 wc => ∃ gn : Nat, v8 = .pointer (some ⟨gn, 0, none⟩) ∧ Aside0 (LpN w wc gt (some ad) xs.length c0 gn x A_2 A_5 c_2 c_5))
   case first =>
    go_region
    all_goals (go_wp2; go_meet; exact ⟨_, rfl, ⟨HX.out.below (pw_below_drewN (below_alloc (Below.refl _ _) _) 1), blk_new wr _⟩⟩)
   case rest =>
    obtain ⟨gn, rfl, HL⟩ := hcut
    clear hct hy0 hx0 hx1 hx2 hx3 hx4 hx5 hqhct hqhy0 hqhx0 hqhx1 hqhx2 hqhx3 hqhx4 hqhx5 HX
    have hn0 := blk_cell HL.out.bn 0
    have H := HN.out
    clear HN
    unfold spec_l8Print.n at H
    by_cases e2 : x.f0 = 2
    ·rw [if_pos e2] at H
     have e2b : (x.f0 == 2) = true := beq_iff_eq.2 e2
     clear e2
     obtain ⟨c3, rfl⟩ := okS_le H
     clear H
     replace c3 : o.size + 10 + x.f1.size + 1 ≤ 9223372036854775807 := by rw [ByteArray.size_append, ByteArray.size_append, ByteArray.size_append] at c3; exact c3
     have q1 : (9223372036854775807 < o.size + 10) = False := eq_false (by omega)
     have q2 : (9223372036854775807 < o.size + 10 + x.f1.size) = False := eq_false (by omega)
     have q3 : (9223372036854775807 < o.size + 10 + x.f1.size + 1) = False := eq_false (by omega)
     have hn1 := blk_cell HL.out.bn 1
     go_wp2
     go_roundg k1
     case measure => have := HK.out; omega
     case rel => exact ⟨_, _, rfl, rfl, HA, ⟨by have := HK.out; omega⟩, ⟨HL.out.t⟩⟩
    rw [if_neg e2] at H
    have e2b : (x.f0 == 2) = false := beq_eq_false_iff_ne.2 e2
    clear e2
    by_cases e3 : x.f0 = 3
    ·rw [if_pos e3] at H
     have e3b : (x.f0 == 3) = true := beq_iff_eq.2 e3
     clear e3
     obtain ⟨o1, A1, H⟩ := Ob H
     obtain ⟨c3, rfl⟩ := okS_le A1
     clear A1
     replace c3 : o.size + 1 + x.f1.size ≤ 9223372036854775807 := by rw [ByteArray.size_append, ByteArray.size_append] at c3; exact c3
     have q1 : (9223372036854775807 < o.size + 1) = False := eq_false (by omega)
     have q2 : (9223372036854775807 < o.size + 1 + x.f1.size) = False := eq_false (by omega)
     obtain ⟨o2, A1, H⟩ := Ob H
     have HS := Ak A1
     have HN := Ak H
     clear A1 H
     have hn1 := blk_cell HL.out.bn 1
     go_wp2
     clear hn0 hn1 c3 q1 q2
     go_loopg [5, 9] k1 (fun kq v5 v9 w' => ∃ (o : ByteArray) (j : Int), v5 = .string o ∧ v9 = .int .i64 j ∧ Aside0 (spec_l8Print.la kq o x.f2 j = some o2) ∧ Aside0 (kq ≤ k1) ∧ Aside0 (LpN w w' gt (some ad) xs.length c0 gn x A_2 A_5 c_2 c_5))
     case atStart => exact ⟨_, 0, rfl, rfl, HS, ⟨Nat.le_refl _⟩, HL⟩
     case round =>
      clear HS
      obtain ⟨o, j, rfl, rfl, HS, HJ, HL⟩ := hrel
      cases gk with
      | zero => exact absurd HS.out (by simp [spec_l8Print.la])
      | succ k2 =>
       have H := HS.out
       clear HS
       simp only [spec_l8Print.la] at H
       have hn2 := blk_cell HL.out.bn 2
       by_cases q1 : j < (x.f2.length : Int)
       ·rw [if_pos q1] at H
        by_cases q2 : 0 ≤ j
        ·rw [if_pos q2] at H
         obtain ⟨e_, A1, H⟩ := Ob H
         have HE := Ak A1
         clear A1
         obtain ⟨o5, A1, H⟩ := Ob H
         obtain ⟨c3, rfl⟩ := okS_le A1
         have HS := Ak H
         clear A1 H
         have q1b : decide (j < (x.f2.length : Int)) = true := decide_eq_true q1
         obtain ⟨ak2, e2, hy0, hy1⟩ := at_T72 HI2.out j q2 q1
         subst e2
         have HY0 := Ak hy0
         have HY1 := Ak hy1
         have hy0 := pw_cell_below HL.out.t.low hy0
         have hy1 := pw_cell_below HL.out.t.low hy1
         replace q1 := eq_true q1
         replace q2 := eq_true q2
         generalize rd_T72 x.f2 j = y at *
         replace c3 : o.size + 1 + y.f0.size + 2 + e_.size + 1 ≤ 9223372036854775807 := by rw [ByteArray.size_append, ByteArray.size_append, ByteArray.size_append, ByteArray.size_append, ByteArray.size_append] at c3; exact c3
         have z1 : (9223372036854775807 < o.size + 1) = False := eq_false (by omega)
         have z2 : (9223372036854775807 < o.size + 1 + y.f0.size) = False := eq_false (by omega)
         have z3 : (9223372036854775807 < o.size + 1 + y.f0.size + 2) = False := eq_false (by omega)
         have z4 : (9223372036854775807 < o.size + 1 + y.f0.size + 2 + e_.size) = False := eq_false (by omega)
         have z5 : (9223372036854775807 < o.size + 1 + y.f0.size + 2 + e_.size + 1) = False := eq_false (by omega)
         have HGD := Ak HL.out.drew
         go_upto_region 15 with (fail)
         go_region_held3 (fun w' => w'.cell? ⟨gn, 2, none⟩ = some (.slice (some ak2) x.f2.length c_2) ∧ w'.cell? (ak2.add (j.toNat * 2)) = some (.string y.f0) ∧ w'.cell? ⟨(ak2.add (j.toNat * 2)).block, (ak2.add (j.toNat * 2)).off + 1, none⟩ = some (.string y.f1)) (first | exact ⟨hn2, hy0, hy1⟩ | exact ⟨hn2A, hy0A, hy1A⟩) (first | (go_at_call 39; (with_reducible refine (spec_Escape.calls k2 y.f1 true e_ _ HE.out).mono ?_); rintro e w6 ⟨rfl, hb⟩; have HGA := Ak (HGD.out.below hb); have hn2A := blk_cell HGA.out.bn 2; have hy0A := pw_cell_below HGA.out.t.low HY0.out; have hy1A := pw_cell_below HGA.out.t.low HY1.out; clear hb))
         clear hn2 hy0 hy1 hn2A hy0A hy1A
         go_wp2
         go_roundg k2
         case measure => have := HJ.out; omega
         case rel => exact ⟨_, _, rfl, rfl, HS, ⟨by have := HJ.out; omega⟩, HGA⟩
        ·rw [if_neg q2] at H; cases H
       ·rw [if_neg q1] at H
        obtain rfl := Oi H
        clear H
        have q1b : decide (j < (x.f2.length : Int)) = false := decide_eq_false q1
        clear q1
        have H := HN.out
        clear HN
        obtain ⟨o3, A1, H⟩ := Ob H
        obtain ⟨c3, rfl⟩ := okS_le A1
        clear A1
        replace c3 : o.size + 1 ≤ 9223372036854775807 := by rw [ByteArray.size_append] at c3; exact c3
        have z1 : (9223372036854775807 < o.size + 1) = False := eq_false (by omega)
        obtain ⟨v_, A1, H⟩ := Ob H
        have HV := Ak A1
        clear A1
        have hn1 := blk_cell HL.out.bn 1
        cases v_ with
        | true =>
         rw [if_pos rfl] at H
         obtain rfl := Oi H
         clear H
         go_wp2_with (first | (go_at_call 40; (with_reducible refine (spec_IsVoid.calls k1 x.f1 _ _ HV.out).mono ?_); rintro e w7 ⟨rfl, hb⟩; have HLV := Ak (HL.out.below hb); clear hb))
         go_roundg k1
         case measure => have := HK.out; omega
         case rel => exact ⟨_, _, rfl, rfl, HA, ⟨by have := HK.out; omega⟩, ⟨HLV.out.t⟩⟩
        | false =>
         rw [if_neg (by decide)] at H
         obtain ⟨s_, A1, H⟩ := Ob H
         have HKA := Ak A1
         obtain ⟨c4, rfl⟩ := okS_le H
         clear A1 H
         replace c4 : o.size + 1 + s_.size + 2 + x.f1.size + 1 ≤ 9223372036854775807 := by rw [ByteArray.size_append, ByteArray.size_append, ByteArray.size_append, ByteArray.size_append, ByteArray.size_append] at c4; exact c4
         have z1 : (9223372036854775807 < o.size + 1) = False := eq_false (by omega)
         have z2 : (9223372036854775807 < o.size + 1 + s_.size) = False := eq_false (by omega)
         have z3 : (9223372036854775807 < o.size + 1 + s_.size + 2) = False := eq_false (by omega)
         have z4 : (9223372036854775807 < o.size + 1 + s_.size + 2 + x.f1.size) = False := eq_false (by omega)
         have z5 : (9223372036854775807 < o.size + 1 + s_.size + 2 + x.f1.size + 1) = False := eq_false (by omega)
         clear c3
         go_wp2_with (first | (go_at_call 40; (with_reducible refine (spec_IsVoid.calls k1 x.f1 _ _ HV.out).mono ?_); rintro e w7 ⟨rfl, hb⟩; have HLV := Ak (HL.out.below hb); clear hb))
         have HVD := Ak HLV.out.drew
         have hct := HLV.out.t.cell
         have hy0 := pw_cell_below HLV.out.t.low HY.out
         clear hn1
         have hn1 := blk_cell HLV.out.bn 1
         go_region_held3 (fun w' => w'.cell? ⟨gt, 0, none⟩ = some (.slice (some ad) xs.length c0) ∧ w'.cell? (ak.add i.toNat) = some (.int .i64 ii) ∧ w'.cell? ⟨gn, 1, none⟩ = some (.string x.f1)) (first | exact ⟨hct, hy0, hn1⟩ | exact ⟨hctA, hy0A, hn1A⟩) (first | (go_at_call 19; (with_reducible refine (HP.out (some ad) c0 xs ii s_ _ (Kd.C_below HC.out HVD.out.t.low) HKA.out).mono ?_); rintro e w9 ⟨rfl, hb⟩; have HLZ := Ak (HVD.out.below hb); have hctA := HLZ.out.t.cell; have hy0A := pw_cell_below HLZ.out.t.low HY.out; have hn1A := blk_cell HLZ.out.bn 1; clear hb))
         clear hct hy0 hn1 hctA hy0A hn1A
         go_wp2
         go_roundg k1
         case measure => have := HK.out; omega
         case rel => exact ⟨_, _, rfl, rfl, HA, ⟨by have := HK.out; omega⟩, ⟨HLZ.out.t⟩⟩
    rw [if_neg e3] at H
    have e3b : (x.f0 == 3) = false := beq_eq_false_iff_ne.2 e3
    clear e3
    by_cases e4 : x.f0 = 4
    ·rw [if_pos e4] at H
     have e4b : (x.f0 == 4) = true := beq_iff_eq.2 e4
     clear e4
     obtain ⟨q, A1, H⟩ := Ob H
     have HV := Ak A1
     clear A1
     have hct := HL.out.t.cell
     have hm1 := pw_cell_below HL.out.t.low HX1.out
     cases q with
     | true =>
      rw [if_pos rfl] at H
      obtain ⟨c3, rfl⟩ := okS_le H
      clear H
      replace c3 : o.size + x.f3.size ≤ 9223372036854775807 := by rw [ByteArray.size_append] at c3; exact c3
      have q1 : (9223372036854775807 < o.size + x.f3.size) = False := eq_false (by omega)
      go_wp2_with (first | (go_at_call 41; (with_reducible refine (spec_IsRaw.calls k1 nm _ _ HV.out).mono ?_); rintro e w7 ⟨rfl, hb⟩; have HLV := Ak (HL.out.below hb); have hn3V := blk_cell HLV.out.bn 3; clear hb))
      go_roundg k1
      case measure => have := HK.out; omega
      case rel => exact ⟨_, _, rfl, rfl, HA, ⟨by have := HK.out; omega⟩, ⟨HLV.out.t⟩⟩
     | false =>
      rw [if_neg (by decide)] at H
      obtain ⟨e_, A1, H⟩ := Ob H
      have HE := Ak A1
      obtain ⟨c3, rfl⟩ := okS_le H
      clear A1 H
      replace c3 : o.size + e_.size ≤ 9223372036854775807 := by rw [ByteArray.size_append] at c3; exact c3
      have q1 : (9223372036854775807 < o.size + e_.size) = False := eq_false (by omega)
      go_wp2_with (first | (go_at_call 41; (with_reducible refine (spec_IsRaw.calls k1 nm _ _ HV.out).mono ?_); rintro e w7 ⟨rfl, hb⟩; have HLV := Ak (HL.out.below hb); have hn3V := blk_cell HLV.out.bn 3; clear hb) | (go_at_call 39; (with_reducible refine (spec_Escape.calls k1 x.f3 false e_ _ HE.out).mono ?_); rintro e w8 ⟨rfl, hb⟩; have HLZ := Ak (HLV.out.below hb); clear hb))
      go_roundg k1
      case measure => have := HK.out; omega
      case rel => exact ⟨_, _, rfl, rfl, HA, ⟨by have := HK.out; omega⟩, ⟨HLZ.out.t⟩⟩
    rw [if_neg e4] at H
    have e4b : (x.f0 == 4) = false := beq_eq_false_iff_ne.2 e4
    clear e4
    by_cases e5 : x.f0 = 5
    ·rw [if_pos e5] at H
     have e5b : (x.f0 == 5) = true := beq_iff_eq.2 e5
     clear e5
     obtain ⟨c3, rfl⟩ := okS_le H
     clear H
     replace c3 : o.size + 4 + x.f3.size + 3 ≤ 9223372036854775807 := by rw [ByteArray.size_append, ByteArray.size_append, ByteArray.size_append] at c3; exact c3
     have q1 : (9223372036854775807 < o.size + 4) = False := eq_false (by omega)
     have q2 : (9223372036854775807 < o.size + 4 + x.f3.size) = False := eq_false (by omega)
     have q3 : (9223372036854775807 < o.size + 4 + x.f3.size + 3) = False := eq_false (by omega)
     have hn3 := blk_cell HL.out.bn 3
     go_wp2
     go_roundg k1
     case measure => have := HK.out; omega
     case rel => exact ⟨_, _, rfl, rfl, HA, ⟨by have := HK.out; omega⟩, ⟨HL.out.t⟩⟩
    ·rw [if_neg e5] at H
     have e5b : (x.f0 == 5) = false := beq_eq_false_iff_ne.2 e5
     clear e5
     obtain rfl := Oi H
     clear H
     go_wp2
     go_roundg k1
     case measure => have := HK.out; omega
     case rel => exact ⟨_, _, rfl, rfl, HA, ⟨by have := HK.out; omega⟩, ⟨HL.out.t⟩⟩
theorem spec_l8Print.all : ∀ k, LpAt k
 | 0 => fun A0 c0 xs at_ r w _ h => by simp [spec_l8Print.f] at h
 | k + 1 => spec_l8Print.step k (spec_l8Print.all k)
theorem spec_l8Print.calls (k : Nat) (A0 : Option Addr) (c0 : Nat) (xs : List S41) (at_ : Int) (r : ByteArray) (w : World) (hc : Kd.C k41 w A0 xs.length xs) (h : spec_l8Print.f k xs at_ = some r) :
 Calls Tryz.prog 19 #[.agg #[.slice A0 xs.length c0], .int .i64 at_] w fun e w' => e = .returned (.string r) ∧ Below w.heap.size w w' := spec_l8Print.all k A0 c0 xs at_ r w hc h
def spec_PrintOf.f (k : Nat) (xs : List S41) : Option ByteArray := (spec_TreeOk.f k xs).bind fun u => if u = true then spec_l8Print.f k xs 0 else some ⟨#[]⟩
theorem spec_PrintOf.mono : ∀ a0 k, LeO (spec_PrintOf.f k a0) (spec_PrintOf.f (k + 1) a0) := fun a0 k => LeO.bind (spec_TreeOk.mono _ k) (fun _ => LeO.ite (spec_l8Print.mono k _ _) (LeO.refl _))
theorem spec_PrintOf.calls (k : Nat) (A0 : Option Addr) (c0 : Nat) (xs : List S41) (r : ByteArray) (w : World) (hr0 : Kd.C k41 w A0 xs.length xs) (hc0 : xs.length ≤ c0) (h : spec_PrintOf.f k xs = some r) :
 Calls Tryz.prog 6 #[.agg #[.slice A0 xs.length c0]] w fun e w' => e = .returned (.string r) ∧ Below w.heap.size w w' := by
 have HC := Ak hr0
 have HCC := Ak hc0
 clear hr0 hc0
 unfold spec_PrintOf.f at h
 obtain ⟨u, A2, h⟩ := Ob h
 replace A2 := Ak A2
 go_enter Tryz.func6, Tryz.ntmps6
 go_upto_region 1 with (first
  | ((with_reducible refine gate_dst (N := 1) rfl ?_); refine box_event ?hg (N := 1) ?hd (cs := #[.slice A0 xs.length c0]) (t := 29) ?hr ?_; (case hd => rfl); (case hg => rfl); (case hr => first | (go_simp; done) | (go_simp; rfl)); intro gt hg w1 hbox hb; have HX := Ak (show BoxW w w1 gt A0 xs.length c0 from ⟨hbox, hb, by rw [hg]; exact Nat.le_refl _⟩); have hcb := HX.out.cell; clear hbox hb hg))
 cases u with
 | false =>
  rw [if_neg (by decide)] at h
  obtain rfl := Oi h
  clear h
  go_wp2_with (first
   | (go_at_call 13; (with_reducible refine (spec_TreeOk.calls k _ _ xs false _ (Kd.C_below HC.out HX.out.low) HCC.out A2.out).mono ?_); rintro e w3 ⟨rfl, hb⟩; have HX3 := Ak (HX.out.below hb); clear hb))
  go_ret
  exact ⟨rfl, HX3.out.low⟩
 | true =>
  rw [if_pos rfl] at h
  have HA := Ak h
  clear h
  go_wp2_with (first
   | (go_at_call 13; (with_reducible refine (spec_TreeOk.calls k _ _ xs true _ (Kd.C_below HC.out HX.out.low) HCC.out A2.out).mono ?_); rintro e w3 ⟨rfl, hb⟩; have HX3 := Ak (HX.out.below hb); have hcb3 := HX3.out.cell; clear hb)
   | (go_at_call 19; (with_reducible refine (spec_l8Print.calls k _ _ xs 0 r _ (Kd.C_below HC.out HX3.out.low) HA.out).mono ?_); rintro e w4 ⟨rfl, hb⟩; have HX4 := Ak (HX3.out.below hb); clear hb))
  go_ret
  exact ⟨rfl, HX4.out.low⟩
def laws_toAttr.f (a0_0 : ByteArray) (a0_1 : ByteArray) : Option (ByteArray × ByteArray) := some (a0_0, a0_1)
theorem laws_toAttr.calls (a0_0 : ByteArray) (a0_1 : ByteArray) (r1 : ByteArray) (r2 : ByteArray) (w : World) (h : laws_toAttr.f a0_0 a0_1 = some (r1, r2)) :
 Calls Tryz.prog 93 #[.agg #[.string a0_0, .string a0_1]] w fun e w' => e = .returned (.agg #[.string r1, .string r2]) ∧ Below w.heap.size w w' := by
 have hu107 := Tryz.underlying107
 have hu72 := Tryz.underlying72
 have HB := Ak (Below.refl w.heap.size w)
 have H : (some (a0_0, a0_1)) = some (r1, r2) := h
 clear h
 simp only [Option.some.injEq, Prod.mk.injEq] at H
 obtain ⟨rfl, rfl⟩ := H
 go_enter Tryz.func93, Tryz.ntmps93
 go_wp2_with (first | ((with_reducible refine gate_dst (N := 1) rfl ?_); refine box_event ?hg (N := 1) ?hd (cs := #[.string a0_0, .string a0_1]) (t := 107) ?hr ?_; (case hd => rfl); (case hg => rfl); (case hr => go_simp); intro gb101 hg w2 hbox hb; have n0_ := Ak (below_step (HB.out) hb); have n1_ := Ak (hbox); have n2_ := Ak ((by rw [hg]; exact (below_size (HB.out)) : w.heap.size ≤ gb101)); have n3_ := n2_; clear HB; have HB := n0_; have BK101 := n1_; have GW101 := n2_; have GE101 := n3_; clear n0_ n1_ n2_ n3_; clear hb hbox hg) | ((with_reducible refine gate_dst (N := 2) rfl ?_); refine box_event ?hg (N := 2) ?hd (cs := #[.string (⟨#[]⟩ : ByteArray), .string (⟨#[]⟩ : ByteArray)]) (t := 72) ?hr ?_; (case hd => rfl); (case hg => rfl); (case hr => go_simp); intro gb102 hg w3 hbox hb; have n0_ := Ak (blk_below BK101.out hb); have n1_ := Ak (below_step (by repeat (first | exact HB.out | apply below_alloc | apply pw_below_drewN | apply below_drew1 | refine below_set ?_ GE101.out)) hb); have n2_ := Ak (hbox); have n3_ := Ak ((by rw [hg]; exact (below_size (by repeat (first | exact HB.out | apply below_alloc | apply pw_below_drewN | apply below_drew1 | refine below_set ?_ GE101.out))) : w.heap.size ≤ gb102)); have n4_ := n3_; have n5_ := Ak ((by rw [hg]; exact Nat.ne_of_lt (blk_lt BK101.out) : gb101 ≠ gb102)); have n6_ := Ak (Ne.symm n5_.out); clear BK101; clear HB; have BK101 := n0_; have HB := n1_; have BK102 := n2_; have GW102 := n3_; have GE102 := n4_; have NB101_102 := n5_; have NB102_101 := n6_; clear n0_ n1_ n2_ n3_ n4_ n5_ n6_; clear hb hbox hg) | ((with_reducible refine gate_dst (N := 3) rfl ?_); refine box_event ?hg (N := 3) ?hd (cs := #[.string (⟨#[]⟩ : ByteArray), .string (⟨#[]⟩ : ByteArray)]) (t := 72) ?hr ?_; (case hd => rfl); (case hg => rfl); (case hr => go_simp); intro gb103 hg w4 hbox hb; have n0_ := Ak (blk_below BK101.out hb); have n1_ := Ak (blk_below BK102.out hb); have n2_ := Ak (below_step (by repeat (first | exact HB.out | apply below_alloc | apply pw_below_drewN | apply below_drew1 | refine below_set ?_ GE101.out | refine below_set ?_ GE102.out)) hb); have n3_ := Ak (hbox); have n4_ := Ak ((by rw [hg]; exact (below_size (by repeat (first | exact HB.out | apply below_alloc | apply pw_below_drewN | apply below_drew1 | refine below_set ?_ GE101.out | refine below_set ?_ GE102.out))) : w.heap.size ≤ gb103)); have n5_ := n4_; have n6_ := Ak ((by rw [hg]; exact Nat.ne_of_lt (blk_lt BK101.out) : gb101 ≠ gb103)); have n7_ := Ak (Ne.symm n6_.out); have n8_ := Ak ((by rw [hg]; exact Nat.ne_of_lt (blk_lt BK102.out) : gb102 ≠ gb103)); have n9_ := Ak (Ne.symm n8_.out); clear BK101; clear BK102; clear HB; have BK101 := n0_; have BK102 := n1_; have HB := n2_; have BK103 := n3_; have GW103 := n4_; have GE103 := n5_; have NB101_103 := n6_; have NB103_101 := n7_; have NB102_103 := n8_; have NB103_102 := n9_; clear n0_ n1_ n2_ n3_ n4_ n5_ n6_ n7_ n8_ n9_; clear hb hbox hg; have hnb5 := NB101_102.out; have hnc5 := NB102_101.out; have hnb6 := NB101_103.out; have hnc6 := NB103_101.out; have hcz7_0 := blk_cell BK101.out 0; have hcz7_1 := blk_cell BK101.out 1; have hfz7_0 := blk_frozen BK101.out 0; have hfz7_1 := blk_frozen BK101.out 1; have hnb8 := NB103_102.out; have hnc8 := NB102_103.out; have hcz9_0 := blk_cell BK103.out 0; have hcz9_1 := blk_cell BK103.out 1; have hfz9_0 := blk_frozen BK103.out 0; have hfz9_1 := blk_frozen BK103.out 1; have hcz10_0 := blk_cell BK102.out 0; have hcz10_1 := blk_cell BK102.out 1; have hfz10_0 := blk_frozen BK102.out 0; have hfz10_1 := blk_frozen BK102.out 1))
 refine bodyPost_ret (results_cell_row rfl _ _ gb102 72 #[.string a0_0, .string a0_1] (0, 0) _ rfl (by (with_reducible repeat (first | refine blk_drewN ?_ _ | refine blk_drew ?_ | refine blk_alloc ?_ _)); refine blk_put (cs := #[.string a0_0, .string (⟨#[]⟩ : ByteArray)]) ?_ 1 _ rfl; (with_reducible repeat (first | refine blk_drewN ?_ _ | refine blk_drew ?_ | refine blk_alloc ?_ _)); refine blk_put (cs := #[.string (⟨#[]⟩ : ByteArray), .string (⟨#[]⟩ : ByteArray)]) ?_ 0 _ rfl; (with_reducible repeat (first | refine blk_drewN ?_ _ | refine blk_drew ?_ | refine blk_alloc ?_ _)); refine blk_far ?_ NB102_103.out _; (with_reducible repeat (first | refine blk_drewN ?_ _ | refine blk_drew ?_ | refine blk_alloc ?_ _)); refine blk_far ?_ NB102_103.out _; (with_reducible repeat (first | refine blk_drewN ?_ _ | refine blk_drew ?_ | refine blk_alloc ?_ _)); exact BK102.out) Tryz.underlying72 rfl (by kernel_rfl)) rfl ?_
 exact ⟨by first | rfl | (simp [*] <;> rfl), by repeat (first | exact HB.out | apply below_alloc | apply pw_below_drewN | apply below_drew1 | refine below_set ?_ GE101.out | refine below_set ?_ GE102.out | refine below_set ?_ GE103.out)⟩
def laws_toAttrS.l0 : Nat → List (S107) → List (S72) → Int → Option ((List (S72)))
 | 0, _, _, _ => none
 | k + 1, x0, x3, x4 => if x4 < (x0.length : Int) then (if 0 ≤ x4 then ((laws_toAttr.f ((rd_T107 x0 x4).f0) ((rd_T107 x0 x4).f1)).bind fun bt105 => (if x4 < (x3.length : Int) then (laws_toAttrS.l0 k x0 (x3.set (x4 : Int).toNat (⟨bt105.1, bt105.2⟩ : S72)) (wrap64 (x4 + 1))) else (none))) else (none)) else (some x3)
def laws_toAttrS.f (k : Nat) (l0 : List (S107)) : Option ((List (S72))) := if 0 ≤ (l0.length : Int) then (if ((l0.length : Int) : Int).toNat ≤ 8796093022208 then (laws_toAttrS.l0 k l0 (List.replicate ((l0.length : Int) : Int).toNat z72) 0) else (none)) else (none)
theorem laws_toAttrS.mono_l : ∀ k, (∀ y0 y1 y2, LeO (laws_toAttrS.l0 k y0 y1 y2) (laws_toAttrS.l0 (k + 1) y0 y1 y2))
 | 0 => fun _ _ _ r h => by simp [laws_toAttrS.l0] at h
 | k + 1 => by
  have ih0 := laws_toAttrS.mono_l k
  ·intro y0 y1 y2
   unfold laws_toAttrS.l0
   repeat' (with_reducible first | exact ih0 _ _ _ | exact LeO.refl _ | exact LeO.none _ | refine LeO.ite ?_ ?_ | refine LeO.bind ?_ (fun _ => ?_))
theorem laws_toAttrS.mono : ∀ a0 k, LeO (laws_toAttrS.f k a0) (laws_toAttrS.f (k + 1) a0) := by
 intro a0 k
 have ih0 := laws_toAttrS.mono_l k
 unfold laws_toAttrS.f
 repeat' (with_reducible first | exact ih0 _ _ _ | exact LeO.refl _ | exact LeO.none _ | refine LeO.ite ?_ ?_ | refine LeO.bind ?_ (fun _ => ?_))
theorem laws_toAttrS.calls (k : Nat) (A0 : Option Addr) (c0 : Nat) (l0 : List (S107)) (r : List (S72)) (w : World) (hr0 : Kd.C k107 w A0 l0.length l0) (hc0 : l0.length ≤ c0) (h : laws_toAttrS.f k l0 = some r) :
 Calls Tryz.prog 63 #[.slice A0 l0.length c0] w fun e w' => ∃ v0_ : Value, e = .returned (v0_) ∧ Kd.R k72 72 w' w.heap.size (fun _ => True) v0_ r ∧ Below w.heap.size w w' := by
 have hu107 := Tryz.underlying107
 have hu72 := Tryz.underlying72
 have HR0 := Ak hr0
 have HC0 := Ak hc0
 clear hr0 hc0
 have HB := Ak (Below.refl w.heap.size w)
 have H : (if 0 ≤ (l0.length : Int) then (if ((l0.length : Int) : Int).toNat ≤ 8796093022208 then (laws_toAttrS.l0 k l0 (List.replicate ((l0.length : Int) : Int).toNat z72) 0) else (none)) else (none)) = some r := h
 clear h
 by_cases c2 : 0 ≤ (l0.length : Int)
 ·rw [if_pos c2] at H
  have c2b0 := eq_true c2
  have c2b1 := decide_eq_true c2
  clear c2
  by_cases c3 : ((l0.length : Int) : Int).toNat ≤ 8796093022208
  ·rw [if_pos c3] at H
   have c3b0 := eq_true c3
   have c3b1 := decide_eq_true c3
   clear c3
   obtain ⟨y101, hy101⟩ : ∃ y_ : List (S72), y_ = (List.replicate ((l0.length : Int) : Int).toNat z72) := ⟨_, rfl⟩
   replace H : (laws_toAttrS.l0 k l0 y101 0) = some r := by rw [hy101]; exact H
   have Ny101 := Ak hy101
   clear hy101
   have H' := Ak H
   clear H
   go_enter Tryz.func63, Tryz.ntmps63
   go_wp2_with (first | ((with_reducible refine gate_dst (N := 7) rfl ?_); refine Kd.R_make k72 _ 72 rfl (N := 7) rfl 38 _ _ rfl (l0.length : Int) rfl rfl Tryz.underlying38 (.agg #[(.string ⟨#[]⟩), (.string ⟨#[]⟩)]) 32 info72 rfl (by decide) (by omega) z72 (ok := fun _ => True) (okp := fun _ => True) (k72_mkM _ _ _ z72 ) (fun _ hk => hk) trivial (of_decide_eq_true (by assumption)) (Nat.le_trans (Nat.mul_le_mul_right _ (of_decide_eq_true (by assumption) : (l0.length : Int).toNat ≤ 8796093022208)) (by omega)) (Below.refl _ _) (Nat.le_refl _) ?_; intro v102 w4 ho5 hb hg_ hnew_; clear hg_ hnew_; (first | rw [← Ny101.out] at ho5 | (simp only [Int.reduceToNat] at ho5; rw [← Ny101.out] at ho5)); replace HO103 := Ak (Kd.R_lower ho5 (below_size (HB.out))); replace HB := Ak (below_step (HB.out) hb); clear hb ho5))
   go_loopg [4] k (fun kq v4 w' => ∃ (x3_1 : List (S72)) (x4_1 : Int), v4 = .int .i64 x4_1 ∧ Aside0 (laws_toAttrS.l0 kq l0 x3_1 x4_1 = some r) ∧ Aside0 (kq ≤ k) ∧ Aside0 (Kd.R k72 72 w' w.heap.size (fun _ => True) v102 x3_1) ∧ Aside0 (Below w.heap.size w w'))
   case atStart => exact ⟨(y101), (0), rfl, H', ⟨Nat.le_refl _⟩, ⟨by (with_reducible repeat (first | apply Kd.R_alloc | apply Kd.R_drewN | apply Kd.R_drew)); exact HO103.out⟩, ⟨HB.out⟩⟩
   case round =>
    clear H'
    obtain ⟨x3_1, x4_1, rfl, HA, HK1, HO_3, HB⟩ := hrel
    cases gk with
    | zero => exact absurd HA.out (by simp [laws_toAttrS.l0])
    | succ k1 =>
     have H := HA.out
     clear HA
     simp only [laws_toAttrS.l0] at H
     by_cases c6 : x4_1 < (l0.length : Int)
     ·rw [if_pos c6] at H
      have c6b0 := decide_eq_true c6
      clear c6
      by_cases c7 : 0 ≤ x4_1
      ·rw [if_pos c7] at H
       have c7b0 := decide_eq_true c7
       clear c7
       replace H := Ob H
       obtain ⟨⟨t105, t106⟩, A80, H⟩ := H
       dsimp only at H
       have A8 := Ak A80
       clear A80
       by_cases c9 : x4_1 < (x3_1.length : Int)
       ·rw [if_pos c9] at H
        have c9b0 := decide_eq_true c9
        clear c9
        obtain ⟨y107, hy107⟩ : ∃ y_ : List (S72), y_ = (x3_1.set (x4_1 : Int).toNat (⟨t105, t106⟩ : S72)) := ⟨_, rfl⟩
        replace H : (laws_toAttrS.l0 k1 l0 y107 (wrap64 (x4_1 + 1))) = some r := by rw [hy107]; exact H
        have Ny107 := Ak hy107
        clear hy107
        have H' := Ak H
        clear H
        have p104 : 0 ≤ (x4_1 : Int) := of_decide_eq_true (by assumption)
        have q104 : x4_1 < (l0.length : Int) := of_decide_eq_true (by assumption)
        obtain ⟨ad104, e104, hx104_0, hx104_1⟩ := at_T107 HR0.out x4_1 p104 q104
        cases e104
        replace hx104_0 := pw_cell_below HB.out hx104_0
        replace hx104_1 := pw_cell_below HB.out hx104_1
        replace p104 := eq_true p104
        replace q104 := eq_true q104
        go_wp2_with (first | (go_at_call 93; (with_reducible refine (laws_toAttr.calls ((rd_T107 l0 x4_1).f0) ((rd_T107 l0 x4_1).f1) t105 t106 _ A8.out).mono ?_); rintro e w11 ⟨rfl, hb⟩; replace HO_3 := Ak (Kd.R_below HO_3.out hb); replace HB := Ak (below_step (HB.out) hb); (try clear hb); (try clear hb2); (try clear hk); (try clear hi); have p10 : 0 ≤ (x4_1 : Int) := of_decide_eq_true (by assumption); have q10 : (x4_1 : Int) < ((x3_1.length : Int) : Int) := of_decide_eq_true (by assumption); obtain ⟨go10, co10, eo10, gb10, gl10, cl10, HG10⟩ := Kd.R_form HO_3.out (by omega); (first | cases eo10 | (injection eo10 with ea_ en_ ec_; (first | subst ea_ | (injection ea_ with ea_; subst ea_)); subst ec_; clear en_)); have GB10 := Ak gb10; have GG10 := Ak HG10; clear gb10 gl10 HG10; obtain ⟨ce10, hcl10, hM10, hcc10, hfr10⟩ := Kd.R_elem HO_3.out z72 (x4_1 : Int) p10 q10; obtain rfl := k72_openM hM10; have hx10_0 : w11.cell? ⟨go10, (x4_1 : Int).toNat * 2, none⟩ = some (.string ((rd_T72 x3_1 x4_1).f0)) := hcc10 0 _ rfl; have hx10_1 : w11.cell? ⟨go10, (x4_1 : Int).toNat * 2 + 1, none⟩ = some (.string ((rd_T72 x3_1 x4_1).f1)) := hcc10 1 _ rfl; have hf10_0 : w11.frozen? ⟨go10, (x4_1 : Int).toNat * 2, none⟩ = false := hfr10 0; have hf10_1 : w11.frozen? ⟨go10, (x4_1 : Int).toNat * 2 + 1, none⟩ = false := hfr10 1; clear hcl10 hcc10 hfr10 hM10; replace p10 := eq_true p10; replace q10 := eq_true q10; have HX12 := Ak (show Kd.R k72 72 w11 w.heap.size (fun _ => True) (.slice (some ⟨go10, 0, none⟩) x3_1.length co10) x3_1 from HO_3.out); obtain ⟨ce12, hcl12, hM12, hcc12, hfr12⟩ := Kd.R_elem HX12.out z72 (x4_1 : Int) (of_decide_eq_true (by assumption)) (by have h_ : (x4_1 : Int) < ((x3_1.length : Int) : Int) := of_decide_eq_true (by assumption); first | exact h_ | (have e_ := (Kd.R_reads' HO_3.out).1; omega) | simpa using h_); obtain rfl := k72_openM hM12; have HP12 := Kd.R_seg HX12.out (x4_1 : Int) (of_decide_eq_true (by assumption)) (by have h_ : (x4_1 : Int) < ((x3_1.length : Int) : Int) := of_decide_eq_true (by assumption); first | exact h_ | (have e_ := (Kd.R_reads' HO_3.out).1; omega) | simpa using h_) (seg := [.string t105, .string t106]) (j := 0) hcl12 hcc12 (show 2 ≤ 2 from by decide) (x' := (⟨t105, t106⟩ : S72)) (k72_mkM _ _ _ (⟨t105, t106⟩ : S72) ) (fun _ hk => hk); have hx12_0 := hcc12 0 _ rfl; (try simp only [show (k72).sz = 2 from rfl, Nat.mul_one, Nat.add_zero] at hx12_0); have hf12_0 := hfr12 0; (try simp only [show (k72).sz = 2 from rfl, Nat.mul_one, Nat.add_zero] at hf12_0); have hx12_1 := hcc12 1 _ rfl; (try simp only [show (k72).sz = 2 from rfl, Nat.mul_one, Nat.add_zero] at hx12_1); have hf12_1 := hfr12 1; (try simp only [show (k72).sz = 2 from rfl, Nat.mul_one, Nat.add_zero] at hf12_1); clear hcl12 hcc12 hfr12 hM12) | ((with_reducible refine gate_store (t := 72) (p := 21) rfl ?_); refine store_event (t := 72) (p := 21) (v := ?vo_w13) (w1 := ((w11.setCell ⟨go10, (x4_1 : Int).toNat * 2, none⟩ (.string t105)).setCell ⟨go10, (x4_1 : Int).toNat * 2 + 1, none⟩ (.string t106))) ?hg ?ho ?hn ?hr ?_; (case ho => rfl); (case hg => rfl); (case hn => rfl); (case hr => first | (go_simp; done) | (go_simp; rfl)); intro w13 hw; have hg : w11.grownBy w13 (some go10) := (by rw [hw]; exact HP12.2); have hp_ : Kd.R k72 72 w13 w.heap.size (fun _ => True) (.slice (some ⟨go10, 0, none⟩) x3_1.length co10) y107 := (by rw [hw, Ny107.out]; exact HP12.1); clear HP12; replace HO_3 := Ak (hp_); replace HB := Ak ((by rw [hw]; exact below_set (below_set (HB.out) GB10.out) GB10.out : Below w.heap.size w w13)); clear hg hw hp_))
        go_roundg k1
        case measure => have := HK1.out; omega
        case rel => exact ⟨(y107), (wrap64 (x4_1 + 1)), rfl, H', ⟨by have := HK1.out; omega⟩, ⟨by (with_reducible repeat (first | apply Kd.R_alloc | apply Kd.R_drewN | apply Kd.R_drew)); exact HO_3.out⟩, ⟨HB.out⟩⟩
       ·rw [if_neg c9] at H
        exact absurd H (by simp)
      ·rw [if_neg c7] at H
       exact absurd H (by simp)
     ·rw [if_neg c6] at H
      have c6b0 := decide_eq_false c6
      clear c6
      obtain rfl := Oi H
      go_wp2
      go_ret
      exact ⟨_, rfl, by (with_reducible repeat (first | apply Kd.R_alloc | apply Kd.R_drewN | apply Kd.R_drew)); exact HO_3.out, HB.out⟩
  ·rw [if_neg c3] at H
   exact absurd H (by simp)
 ·rw [if_neg c2] at H
  exact absurd H (by simp)
def laws_toIntS.l0 : Nat → List Int → List Int → Int → Option (List Int)
 | 0, _, _, _ => none
 | k + 1, x0, x3, x4 => if x4 < (x0.length : Int) then (if 0 ≤ x4 then (if x4 < (x3.length : Int) then (laws_toIntS.l0 k x0 (x3.set (x4 : Int).toNat (rd x0 x4)) (wrap64 (x4 + 1))) else (none)) else (none)) else (some x3)
def laws_toIntS.f (k : Nat) (l0 : List Int) : Option (List Int) := if 0 ≤ (l0.length : Int) then (if ((l0.length : Int) : Int).toNat ≤ 35184372088832 then (laws_toIntS.l0 k l0 (List.replicate ((l0.length : Int) : Int).toNat 0) 0) else (none)) else (none)
theorem laws_toIntS.mono_l : ∀ k, (∀ y0 y1 y2, LeO (laws_toIntS.l0 k y0 y1 y2) (laws_toIntS.l0 (k + 1) y0 y1 y2))
 | 0 => fun _ _ _ r h => by simp [laws_toIntS.l0] at h
 | k + 1 => by
  have ih0 := laws_toIntS.mono_l k
  ·intro y0 y1 y2
   unfold laws_toIntS.l0
   repeat' (with_reducible first | exact ih0 _ _ _ | exact LeO.refl _ | exact LeO.none _ | refine LeO.ite ?_ ?_ | refine LeO.bind ?_ (fun _ => ?_))
theorem laws_toIntS.mono : ∀ a0 k, LeO (laws_toIntS.f k a0) (laws_toIntS.f (k + 1) a0) := by
 intro a0 k
 have ih0 := laws_toIntS.mono_l k
 unfold laws_toIntS.f
 repeat' (with_reducible first | exact ih0 _ _ _ | exact LeO.refl _ | exact LeO.none _ | refine LeO.ite ?_ ?_ | refine LeO.bind ?_ (fun _ => ?_))
theorem laws_toIntS.calls (k : Nat) (A0 : Option Addr) (c0 : Nat) (l0 : List Int) (r : List Int) (w : World) (hr0 : Kd.C (Kd.int .i64) w A0 l0.length l0) (hc0 : l0.length ≤ c0) (h : laws_toIntS.f k l0 = some r) :
 Calls Tryz.prog 64 #[.slice A0 l0.length c0] w fun e w' => ∃ v0_ : Value, e = .returned (v0_) ∧ Kd.R (Kd.int .i64) 3 w' w.heap.size (fun _ => True) v0_ r ∧ Below w.heap.size w w' := by
 have HR0 := Ak hr0
 have HC0 := Ak hc0
 clear hr0 hc0
 have HB := Ak (Below.refl w.heap.size w)
 have H : (if 0 ≤ (l0.length : Int) then (if ((l0.length : Int) : Int).toNat ≤ 35184372088832 then (laws_toIntS.l0 k l0 (List.replicate ((l0.length : Int) : Int).toNat 0) 0) else (none)) else (none)) = some r := h
 clear h
 by_cases c2 : 0 ≤ (l0.length : Int)
 ·rw [if_pos c2] at H
  have c2b0 := eq_true c2
  have c2b1 := decide_eq_true c2
  clear c2
  by_cases c3 : ((l0.length : Int) : Int).toNat ≤ 35184372088832
  ·rw [if_pos c3] at H
   have c3b0 := eq_true c3
   have c3b1 := decide_eq_true c3
   clear c3
   obtain ⟨y101, hy101⟩ : ∃ y_ : List Int, y_ = (List.replicate ((l0.length : Int) : Int).toNat 0) := ⟨_, rfl⟩
   replace H : (laws_toIntS.l0 k l0 y101 0) = some r := by rw [hy101]; exact H
   have Ny101 := Ak hy101
   clear hy101
   have H' := Ak H
   clear H
   go_enter Tryz.func64, Tryz.ntmps64
   go_wp2_with (first | ((with_reducible refine gate_dst (N := 7) rfl ?_); refine Kd.R_make (Kd.int .i64) _ 3 rfl (N := 7) rfl 39 _ _ rfl (l0.length : Int) rfl rfl Tryz.underlying39 (.int .i64 0) 8 info3 rfl (by decide) (by omega) 0 (ok := fun _ => True) (okp := fun _ => True) rfl (fun _ hk => hk) trivial (of_decide_eq_true (by assumption)) (Nat.le_trans (Nat.mul_le_mul_right _ (of_decide_eq_true (by assumption) : (l0.length : Int).toNat ≤ 35184372088832)) (by omega)) (Below.refl _ _) (Nat.le_refl _) ?_; intro v102 w4 ho5 hb hg_ hnew_; clear hg_ hnew_; (first | rw [← Ny101.out] at ho5 | (simp only [Int.reduceToNat] at ho5; rw [← Ny101.out] at ho5)); replace HO103 := Ak (Kd.R_lower ho5 (below_size (HB.out))); replace HB := Ak (below_step (HB.out) hb); clear hb ho5))
   go_loopg [4] k (fun kq v4 w' => ∃ (x3_1 : List Int) (x4_1 : Int), v4 = .int .i64 x4_1 ∧ Aside0 (laws_toIntS.l0 kq l0 x3_1 x4_1 = some r) ∧ Aside0 (kq ≤ k) ∧ Aside0 (Kd.R (Kd.int .i64) 3 w' w.heap.size (fun _ => True) v102 x3_1) ∧ Aside0 (Below w.heap.size w w'))
   case atStart => exact ⟨(y101), (0), rfl, H', ⟨Nat.le_refl _⟩, ⟨by (with_reducible repeat (first | apply Kd.R_alloc | apply Kd.R_drewN | apply Kd.R_drew)); exact HO103.out⟩, ⟨HB.out⟩⟩
   case round =>
    clear H'
    obtain ⟨x3_1, x4_1, rfl, HA, HK1, HO_3, HB⟩ := hrel
    cases gk with
    | zero => exact absurd HA.out (by simp [laws_toIntS.l0])
    | succ k1 =>
     have H := HA.out
     clear HA
     simp only [laws_toIntS.l0] at H
     by_cases c6 : x4_1 < (l0.length : Int)
     ·rw [if_pos c6] at H
      have c6b0 := decide_eq_true c6
      clear c6
      by_cases c7 : 0 ≤ x4_1
      ·rw [if_pos c7] at H
       have c7b0 := decide_eq_true c7
       clear c7
       by_cases c8 : x4_1 < (x3_1.length : Int)
       ·rw [if_pos c8] at H
        have c8b0 := decide_eq_true c8
        clear c8
        obtain ⟨y105, hy105⟩ : ∃ y_ : List Int, y_ = (x3_1.set (x4_1 : Int).toNat (rd l0 x4_1)) := ⟨_, rfl⟩
        replace H : (laws_toIntS.l0 k1 l0 y105 (wrap64 (x4_1 + 1))) = some r := by rw [hy105]; exact H
        have Ny105 := Ak hy105
        clear hy105
        have H' := Ak H
        clear H
        have p104 : 0 ≤ (x4_1 : Int) := of_decide_eq_true (by assumption)
        have q104 : x4_1 < (l0.length : Int) := of_decide_eq_true (by assumption)
        obtain ⟨ad104, e104, hx104_0⟩ := Kd.at_int HR0.out x4_1 p104 q104
        cases e104
        replace hx104_0 := pw_cell_below HB.out hx104_0
        replace p104 := eq_true p104
        replace q104 := eq_true q104
        have p9 : 0 ≤ (x4_1 : Int) := of_decide_eq_true (by assumption)
        have q9 : (x4_1 : Int) < ((x3_1.length : Int) : Int) := of_decide_eq_true (by assumption)
        obtain ⟨go9, co9, eo9, gb9, gl9, cl9, HG9⟩ := Kd.R_form HO_3.out (by omega)
        (first | cases eo9 | (injection eo9 with ea_ en_ ec_; (first | subst ea_ | (injection ea_ with ea_; subst ea_)); subst ec_; clear en_))
        have GB9 := Ak gb9
        have GG9 := Ak HG9
        clear gb9 gl9 HG9
        obtain ⟨hx9_0, hf9_0⟩ := Kd.R_celln 0 HO_3.out (x4_1 : Int) p9 q9
        replace p9 := eq_true p9
        replace q9 := eq_true q9
        have HP10 := Kd.R_putg HO_3.out (x4_1 : Int) (rd l0 x4_1)
        go_wp2_with (first | ((with_reducible refine gate_store (t := 3) (p := 20) rfl ?_); refine store_event (t := 3) (p := 20) (v := ?vo_w11) (w1 := (wr.setCell ⟨go9, (x4_1 : Int).toNat, none⟩ (.int .i64 (rd l0 x4_1)))) ?hg ?ho ?hn ?hr ?_; (case ho => rfl); (case hg => rfl); (case hn => rfl); (case hr => first | (go_simp; done) | (go_simp; rfl)); intro w11 hw; have hg : wr.grownBy w11 (some go9) := (by rw [hw]; exact HP10.2); have hp_ : Kd.R (Kd.int .i64) 3 w11 w.heap.size (fun _ => True) (.slice (some ⟨go9, 0, none⟩) x3_1.length co9) y105 := (by rw [hw, Ny105.out]; exact HP10.1); clear HP10; replace HO_3 := Ak (hp_); replace HB := Ak ((by rw [hw]; exact below_set (HB.out) GB9.out : Below w.heap.size w w11)); clear hg hw hp_))
        go_roundg k1
        case measure => have := HK1.out; omega
        case rel => exact ⟨(y105), (wrap64 (x4_1 + 1)), rfl, H', ⟨by have := HK1.out; omega⟩, ⟨by (with_reducible repeat (first | apply Kd.R_alloc | apply Kd.R_drewN | apply Kd.R_drew)); exact HO_3.out⟩, ⟨HB.out⟩⟩
       ·rw [if_neg c8] at H
        exact absurd H (by simp)
      ·rw [if_neg c7] at H
       exact absurd H (by simp)
     ·rw [if_neg c6] at H
      have c6b0 := decide_eq_false c6
      clear c6
      obtain rfl := Oi H
      go_wp2
      go_ret
      exact ⟨_, rfl, by (with_reducible repeat (first | apply Kd.R_alloc | apply Kd.R_drewN | apply Kd.R_drew)); exact HO_3.out, HB.out⟩
  ·rw [if_neg c3] at H
   exact absurd H (by simp)
 ·rw [if_neg c2] at H
  exact absurd H (by simp)
def laws_toNode.f (k : Nat) (a0_0 : Int) (a0_1 : ByteArray) (l0_2 : List (S107)) (a0_3 : ByteArray) (a0_4 : Int) (l0_5 : List Int) : Option (Int × ByteArray × (List (S72)) × ByteArray × Int × List Int) := (laws_toAttrS.f k l0_2).bind fun t104 => ((laws_toIntS.f k l0_5).bind fun t107 => (some (a0_0, a0_1, t104, a0_3, a0_4, t107)))
theorem laws_toNode.mono : ∀ a0 a1 a2 a3 a4 a5 k, LeO (laws_toNode.f k a0 a1 a2 a3 a4 a5) (laws_toNode.f (k + 1) a0 a1 a2 a3 a4 a5) := by
 intro a0 a1 a2 a3 a4 a5 k
 unfold laws_toNode.f
 repeat' (with_reducible first | exact laws_toAttrS.mono _ _ | exact laws_toIntS.mono _ _ | exact LeO.refl _ | exact LeO.none _ | refine LeO.ite ?_ ?_ | refine LeO.bind ?_ (fun _ => ?_))
theorem laws_toNode.calls (k : Nat) (a0_0 : Int) (a0_1 : ByteArray) (A0_2 : Option Addr) (c0_2 : Nat) (l0_2 : List (S107)) (a0_3 : ByteArray) (a0_4 : Int) (A0_5 : Option Addr) (c0_5 : Nat) (l0_5 : List Int) (r1 : Int) (r2 : ByteArray) (r3 : List (S72)) (r4 : ByteArray) (r5 : Int) (r6 : List Int) (w : World) (hr0_2 : Kd.C k107 w A0_2 l0_2.length l0_2) (hc0_2 : l0_2.length ≤ c0_2) (hr0_5 : Kd.C (Kd.int .i64) w A0_5 l0_5.length l0_5) (hc0_5 : l0_5.length ≤ c0_5) (h : laws_toNode.f k a0_0 a0_1 l0_2 a0_3 a0_4 l0_5 = some (r1, r2, r3, r4, r5, r6)) :
 Calls Tryz.prog 42 #[.agg #[.int .i64 a0_0, .string a0_1, .slice A0_2 l0_2.length c0_2, .string a0_3, .int .i64 a0_4, .slice A0_5 l0_5.length c0_5]] w fun e w' => ∃ v2_ v5_ : Value, e = .returned (.agg #[.int .i64 r1, .string r2, v2_, .string r4, .int .i64 r5, v5_]) ∧ Kd.R k72 72 w' w.heap.size (fun _ => True) v2_ r3 ∧ Kd.R (Kd.int .i64) 3 w' w.heap.size (fun _ => True) v5_ r6 ∧ Below w.heap.size w w' := by
 have hu70 := Tryz.underlying70
 have hu41 := Tryz.underlying41
 have HR0_2 := Ak hr0_2
 have HC0_2 := Ak hc0_2
 clear hr0_2 hc0_2
 have HR0_5 := Ak hr0_5
 have HC0_5 := Ak hc0_5
 clear hr0_5 hc0_5
 have HB := Ak (Below.refl w.heap.size w)
 have H : ((laws_toAttrS.f k l0_2).bind fun t104 => ((laws_toIntS.f k l0_5).bind fun t107 => (some (a0_0, a0_1, t104, a0_3, a0_4, t107)))) = some (r1, r2, r3, r4, r5, r6) := h
 clear h
 replace H := Ob H
 obtain ⟨t104, A20, H⟩ := H
 replace H : ((laws_toIntS.f k l0_5).bind fun t107 => (some (a0_0, a0_1, t104, a0_3, a0_4, t107))) = some (r1, r2, r3, r4, r5, r6) := H
 have A2 := Ak A20
 clear A20
 replace H := Ob H
 obtain ⟨t107, A30, H⟩ := H
 replace H : (some (a0_0, a0_1, t104, a0_3, a0_4, t107)) = some (r1, r2, r3, r4, r5, r6) := H
 have A3 := Ak A30
 clear A30
 simp only [Option.some.injEq, Prod.mk.injEq] at H
 obtain ⟨rfl, rfl, rfl, rfl, rfl, rfl⟩ := H
 go_enter Tryz.func42, Tryz.ntmps42
 go_wp2_with (first | ((with_reducible refine gate_dst (N := 1) rfl ?_); refine box_event ?hg (N := 1) ?hd (cs := #[.int .i64 a0_0, .string a0_1, .slice A0_2 l0_2.length c0_2, .string a0_3, .int .i64 a0_4, .slice A0_5 l0_5.length c0_5]) (t := 70) ?hr ?_; (case hd => rfl); (case hg => rfl); (case hr => go_simp); intro gb101 hg w4 hbox hb; have n0_ := Ak (below_step (by repeat (first | (with_reducible first | exact HB.out | apply below_alloc | apply pw_below_drewN | apply below_drew1) | exact HB.out)) hb); have n1_ := Ak (hbox); have n2_ := Ak ((by rw [hg]; exact (below_size (by repeat (first | (with_reducible first | exact HB.out | apply below_alloc | apply pw_below_drewN | apply below_drew1) | exact HB.out))) : w.heap.size ≤ gb101)); have n3_ := n2_; clear HB; have HB := n0_; have BK101 := n1_; have GW101 := n2_; have GE101 := n3_; clear n0_ n1_ n2_ n3_; clear hb hbox hg) | ((with_reducible refine gate_dst (N := 2) rfl ?_); refine box_event ?hg (N := 2) ?hd (cs := #[.int .i64 0, .string (⟨#[]⟩ : ByteArray), .slice none 0 0, .string (⟨#[]⟩ : ByteArray), .int .i64 0, .slice none 0 0]) (t := 41) ?hr ?_; (case hd => rfl); (case hg => rfl); (case hr => go_simp); intro gb102 hg w5 hbox hb; have n0_ := Ak (blk_below BK101.out hb); have n1_ := Ak (below_step (by repeat (first | (with_reducible first | exact HB.out | apply below_alloc | apply pw_below_drewN | apply below_drew1 | refine below_set ?_ GE101.out) | exact HB.out)) hb); have n2_ := Ak (hbox); have n3_ := Ak ((by rw [hg]; exact (below_size (by repeat (first | (with_reducible first | exact HB.out | apply below_alloc | apply pw_below_drewN | apply below_drew1 | refine below_set ?_ GE101.out) | exact HB.out))) : w.heap.size ≤ gb102)); have n4_ := n3_; have n5_ := Ak ((by rw [hg]; exact Nat.ne_of_lt (blk_lt BK101.out) : gb101 ≠ gb102)); have n6_ := Ak (Ne.symm n5_.out); clear BK101; clear HB; have BK101 := n0_; have HB := n1_; have BK102 := n2_; have GW102 := n3_; have GE102 := n4_; have NB101_102 := n5_; have NB102_101 := n6_; clear n0_ n1_ n2_ n3_ n4_ n5_ n6_; clear hb hbox hg) | ((with_reducible refine gate_dst (N := 3) rfl ?_); refine box_event ?hg (N := 3) ?hd (cs := #[.int .i64 0, .string (⟨#[]⟩ : ByteArray), .slice none 0 0, .string (⟨#[]⟩ : ByteArray), .int .i64 0, .slice none 0 0]) (t := 41) ?hr ?_; (case hd => rfl); (case hg => rfl); (case hr => go_simp); intro gb103 hg w6 hbox hb; have n0_ := Ak (blk_below BK101.out hb); have n1_ := Ak (blk_below BK102.out hb); have n2_ := Ak (below_step (by repeat (first | (with_reducible first | exact HB.out | apply below_alloc | apply pw_below_drewN | apply below_drew1 | refine below_set ?_ GE101.out | refine below_set ?_ GE102.out) | exact HB.out)) hb); have n3_ := Ak (hbox); have n4_ := Ak ((by rw [hg]; exact (below_size (by repeat (first | (with_reducible first | exact HB.out | apply below_alloc | apply pw_below_drewN | apply below_drew1 | refine below_set ?_ GE101.out | refine below_set ?_ GE102.out) | exact HB.out))) : w.heap.size ≤ gb103)); have n5_ := n4_; have n6_ := Ak ((by rw [hg]; exact Nat.ne_of_lt (blk_lt BK101.out) : gb101 ≠ gb103)); have n7_ := Ak (Ne.symm n6_.out); have n8_ := Ak ((by rw [hg]; exact Nat.ne_of_lt (blk_lt BK102.out) : gb102 ≠ gb103)); have n9_ := Ak (Ne.symm n8_.out); clear BK101; clear BK102; clear HB; have BK101 := n0_; have BK102 := n1_; have HB := n2_; have BK103 := n3_; have GW103 := n4_; have GE103 := n5_; have NB101_103 := n6_; have NB103_101 := n7_; have NB102_103 := n8_; have NB103_102 := n9_; clear n0_ n1_ n2_ n3_ n4_ n5_ n6_ n7_ n8_ n9_; clear hb hbox hg; have hnb7 := NB101_102.out; have hnc7 := NB102_101.out; have hnb8 := NB101_103.out; have hnc8 := NB103_101.out; have hcz9_0 := blk_cell BK101.out 0; have hcz9_1 := blk_cell BK101.out 1; have hcz9_2 := blk_cell BK101.out 2; have hcz9_3 := blk_cell BK101.out 3; have hcz9_4 := blk_cell BK101.out 4; have hcz9_5 := blk_cell BK101.out 5; have hfz9_0 := blk_frozen BK101.out 0; have hfz9_1 := blk_frozen BK101.out 1; have hfz9_2 := blk_frozen BK101.out 2; have hfz9_3 := blk_frozen BK101.out 3; have hfz9_4 := blk_frozen BK101.out 4; have hfz9_5 := blk_frozen BK101.out 5; have hnb10 := NB103_102.out; have hnc10 := NB102_103.out; have hcz11_0 := blk_cell BK103.out 0; have hcz11_1 := blk_cell BK103.out 1; have hcz11_2 := blk_cell BK103.out 2; have hcz11_3 := blk_cell BK103.out 3; have hcz11_4 := blk_cell BK103.out 4; have hcz11_5 := blk_cell BK103.out 5; have hfz11_0 := blk_frozen BK103.out 0; have hfz11_1 := blk_frozen BK103.out 1; have hfz11_2 := blk_frozen BK103.out 2; have hfz11_3 := blk_frozen BK103.out 3; have hfz11_4 := blk_frozen BK103.out 4; have hfz11_5 := blk_frozen BK103.out 5) | (go_at_call 63; (with_reducible refine (laws_toAttrS.calls k _ _ l0_2 t104 _ ?side1 ?side2 A2.out).mono ?_); (case side1 => exact Kd.C_below HR0_2.out (by repeat (first | (with_reducible first | exact HB.out | apply below_alloc | apply pw_below_drewN | apply below_drew1 | refine below_set ?_ GE101.out | refine below_set ?_ GE102.out | refine below_set ?_ GE103.out) | exact HB.out))); (case side2 => exact HC0_2.out); rintro e w12 ⟨v105, rfl, ho0, hb⟩; replace HO106 := Ak (Kd.R_lower ho0 (below_size (by repeat (first | (with_reducible first | exact HB.out | apply below_alloc | apply pw_below_drewN | apply below_drew1 | refine below_set ?_ GE101.out | refine below_set ?_ GE102.out | refine below_set ?_ GE103.out) | exact HB.out)))); replace BK101 := Ak (blk_below (g := gb101) (o := .cells #[.int .i64 a0_0, .string a0_1, .slice A0_2 l0_2.length c0_2, .string a0_3, .int .i64 a0_4, .slice A0_5 l0_5.length c0_5] 70 (0, 0)) (by (with_reducible repeat (first | refine blk_drewN ?_ _ | refine blk_drew ?_ | refine blk_alloc ?_ _)); refine blk_far ?_ NB101_103.out _; (with_reducible repeat (first | refine blk_drewN ?_ _ | refine blk_drew ?_ | refine blk_alloc ?_ _)); refine blk_far ?_ NB101_103.out _; (with_reducible repeat (first | refine blk_drewN ?_ _ | refine blk_drew ?_ | refine blk_alloc ?_ _)); exact BK101.out) hb); replace BK102 := Ak (blk_below (g := gb102) (o := .cells #[.int .i64 0, .string (⟨#[]⟩ : ByteArray), .slice none 0 0, .string (⟨#[]⟩ : ByteArray), .int .i64 0, .slice none 0 0] 41 (0, 0)) (by (with_reducible repeat (first | refine blk_drewN ?_ _ | refine blk_drew ?_ | refine blk_alloc ?_ _)); refine blk_far ?_ NB102_103.out _; (with_reducible repeat (first | refine blk_drewN ?_ _ | refine blk_drew ?_ | refine blk_alloc ?_ _)); refine blk_far ?_ NB102_103.out _; (with_reducible repeat (first | refine blk_drewN ?_ _ | refine blk_drew ?_ | refine blk_alloc ?_ _)); exact BK102.out) hb); replace BK103 := Ak (blk_below (g := gb103) (o := .cells #[.int .i64 a0_0, .string a0_1, .slice none 0 0, .string (⟨#[]⟩ : ByteArray), .int .i64 0, .slice none 0 0] 41 (0, 0)) (by (with_reducible repeat (first | refine blk_drewN ?_ _ | refine blk_drew ?_ | refine blk_alloc ?_ _)); refine blk_put (cs := #[.int .i64 a0_0, .string (⟨#[]⟩ : ByteArray), .slice none 0 0, .string (⟨#[]⟩ : ByteArray), .int .i64 0, .slice none 0 0]) ?_ 1 _ rfl; (with_reducible repeat (first | refine blk_drewN ?_ _ | refine blk_drew ?_ | refine blk_alloc ?_ _)); refine blk_put (cs := #[.int .i64 0, .string (⟨#[]⟩ : ByteArray), .slice none 0 0, .string (⟨#[]⟩ : ByteArray), .int .i64 0, .slice none 0 0]) ?_ 0 _ rfl; (with_reducible repeat (first | refine blk_drewN ?_ _ | refine blk_drew ?_ | refine blk_alloc ?_ _)); exact BK103.out) hb); replace HB := Ak (below_step (by repeat (first | (with_reducible first | exact HB.out | apply below_alloc | apply pw_below_drewN | apply below_drew1 | refine below_set ?_ GE101.out | refine below_set ?_ GE102.out | refine below_set ?_ GE103.out) | exact HB.out)) hb); (try clear hb); (try clear ho0); obtain ⟨Ao13, co13, eo13⟩ := Kd.R_slice HO106.out; subst eo13; have hcz14_0 := blk_cell BK103.out 0; have hcz14_1 := blk_cell BK103.out 1; have hcz14_2 := blk_cell BK103.out 2; have hcz14_3 := blk_cell BK103.out 3; have hcz14_4 := blk_cell BK103.out 4; have hcz14_5 := blk_cell BK103.out 5; have hfz14_0 := blk_frozen BK103.out 0; have hfz14_1 := blk_frozen BK103.out 1; have hfz14_2 := blk_frozen BK103.out 2; have hfz14_3 := blk_frozen BK103.out 3; have hfz14_4 := blk_frozen BK103.out 4; have hfz14_5 := blk_frozen BK103.out 5; have hcz15_0 := blk_cell BK101.out 0; have hcz15_1 := blk_cell BK101.out 1; have hcz15_2 := blk_cell BK101.out 2; have hcz15_3 := blk_cell BK101.out 3; have hcz15_4 := blk_cell BK101.out 4; have hcz15_5 := blk_cell BK101.out 5; have hfz15_0 := blk_frozen BK101.out 0; have hfz15_1 := blk_frozen BK101.out 1; have hfz15_2 := blk_frozen BK101.out 2; have hfz15_3 := blk_frozen BK101.out 3; have hfz15_4 := blk_frozen BK101.out 4; have hfz15_5 := blk_frozen BK101.out 5) | (go_at_call 64; (with_reducible refine (laws_toIntS.calls k _ _ l0_5 t107 _ ?side1 ?side2 A3.out).mono ?_); (case side1 => exact Kd.C_below HR0_5.out (by repeat (first | (with_reducible first | exact HB.out | apply below_alloc | apply pw_below_drewN | apply below_drew1 | refine below_set ?_ GE101.out | refine below_set ?_ GE102.out | refine below_set ?_ GE103.out) | exact HB.out))); (case side2 => exact HC0_5.out); rintro e w16 ⟨v108, rfl, ho0, hb⟩; replace HO106 := Ak (Kd.R_below (by (with_reducible repeat (first | apply Kd.R_alloc | apply Kd.R_drewN | apply Kd.R_drew)); exact (Kd.R_mono (Kd.R_far (p := ⟨gb103, 4, none⟩) (Kd.R_far (p := ⟨gb103, 3, none⟩) (Kd.R_far (p := ⟨gb103, 2, none⟩) (Kd.R_types HO106.out BK103.out (by decide)) (fun _ hk => hk.2) (.slice Ao13 t104.length co13)) (fun _ hk => hk.2) (.string a0_3)) (fun _ hk => hk.2) (.int .i64 a0_4)) (fun _ h_ => h_.1))) hb); replace HO109 := Ak (Kd.R_lower ho0 (below_size (by repeat (first | (with_reducible first | exact HB.out | apply below_alloc | apply pw_below_drewN | apply below_drew1 | refine below_set ?_ GE101.out | refine below_set ?_ GE102.out | refine below_set ?_ GE103.out) | exact HB.out)))); replace BK101 := Ak (blk_below (g := gb101) (o := .cells #[.int .i64 a0_0, .string a0_1, .slice A0_2 l0_2.length c0_2, .string a0_3, .int .i64 a0_4, .slice A0_5 l0_5.length c0_5] 70 (0, 0)) (by (with_reducible repeat (first | refine blk_drewN ?_ _ | refine blk_drew ?_ | refine blk_alloc ?_ _)); refine blk_far ?_ NB101_103.out _; (with_reducible repeat (first | refine blk_drewN ?_ _ | refine blk_drew ?_ | refine blk_alloc ?_ _)); refine blk_far ?_ NB101_103.out _; (with_reducible repeat (first | refine blk_drewN ?_ _ | refine blk_drew ?_ | refine blk_alloc ?_ _)); refine blk_far ?_ NB101_103.out _; (with_reducible repeat (first | refine blk_drewN ?_ _ | refine blk_drew ?_ | refine blk_alloc ?_ _)); exact BK101.out) hb); replace BK102 := Ak (blk_below (g := gb102) (o := .cells #[.int .i64 0, .string (⟨#[]⟩ : ByteArray), .slice none 0 0, .string (⟨#[]⟩ : ByteArray), .int .i64 0, .slice none 0 0] 41 (0, 0)) (by (with_reducible repeat (first | refine blk_drewN ?_ _ | refine blk_drew ?_ | refine blk_alloc ?_ _)); refine blk_far ?_ NB102_103.out _; (with_reducible repeat (first | refine blk_drewN ?_ _ | refine blk_drew ?_ | refine blk_alloc ?_ _)); refine blk_far ?_ NB102_103.out _; (with_reducible repeat (first | refine blk_drewN ?_ _ | refine blk_drew ?_ | refine blk_alloc ?_ _)); refine blk_far ?_ NB102_103.out _; (with_reducible repeat (first | refine blk_drewN ?_ _ | refine blk_drew ?_ | refine blk_alloc ?_ _)); exact BK102.out) hb); replace BK103 := Ak (blk_below (g := gb103) (o := .cells #[.int .i64 a0_0, .string a0_1, .slice Ao13 t104.length co13, .string a0_3, .int .i64 a0_4, .slice none 0 0] 41 (0, 0)) (by (with_reducible repeat (first | refine blk_drewN ?_ _ | refine blk_drew ?_ | refine blk_alloc ?_ _)); refine blk_put (cs := #[.int .i64 a0_0, .string a0_1, .slice Ao13 t104.length co13, .string a0_3, .int .i64 0, .slice none 0 0]) ?_ 4 _ rfl; (with_reducible repeat (first | refine blk_drewN ?_ _ | refine blk_drew ?_ | refine blk_alloc ?_ _)); refine blk_put (cs := #[.int .i64 a0_0, .string a0_1, .slice Ao13 t104.length co13, .string (⟨#[]⟩ : ByteArray), .int .i64 0, .slice none 0 0]) ?_ 3 _ rfl; (with_reducible repeat (first | refine blk_drewN ?_ _ | refine blk_drew ?_ | refine blk_alloc ?_ _)); refine blk_put (cs := #[.int .i64 a0_0, .string a0_1, .slice none 0 0, .string (⟨#[]⟩ : ByteArray), .int .i64 0, .slice none 0 0]) ?_ 2 _ rfl; (with_reducible repeat (first | refine blk_drewN ?_ _ | refine blk_drew ?_ | refine blk_alloc ?_ _)); exact BK103.out) hb); replace HB := Ak (below_step (by repeat (first | (with_reducible first | exact HB.out | apply below_alloc | apply pw_below_drewN | apply below_drew1 | refine below_set ?_ GE101.out | refine below_set ?_ GE102.out | refine below_set ?_ GE103.out) | exact HB.out)) hb); (try clear hb); (try clear ho0); obtain ⟨Ao17, co17, eo17⟩ := Kd.R_slice HO109.out; subst eo17; have hcz18_0 := blk_cell BK103.out 0; have hcz18_1 := blk_cell BK103.out 1; have hcz18_2 := blk_cell BK103.out 2; have hcz18_3 := blk_cell BK103.out 3; have hcz18_4 := blk_cell BK103.out 4; have hcz18_5 := blk_cell BK103.out 5; have hfz18_0 := blk_frozen BK103.out 0; have hfz18_1 := blk_frozen BK103.out 1; have hfz18_2 := blk_frozen BK103.out 2; have hfz18_3 := blk_frozen BK103.out 3; have hfz18_4 := blk_frozen BK103.out 4; have hfz18_5 := blk_frozen BK103.out 5; have hcz19_0 := blk_cell BK102.out 0; have hcz19_1 := blk_cell BK102.out 1; have hcz19_2 := blk_cell BK102.out 2; have hcz19_3 := blk_cell BK102.out 3; have hcz19_4 := blk_cell BK102.out 4; have hcz19_5 := blk_cell BK102.out 5; have hfz19_0 := blk_frozen BK102.out 0; have hfz19_1 := blk_frozen BK102.out 1; have hfz19_2 := blk_frozen BK102.out 2; have hfz19_3 := blk_frozen BK102.out 3; have hfz19_4 := blk_frozen BK102.out 4; have hfz19_5 := blk_frozen BK102.out 5))
 refine bodyPost_ret (results_cell_row rfl _ _ gb102 41 #[.int .i64 a0_0, .string a0_1, .slice Ao13 t104.length co13, .string a0_3, .int .i64 a0_4, .slice Ao17 t107.length co17] (0, 0) _ rfl (by (with_reducible repeat (first | refine blk_drewN ?_ _ | refine blk_drew ?_ | refine blk_alloc ?_ _)); refine blk_put (cs := #[.int .i64 a0_0, .string a0_1, .slice Ao13 t104.length co13, .string a0_3, .int .i64 a0_4, .slice none 0 0]) ?_ 5 _ rfl; (with_reducible repeat (first | refine blk_drewN ?_ _ | refine blk_drew ?_ | refine blk_alloc ?_ _)); refine blk_put (cs := #[.int .i64 a0_0, .string a0_1, .slice Ao13 t104.length co13, .string a0_3, .int .i64 0, .slice none 0 0]) ?_ 4 _ rfl; (with_reducible repeat (first | refine blk_drewN ?_ _ | refine blk_drew ?_ | refine blk_alloc ?_ _)); refine blk_put (cs := #[.int .i64 a0_0, .string a0_1, .slice Ao13 t104.length co13, .string (⟨#[]⟩ : ByteArray), .int .i64 0, .slice none 0 0]) ?_ 3 _ rfl; (with_reducible repeat (first | refine blk_drewN ?_ _ | refine blk_drew ?_ | refine blk_alloc ?_ _)); refine blk_put (cs := #[.int .i64 a0_0, .string a0_1, .slice none 0 0, .string (⟨#[]⟩ : ByteArray), .int .i64 0, .slice none 0 0]) ?_ 2 _ rfl; (with_reducible repeat (first | refine blk_drewN ?_ _ | refine blk_drew ?_ | refine blk_alloc ?_ _)); refine blk_put (cs := #[.int .i64 a0_0, .string (⟨#[]⟩ : ByteArray), .slice none 0 0, .string (⟨#[]⟩ : ByteArray), .int .i64 0, .slice none 0 0]) ?_ 1 _ rfl; (with_reducible repeat (first | refine blk_drewN ?_ _ | refine blk_drew ?_ | refine blk_alloc ?_ _)); refine blk_put (cs := #[.int .i64 0, .string (⟨#[]⟩ : ByteArray), .slice none 0 0, .string (⟨#[]⟩ : ByteArray), .int .i64 0, .slice none 0 0]) ?_ 0 _ rfl; (with_reducible repeat (first | refine blk_drewN ?_ _ | refine blk_drew ?_ | refine blk_alloc ?_ _)); refine blk_far ?_ NB102_103.out _; (with_reducible repeat (first | refine blk_drewN ?_ _ | refine blk_drew ?_ | refine blk_alloc ?_ _)); exact BK102.out) Tryz.underlying41 rfl (by kernel_rfl)) rfl ?_
 exact ⟨_, _, by first | rfl | (simp [*] <;> rfl), by (with_reducible repeat (first | apply Kd.R_alloc | apply Kd.R_drewN | apply Kd.R_drew)); exact Kd.R_mono (Kd.R_far (p := ⟨gb102, 5, none⟩) (Kd.R_far (p := ⟨gb102, 4, none⟩) (Kd.R_far (p := ⟨gb102, 3, none⟩) (Kd.R_far (p := ⟨gb102, 2, none⟩) (Kd.R_far (p := ⟨gb102, 1, none⟩) (Kd.R_far (p := ⟨gb102, 0, none⟩) (Kd.R_far (p := ⟨gb103, 5, none⟩) (Kd.R_types (Kd.R_types HO106.out BK103.out (by decide)) BK102.out (by decide)) (fun _ hk => hk.1.2) (.slice Ao17 t107.length co17)) (fun _ hk => hk.2) (.int .i64 a0_0)) (fun _ hk => hk.2) (.string a0_1)) (fun _ hk => hk.2) (.slice Ao13 t104.length co13)) (fun _ hk => hk.2) (.string a0_3)) (fun _ hk => hk.2) (.int .i64 a0_4)) (fun _ hk => hk.2) (.slice Ao17 t107.length co17)) (fun _ hk => trivial), by (with_reducible repeat (first | apply Kd.R_alloc | apply Kd.R_drewN | apply Kd.R_drew)); exact Kd.R_mono (Kd.R_far (p := ⟨gb102, 5, none⟩) (Kd.R_far (p := ⟨gb102, 4, none⟩) (Kd.R_far (p := ⟨gb102, 3, none⟩) (Kd.R_far (p := ⟨gb102, 2, none⟩) (Kd.R_far (p := ⟨gb102, 1, none⟩) (Kd.R_far (p := ⟨gb102, 0, none⟩) (Kd.R_far (p := ⟨gb103, 5, none⟩) (Kd.R_types (Kd.R_types HO109.out BK103.out (by decide)) BK102.out (by decide)) (fun _ hk => hk.1.2) (.slice Ao17 t107.length co17)) (fun _ hk => hk.2) (.int .i64 a0_0)) (fun _ hk => hk.2) (.string a0_1)) (fun _ hk => hk.2) (.slice Ao13 t104.length co13)) (fun _ hk => hk.2) (.string a0_3)) (fun _ hk => hk.2) (.int .i64 a0_4)) (fun _ hk => hk.2) (.slice Ao17 t107.length co17)) (fun _ hk => trivial), by repeat (first | (with_reducible first | exact HB.out | apply below_alloc | apply pw_below_drewN | apply below_drew1 | refine below_set ?_ GE101.out | refine below_set ?_ GE102.out | refine below_set ?_ GE103.out) | exact HB.out)⟩
def laws_toNodeS.l0 : Nat → List S70 → List S41 → Int → Option (List S41)
 | 0, _, _, _ => none
 | k + 1, x0, x3, x4 => if x4 < (x0.length : Int) then (if 0 ≤ x4 then ((laws_toNode.f k ((rd_T70 x0 x4).f0) ((rd_T70 x0 x4).f1) ((rd_T70 x0 x4).f2) ((rd_T70 x0 x4).f3) ((rd_T70 x0 x4).f4) ((rd_T70 x0 x4).f5)).bind fun b => (if x4 < (x3.length : Int) then laws_toNodeS.l0 k x0 (x3.set x4.toNat ⟨b.1, b.2.1, b.2.2.1, b.2.2.2.1, b.2.2.2.2.1, b.2.2.2.2.2⟩) (wrap64 (x4 + 1)) else none)) else none) else some x3
def laws_toNodeS.f (k : Nat) (l0 : List S70) : Option (List S41) := if l0.length ≤ 2932031007402 then laws_toNodeS.l0 k l0 (List.replicate l0.length z41) 0 else none
theorem laws_toNodeS.mono_l : ∀ k, (∀ y0 y1 y2, LeO (laws_toNodeS.l0 k y0 y1 y2) (laws_toNodeS.l0 (k + 1) y0 y1 y2))
 | 0 => fun _ _ _ r h => by simp [laws_toNodeS.l0] at h
 | k + 1 => by
  have ih := laws_toNodeS.mono_l k
  intro y0 y1 y2
  rw [laws_toNodeS.l0, laws_toNodeS.l0]
  exact LeO.ite (LeO.ite (LeO.bind (laws_toNode.mono _ _ _ _ _ _ _) (fun _ => LeO.ite (ih _ _ _) (LeO.refl _))) (LeO.refl _)) (LeO.refl _)
theorem laws_toNodeS.mono : ∀ a0 k, LeO (laws_toNodeS.f k a0) (laws_toNodeS.f (k + 1) a0) := fun a0 k => LeO.ite (laws_toNodeS.mono_l k _ _ _) (LeO.refl _)
theorem laws_toNodeS.calls (k : Nat) (A0 : Option Addr) (c0 : Nat) (l0 : List S70) (r : List S41) (w : World) (hr0 : Kd.C k70 w A0 l0.length l0) (hc0 : l0.length ≤ c0) (h : laws_toNodeS.f k l0 = some r) :
 Calls Tryz.prog 20 #[.slice A0 l0.length c0] w fun e w' => ∃ v0_ : Value, e = .returned (v0_) ∧ Kd.S k41 41 w' w.heap.size (fun _ => True) v0_ r ∧ Below w.heap.size w w' := by
 have HC := Ak hr0
 clear hr0 hc0
 unfold laws_toNodeS.f at h
 by_cases hn : l0.length ≤ 2932031007402
 ·rw [if_pos hn] at h
  have HA := Ak h
  have HN := Ak hn
  clear h hn
  go_enter Tryz.func20, Tryz.ntmps20
  go_wp2_with (first | ((with_reducible refine gate_dst (N := 7) rfl ?_); refine Kd.S_make (w0 := w) k41 w.heap.size 41 rfl (N := 7) rfl 27 _ _ rfl (l0.length : Int) rfl rfl Tryz.underlying27 (.agg #[(.int .i64 0), (.string ⟨#[]⟩), (.slice none 0 0), (.string ⟨#[]⟩), (.int .i64 0), (.slice none 0 0)]) 96 info41 rfl (by decide) (by omega) z41 (ok := fun _ => True) (okp := fun _ => True) (k41_mkM _ _ _ z41 (Kd.R_nil _ _ _ _ _) (Kd.R_nil _ _ _ _ _)) (fun _ hk => hk) trivial (by omega) (by have := HN.out; omega) (Below.refl _ _) (Nat.le_refl _) ?_; intro vs w1 ho hb hg_ hnew_; clear hg_ hnew_; rw [Int.toNat_natCast] at ho; obtain ⟨A1, cap1, ev⟩ := Kd.S_slice ho; rw [List.length_replicate] at ev; subst ev; have HO := Ak ho; have HB := Ak hb; clear ho hb))
  go_loopg [4] k (fun kq v4 w' => ∃ (x3 : List S41) (i : Int), v4 = .int .i64 i ∧ Aside0 (laws_toNodeS.l0 kq l0 x3 i = some r) ∧ Aside0 (kq ≤ k) ∧ Aside0 (x3.length = l0.length) ∧ Aside0 (Kd.S k41 41 w' w.heap.size (fun _ => True) (.slice A1 l0.length cap1) x3) ∧ Aside0 (Below w.heap.size w w'))
  case atStart => exact ⟨_, 0, rfl, HA, ⟨Nat.le_refl _⟩, ⟨List.length_replicate⟩, HO, HB⟩
  case round =>
   clear HA HO HB
   obtain ⟨x3, i, rfl, HA, HK, HL, HO, HB⟩ := hrel
   cases gk with
   | zero => exact absurd HA.out (by simp [laws_toNodeS.l0])
   | succ k1 =>
    have H := HA.out
    clear HA
    simp only [laws_toNodeS.l0] at H
    by_cases c1 : i < (l0.length : Int)
    ·rw [if_pos c1] at H
     by_cases c2 : 0 ≤ i
     ·rw [if_pos c2] at H
      obtain ⟨⟨b0, b1, b2, b3, b4, b5⟩, A1', H⟩ := Ob H
      rw [if_pos (by have := HL.out; omega)] at H
      have HA := Ak H
      replace A1' := Ak A1'
      clear H
      have c1b : decide (i < (l0.length : Int)) = true := decide_eq_true c1
      obtain ⟨ad, A_2, c_2, A_5, c_5, e1, hx0, hx1, hx2, hx3, hx4, hx5, hl2, hi2, hl5, hi5⟩ := at_T70 HC.out i c2 c1
      subst e1
      replace hx0 := pw_cell_below HB.out hx0
      replace hx1 := pw_cell_below HB.out hx1
      replace hx2 := pw_cell_below HB.out hx2
      replace hx3 := pw_cell_below HB.out hx3
      replace hx4 := pw_cell_below HB.out hx4
      replace hx5 := pw_cell_below HB.out hx5
      have HI2 := Ak (Kd.C_below hi2 HB.out)
      have HI5 := Ak (Kd.C_below hi5 HB.out)
      have HL2 := Ak hl2
      have HL5 := Ak hl5
      clear hl2 hi2 hl5 hi5
      obtain ⟨g, cap, eo, gb, gl, cl⟩ := Kd.S_form HO.out (by have := HL.out; omega)
      injection eo with ea en ec
      clear en
      subst ea
      subst ec
      have GB := Ak gb
      have GL := Ak gl
      clear gb gl cl
      obtain ⟨oki, cc, hcl, hM, hcc, hfr, hoki, hH⟩ := Kd.S_elem HO.out z41 i c2 c1
      have HW := Ak (Kd.H_widen hH)
      have HOG := Ak (show ∀ k_, (oki k_ ∨ True ∧ wr.heap.size ≤ k_) → k_ ≠ g from fun k_ hk => hk.elim (fun h_ => (hoki k_ h_).2) (fun h_ => by have := GL.out; omega))
      obtain ⟨v2, v5, rfl, g2, g5⟩ := k41_openM hM
      have C1 := Ak c1
      have C2 := Ak c2
      clear hcl hM hcc hfr hoki hH g2 g5
      replace c2 := eq_true c2
      replace c1 := eq_true c1
      go_wp2_with (first | (go_at_call 42; (with_reducible refine (laws_toNode.calls k1 _ _ _ _ _ _ _ _ _ _ b0 b1 b2 b3 b4 b5 _ HI2.out HL2.out HI5.out HL5.out A1'.out).mono ?_); rintro e w2 ⟨u2, u5, rfl, ho2, ho5, hb⟩; obtain ⟨B2, d2, rfl⟩ := Kd.R_slice ho2; obtain ⟨B5, d5, rfl⟩ := Kd.R_slice ho5; have HW2 := Ak (Kd.H_below HW.out hb); have HB2 := Ak (below_step HB.out hb); have HO2 := Ak (R_newN (oki := oki) ho2 (below_size HB.out)); have HO5 := Ak (R_newN (oki := oki) ho5 (below_size HB.out)); have hz0 : w2.cell? ⟨g, i.toNat * 6, none⟩ = some _ := H_cellN HW2.out C2.out C1.out 0 _ rfl; have hz1 := H_cellN HW2.out C2.out C1.out 1 _ rfl; have hz2 := H_cellN HW2.out C2.out C1.out 2 _ rfl; have hz3 := H_cellN HW2.out C2.out C1.out 3 _ rfl; have hz4 := H_cellN HW2.out C2.out C1.out 4 _ rfl; have hz5 := H_cellN HW2.out C2.out C1.out 5 _ rfl; have hf := H_freeN HW2.out C2.out C1.out; clear ho2 ho5 hb HW HB))
      go_roundg k1
      case measure => have := HK.out; omega
      case rel => exact ⟨_, _, rfl, HA, ⟨by have := HK.out; omega⟩, ⟨by rw [List.length_set]; exact HL.out⟩, ⟨S_putN HW2.out C2.out C1.out ⟨b0, b1, b2, b3, b4, b5⟩ HO2.out HO5.out HOG.out⟩, ⟨putN_below i ⟨b0, b1, b2, b3, b4, b5⟩ _ _ HB2.out GB.out⟩⟩
     ·rw [if_neg c2] at H; cases H
    ·rw [if_neg c1] at H
     obtain rfl := Oi H
     have c1b : decide (i < (l0.length : Int)) = false := decide_eq_false c1
     clear c1
     go_wp2
     go_ret
     exact ⟨_, rfl, HO.out, HB.out⟩
 ·rw [if_neg hn] at h; cases h
def laws_toTree.f (k : Nat) (l0_0 : List (S70)) : Option ((List (S41))) := (laws_toNodeS.f k l0_0).bind fun t104 => (some t104)
theorem laws_toTree.mono : ∀ a0 k, LeO (laws_toTree.f k a0) (laws_toTree.f (k + 1) a0) := by
 intro a0 k
 unfold laws_toTree.f
 repeat' (with_reducible first | exact laws_toNodeS.mono _ _ | exact LeO.refl _ | exact LeO.none _ | refine LeO.ite ?_ ?_ | refine LeO.bind ?_ (fun _ => ?_))
theorem laws_toTree.calls (k : Nat) (A0_0 : Option Addr) (c0_0 : Nat) (l0_0 : List (S70)) (r : List (S41)) (w : World) (hr0_0 : Kd.C k70 w A0_0 l0_0.length l0_0) (hc0_0 : l0_0.length ≤ c0_0) (h : laws_toTree.f k l0_0 = some r) :
 Calls Tryz.prog 7 #[.agg #[.slice A0_0 l0_0.length c0_0]] w fun e w' => ∃ v0_ : Value, e = .returned (.agg #[v0_]) ∧ Kd.S k41 41 w' w.heap.size (fun _ => True) v0_ r ∧ Below w.heap.size w w' := by
 have hu24 := Tryz.underlying24
 have hu29 := Tryz.underlying29
 have HR0_0 := Ak hr0_0
 have HC0_0 := Ak hc0_0
 clear hr0_0 hc0_0
 have HB := Ak (Below.refl w.heap.size w)
 have H : ((laws_toNodeS.f k l0_0).bind fun t104 => (some t104)) = some r := h
 clear h
 replace H := Ob H
 obtain ⟨t104, A20, H⟩ := H
 replace H : (some t104) = some r := H
 have A2 := Ak A20
 clear A20
 obtain rfl := Oi H
 go_enter Tryz.func7, Tryz.ntmps7
 go_wp2_with (first | ((with_reducible refine gate_dst (N := 1) rfl ?_); refine box_event ?hg (N := 1) ?hd (cs := #[.slice A0_0 l0_0.length c0_0]) (t := 24) ?hr ?_; (case hd => rfl); (case hg => rfl); (case hr => go_simp); intro gb101 hg w3 hbox hb; have n0_ := Ak (below_step (HB.out) hb); have n1_ := Ak (hbox); have n2_ := Ak ((by rw [hg]; exact (below_size (HB.out)) : w.heap.size ≤ gb101)); have n3_ := n2_; clear HB; have HB := n0_; have BK101 := n1_; have GW101 := n2_; have GE101 := n3_; clear n0_ n1_ n2_ n3_; clear hb hbox hg) | ((with_reducible refine gate_dst (N := 2) rfl ?_); refine box_event ?hg (N := 2) ?hd (cs := #[.slice none 0 0]) (t := 29) ?hr ?_; (case hd => rfl); (case hg => rfl); (case hr => go_simp); intro gb102 hg w4 hbox hb; have n0_ := Ak (blk_below BK101.out hb); have n1_ := Ak (below_step (by repeat (first | exact HB.out | apply below_alloc | apply pw_below_drewN | apply below_drew1 | refine below_set ?_ GE101.out)) hb); have n2_ := Ak (hbox); have n3_ := Ak ((by rw [hg]; exact (below_size (by repeat (first | exact HB.out | apply below_alloc | apply pw_below_drewN | apply below_drew1 | refine below_set ?_ GE101.out))) : w.heap.size ≤ gb102)); have n4_ := n3_; have n5_ := Ak ((by rw [hg]; exact Nat.ne_of_lt (blk_lt BK101.out) : gb101 ≠ gb102)); have n6_ := Ak (Ne.symm n5_.out); clear BK101; clear HB; have BK101 := n0_; have HB := n1_; have BK102 := n2_; have GW102 := n3_; have GE102 := n4_; have NB101_102 := n5_; have NB102_101 := n6_; clear n0_ n1_ n2_ n3_ n4_ n5_ n6_; clear hb hbox hg) | ((with_reducible refine gate_dst (N := 3) rfl ?_); refine box_event ?hg (N := 3) ?hd (cs := #[.slice none 0 0]) (t := 29) ?hr ?_; (case hd => rfl); (case hg => rfl); (case hr => go_simp); intro gb103 hg w5 hbox hb; have n0_ := Ak (blk_below BK101.out hb); have n1_ := Ak (blk_below BK102.out hb); have n2_ := Ak (below_step (by repeat (first | exact HB.out | apply below_alloc | apply pw_below_drewN | apply below_drew1 | refine below_set ?_ GE101.out | refine below_set ?_ GE102.out)) hb); have n3_ := Ak (hbox); have n4_ := Ak ((by rw [hg]; exact (below_size (by repeat (first | exact HB.out | apply below_alloc | apply pw_below_drewN | apply below_drew1 | refine below_set ?_ GE101.out | refine below_set ?_ GE102.out))) : w.heap.size ≤ gb103)); have n5_ := n4_; have n6_ := Ak ((by rw [hg]; exact Nat.ne_of_lt (blk_lt BK101.out) : gb101 ≠ gb103)); have n7_ := Ak (Ne.symm n6_.out); have n8_ := Ak ((by rw [hg]; exact Nat.ne_of_lt (blk_lt BK102.out) : gb102 ≠ gb103)); have n9_ := Ak (Ne.symm n8_.out); clear BK101; clear BK102; clear HB; have BK101 := n0_; have BK102 := n1_; have HB := n2_; have BK103 := n3_; have GW103 := n4_; have GE103 := n5_; have NB101_103 := n6_; have NB103_101 := n7_; have NB102_103 := n8_; have NB103_102 := n9_; clear n0_ n1_ n2_ n3_ n4_ n5_ n6_ n7_ n8_ n9_; clear hb hbox hg; have hnb6 := NB101_102.out; have hnc6 := NB102_101.out; have hnb7 := NB101_103.out; have hnc7 := NB103_101.out; have hcz8_0 := blk_cell BK101.out 0; have hfz8_0 := blk_frozen BK101.out 0) | (go_at_call 20; (with_reducible refine (laws_toNodeS.calls k _ _ l0_0 t104 _ ?side1 ?side2 A2.out).mono ?_); (case side1 => exact (Kd.C_below HR0_0.out HB.out)); (case side2 => exact HC0_0.out); rintro e w9 ⟨v105, rfl, ho0, hb⟩; replace HO106 := Ak (Kd.S_lower ho0 (below_size (by repeat (first | exact HB.out | apply below_alloc | apply pw_below_drewN | apply below_drew1 | refine below_set ?_ GE101.out | refine below_set ?_ GE102.out | refine below_set ?_ GE103.out)))); replace BK101 := Ak (blk_below BK101.out hb); replace BK102 := Ak (blk_below BK102.out hb); replace BK103 := Ak (blk_below BK103.out hb); replace HB := Ak (below_step (by repeat (first | exact HB.out | apply below_alloc | apply pw_below_drewN | apply below_drew1 | refine below_set ?_ GE101.out | refine below_set ?_ GE102.out | refine below_set ?_ GE103.out)) hb); (try clear hb); (try clear hb2); (try clear hk); (try clear hi); (try clear ho0); obtain ⟨Ao10, co10, eo10⟩ := Kd.S_slice HO106.out; subst eo10; have hnb11 := NB103_102.out; have hnc11 := NB102_103.out; have hcz12_0 := blk_cell BK103.out 0; have hfz12_0 := blk_frozen BK103.out 0; have hcz13_0 := blk_cell BK102.out 0; have hfz13_0 := blk_frozen BK102.out 0))
 refine bodyPost_ret (results_cell_row rfl _ _ gb102 29 #[.slice Ao10 t104.length co10] (0, 0) _ rfl (by (with_reducible repeat (first | refine blk_drewN ?_ _ | refine blk_drew ?_ | refine blk_alloc ?_ _)); refine blk_put (cs := #[.slice none 0 0]) ?_ 0 _ rfl; (with_reducible repeat (first | refine blk_drewN ?_ _ | refine blk_drew ?_ | refine blk_alloc ?_ _)); refine blk_far ?_ NB102_103.out _; (with_reducible repeat (first | refine blk_drewN ?_ _ | refine blk_drew ?_ | refine blk_alloc ?_ _)); exact BK102.out) Tryz.underlying29 rfl (by kernel_rfl)) rfl ?_
 exact ⟨_, by first | rfl | (simp [*] <;> rfl), by (with_reducible repeat (first | apply Kd.S_alloc | apply Kd.S_drewN | apply Kd.S_drew)); exact Kd.S_mono (Kd.S_far (p := ⟨gb102, 0, none⟩) (Kd.S_far (p := ⟨gb103, 0, none⟩) (Kd.S_types (Kd.S_types HO106.out BK103.out (by decide)) BK102.out (by decide)) (fun _ hk => hk.1.2) (.slice Ao10 t104.length co10)) (fun _ hk => hk.2) (.slice Ao10 t104.length co10)) (fun _ hk => trivial), by repeat (first | exact HB.out | apply below_alloc | apply pw_below_drewN | apply below_drew1 | refine below_set ?_ GE101.out | refine below_set ?_ GE102.out | refine below_set ?_ GE103.out)⟩
def impl_inRange.f (a0 : Int) (a1 : Int) (a2 : Int) : Option (Bool) := if a0 ≥ a1 then (some (decide (a0 ≤ a2))) else (some false)
theorem impl_inRange.calls (a0 : Int) (a1 : Int) (a2 : Int) (r : Bool) (w : World) (h : impl_inRange.f a0 a1 a2 = some r) :
 Calls Tryz.prog 30 #[.int .i64 a0, .int .i64 a1, .int .i64 a2] w fun e w' => e = .returned (.bool r) ∧ Drawn0 w w' := by
 have H : (if a0 ≥ a1 then (some (decide (a0 ≤ a2))) else (some false)) = some r := h
 clear h
 by_cases c4 : a0 ≥ a1
 ·rw [if_pos c4] at H
  have c4b0 : decide (a1 ≤ a0) = true := decide_eq_true c4
  clear c4
  obtain rfl := Oi H
  go_enter Tryz.func30, Tryz.ntmps30
  go_wp2
  go_ret
  exact ⟨rfl, by repeat (first | exact Drawn0.refl _ | apply Drawn0.step)⟩
 ·rw [if_neg c4] at H
  have c4b0 : decide (a1 ≤ a0) = false := decide_eq_false c4
  clear c4
  obtain rfl := Oi H
  go_enter Tryz.func30, Tryz.ntmps30
  go_wp2
  go_ret
  exact ⟨rfl, by repeat (first | exact Drawn0.refl _ | apply Drawn0.step)⟩
def impl_Node_mayHold.f (a0_0 : Int) (a0_1 : ByteArray) (l0_2 : List (S72)) (a0_3 : ByteArray) (a0_4 : Int) (l0_5 : List Int) : Option (Bool) := if a0_0 = 1 then (some true) else (some (a0_0 == 3))
theorem impl_Node_mayHold.calls (a0_0 : Int) (a0_1 : ByteArray) (A0_2 : Option Addr) (c0_2 : Nat) (l0_2 : List (S72)) (a0_3 : ByteArray) (a0_4 : Int) (A0_5 : Option Addr) (c0_5 : Nat) (l0_5 : List Int) (r : Bool) (w : World) (hr0_2 : Kd.C k72 w A0_2 l0_2.length l0_2) (hc0_2 : l0_2.length ≤ c0_2) (hr0_5 : Kd.C (Kd.int .i64) w A0_5 l0_5.length l0_5) (hc0_5 : l0_5.length ≤ c0_5) (h : impl_Node_mayHold.f a0_0 a0_1 l0_2 a0_3 a0_4 l0_5 = some r) :
 Calls Tryz.prog 53 #[.agg #[.int .i64 a0_0, .string a0_1, .slice A0_2 l0_2.length c0_2, .string a0_3, .int .i64 a0_4, .slice A0_5 l0_5.length c0_5]] w fun e w' => e = .returned (.bool r) ∧ Below w.heap.size w w' := by
 have hu41 := Tryz.underlying41
 have HR0_2 := Ak hr0_2
 have HC0_2 := Ak hc0_2
 clear hr0_2 hc0_2
 have HR0_5 := Ak hr0_5
 have HC0_5 := Ak hc0_5
 clear hr0_5 hc0_5
 have HB := Ak (Below.refl w.heap.size w)
 have H : (if a0_0 = 1 then (some true) else (some (a0_0 == 3))) = some r := h
 clear h
 by_cases c2 : a0_0 = 1
 ·rw [if_pos c2] at H
  have c2b0 := beq_iff_eq.mpr c2
  have c2b1 := bne_eq_false_iff_eq.mpr c2
  clear c2
  obtain rfl := Oi H
  go_enter Tryz.func53, Tryz.ntmps53
  go_wp2_with (first | ((with_reducible refine gate_dst (N := 1) rfl ?_); refine box_event ?hg (N := 1) ?hd (cs := #[.int .i64 a0_0, .string a0_1, .slice A0_2 l0_2.length c0_2, .string a0_3, .int .i64 a0_4, .slice A0_5 l0_5.length c0_5]) (t := 41) ?hr ?_; (case hd => rfl); (case hg => rfl); (case hr => go_simp); intro gb101 hg w3 hbox hb; have n0_ := Ak (below_step (HB.out) hb); have n1_ := Ak (hbox); have n2_ := Ak ((by rw [hg]; exact (below_size (HB.out)) : w.heap.size ≤ gb101)); have n3_ := n2_; clear HB; have HB := n0_; have BK101 := n1_; have GW101 := n2_; have GE101 := n3_; clear n0_ n1_ n2_ n3_; clear hb hbox hg; have hcz4_0 := blk_cell BK101.out 0; have hcz4_1 := blk_cell BK101.out 1; have hcz4_2 := blk_cell BK101.out 2; have hcz4_3 := blk_cell BK101.out 3; have hcz4_4 := blk_cell BK101.out 4; have hcz4_5 := blk_cell BK101.out 5; have hfz4_0 := blk_frozen BK101.out 0; have hfz4_1 := blk_frozen BK101.out 1; have hfz4_2 := blk_frozen BK101.out 2; have hfz4_3 := blk_frozen BK101.out 3; have hfz4_4 := blk_frozen BK101.out 4; have hfz4_5 := blk_frozen BK101.out 5))
  go_ret
  exact ⟨rfl, HB.out⟩
 ·rw [if_neg c2] at H
  have c2b0 := beq_eq_false_iff_ne.mpr c2
  have c2b1 := bne_iff_ne.mpr c2
  obtain rfl := Oi H
  go_enter Tryz.func53, Tryz.ntmps53
  go_wp2_with (first | ((with_reducible refine gate_dst (N := 1) rfl ?_); refine box_event ?hg (N := 1) ?hd (cs := #[.int .i64 a0_0, .string a0_1, .slice A0_2 l0_2.length c0_2, .string a0_3, .int .i64 a0_4, .slice A0_5 l0_5.length c0_5]) (t := 41) ?hr ?_; (case hd => rfl); (case hg => rfl); (case hr => go_simp); intro gb101 hg w5 hbox hb; have n0_ := Ak (below_step (HB.out) hb); have n1_ := Ak (hbox); have n2_ := Ak ((by rw [hg]; exact (below_size (HB.out)) : w.heap.size ≤ gb101)); have n3_ := n2_; clear HB; have HB := n0_; have BK101 := n1_; have GW101 := n2_; have GE101 := n3_; clear n0_ n1_ n2_ n3_; clear hb hbox hg; have hcz6_0 := blk_cell BK101.out 0; have hcz6_1 := blk_cell BK101.out 1; have hcz6_2 := blk_cell BK101.out 2; have hcz6_3 := blk_cell BK101.out 3; have hcz6_4 := blk_cell BK101.out 4; have hcz6_5 := blk_cell BK101.out 5; have hfz6_0 := blk_frozen BK101.out 0; have hfz6_1 := blk_frozen BK101.out 1; have hfz6_2 := blk_frozen BK101.out 2; have hfz6_3 := blk_frozen BK101.out 3; have hfz6_4 := blk_frozen BK101.out 4; have hfz6_5 := blk_frozen BK101.out 5))
  go_ret
  exact ⟨rfl, HB.out⟩
def bytes_Equal.f (l0 : List Int) (l1 : List Int) : Option (Bool) := some ((strOfNums l0).toList == (strOfNums l1).toList)
theorem bytes_Equal.calls (A0 : Option Addr) (c0 : Nat) (l0 : List Int) (A1 : Option Addr) (c1 : Nat) (l1 : List Int) (r : Bool) (w : World) (hr0 : Kd.C (Kd.int .u8) w A0 l0.length l0) (hc0 : l0.length ≤ c0) (hr1 : Kd.C (Kd.int .u8) w A1 l1.length l1) (hc1 : l1.length ≤ c1) (h : bytes_Equal.f l0 l1 = some r) :
 Calls Tryz.prog 107 #[.slice A0 l0.length c0, .slice A1 l1.length c1] w fun e w' => e = .returned (.bool r) ∧ Drawn0 w w' := by
 have HR0 := Ak hr0
 have HC0 := Ak hc0
 clear hr0 hc0
 have HR1 := Ak hr1
 have HC1 := Ak hc1
 clear hr1 hc1
 have H : (some ((strOfNums l0).toList == (strOfNums l1).toList)) = some r := h
 clear h
 obtain rfl := Oi H
 have hcv3 := Kd.C_string (P := Tryz.prog) (A := A0) (c := c0) Tryz.underlying33 Tryz.underlying5 Tryz.underlying9 HR0.out
 have hcvn3 := fun n_ => Kd.C_string (P := Tryz.prog) (A := A0) (c := c0) Tryz.underlying33 Tryz.underlying5 Tryz.underlying9 (Kd.C_drewN (HR0.out) n_)
 have hcv4 := Kd.C_string (P := Tryz.prog) (A := A1) (c := c1) Tryz.underlying33 Tryz.underlying5 Tryz.underlying9 HR1.out
 have hcvn4 := fun n_ => Kd.C_string (P := Tryz.prog) (A := A1) (c := c1) Tryz.underlying33 Tryz.underlying5 Tryz.underlying9 (Kd.C_drewN (HR1.out) n_)
 go_enter Tryz.func107, Tryz.ntmps107
 go_wp2
 go_ret
 exact ⟨rfl, by repeat (first | exact Drawn0.refl _ | apply Drawn0.step)⟩
def impl_PointOk.f (a0 : Int) : Option (Bool) := (impl_inRange.f a0 0 1114111).bind fun t101 => (if t101 = true then ((impl_inRange.f a0 55296 57343).bind fun t102 => (some (!t102))) else (some false))
theorem impl_PointOk.calls (a0 : Int) (r : Bool) (w : World) (h : impl_PointOk.f a0 = some r) :
 Calls Tryz.prog 126 #[.int .i64 a0] w fun e w' => e = .returned (.bool r) ∧ Drawn0 w w' := by
 have H : ((impl_inRange.f a0 0 1114111).bind fun t101 => (if t101 = true then ((impl_inRange.f a0 55296 57343).bind fun t102 => (some (!t102))) else (some false))) = some r := h
 clear h
 replace H := Ob H
 obtain ⟨t101, A20, H⟩ := H
 replace H : (if t101 = true then ((impl_inRange.f a0 55296 57343).bind fun t102 => (some (!t102))) else (some false)) = some r := H
 have A2 := Ak A20
 clear A20
 by_cases c3 : t101 = true
 ·subst c3
  rw [if_pos rfl] at H
  replace H := Ob H
  obtain ⟨t102, A40, H⟩ := H
  replace H : (some (!t102)) = some r := H
  have A4 := Ak A40
  clear A40
  obtain rfl := Oi H
  go_enter Tryz.func126, Tryz.ntmps126
  go_wp2_with (first | (go_at_call 30; (with_reducible refine (impl_inRange.calls a0 0 1114111 true _ A2.out).mono ?_); rintro e w' ⟨rfl, ⟨nd, rfl⟩⟩) | (go_at_call 30; (with_reducible refine (impl_inRange.calls a0 55296 57343 t102 _ A4.out).mono ?_); rintro e w' ⟨rfl, ⟨nd, rfl⟩⟩))
  go_ret
  exact ⟨rfl, by repeat (first | exact Drawn0.refl _ | apply Drawn0.step)⟩
 ·replace c3 := Bool.eq_false_iff.mpr c3
  subst c3
  rw [if_neg (show ¬ (false = true) by decide)] at H
  obtain rfl := Oi H
  go_enter Tryz.func126, Tryz.ntmps126
  go_wp2_with (first | (go_at_call 30; (with_reducible refine (impl_inRange.calls a0 0 1114111 false _ A2.out).mono ?_); rintro e w' ⟨rfl, ⟨nd, rfl⟩⟩))
  go_ret
  exact ⟨rfl, by repeat (first | exact Drawn0.refl _ | apply Drawn0.step)⟩
def impl_putPoint.f : Nat → List Int → Int → Option (List Int)
 | 0, _, _ => none
 | k + 1, l0, a1 => (impl_PointOk.f a1).bind fun t101 => (if t101 = true then (if a1 < 128 then (if l0.length < 140737488355328 then (some (l0 ++ [(a1) % 256])) else (none)) else (if a1 < 2048 then ((some (([(Go.bits .or .i64 192 (a1 / 64)) % 256, (Go.bits .or .i64 128 (Go.bits .and .i64 a1 63)) % 256] : List Int) : List Int)).bind fun y105 => (if l0.length + y105.length < 140737488355328 then (some (l0 ++ y105)) else (none))) else (if a1 < 65536 then ((some (([(Go.bits .or .i64 224 (a1 / 4096)) % 256, (Go.bits .or .i64 128 (Go.bits .and .i64 (a1 / 64) 63)) % 256, (Go.bits .or .i64 128 (Go.bits .and .i64 a1 63)) % 256] : List Int) : List Int)).bind fun y111 => (if l0.length + y111.length < 140737488355328 then (some (l0 ++ y111)) else (none))) else ((some (([(Go.bits .or .i64 240 (a1 / 262144)) % 256, (Go.bits .or .i64 128 (Go.bits .and .i64 (a1 / 4096) 63)) % 256, (Go.bits .or .i64 128 (Go.bits .and .i64 (a1 / 64) 63)) % 256, (Go.bits .or .i64 128 (Go.bits .and .i64 a1 63)) % 256] : List Int) : List Int)).bind fun y117 => (if l0.length + y117.length < 140737488355328 then (some (l0 ++ y117)) else (none)))))) else ((impl_putPoint.f k l0 65533).bind fun t123 => (some t123)))
theorem impl_putPoint.mono_l : ∀ k, (∀ y0 y1, LeO (impl_putPoint.f k y0 y1) (impl_putPoint.f (k + 1) y0 y1))
 | 0 => fun _ _ r h => by simp [impl_putPoint.f] at h
 | k + 1 => by
  have ih0 := impl_putPoint.mono_l k
  ·intro y0 y1
   unfold impl_putPoint.f
   repeat' (with_reducible first | exact ih0 _ _ | exact LeO.refl _ | exact LeO.none _ | refine LeO.ite ?_ ?_ | refine LeO.bind ?_ (fun _ => ?_))
theorem impl_putPoint.mono : ∀ a0 a1 k, LeO (impl_putPoint.f k a0 a1) (impl_putPoint.f (k + 1) a0 a1) := by
 intro a0 a1 k
 have ih0 := impl_putPoint.mono_l k
 exact ih0 a0 a1
theorem impl_putPoint.calls (k : Nat) : ∀ (P0_ : Nat → Prop) (u9000_ : Value) (l0 : List Int) (a1 : Int) (r : List Int) (w0 w : World) (hB : Below w0.heap.size w0 w) (ho0 : Kd.R (Kd.int .u8) 5 w w0.heap.size P0_ u9000_ l0) (h : impl_putPoint.f k l0 a1 = some r),
 Calls Tryz.prog 115 #[u9000_, .int .i64 a1] w fun e w' => ∃ v0_ : Value, e = .returned (v0_) ∧ Kd.R (Kd.int .u8) 5 w' w0.heap.size (fun k_ => (P0_ k_ ∨ w.heap.size ≤ k_)) v0_ r ∧ Below w0.heap.size w0 w' ∧ Kept w w' (fun k_ => P0_ k_) := by
 induction k using Nat.strongRecOn with
 | _ k ih =>
 intro P0_ u9000_ l0 a1 r w0 w hB ho0 h
 cases k with
 | zero => exact absurd h (by simp [impl_putPoint.f])
 | succ k =>
 simp only [impl_putPoint.f] at h
 have HO0 := Ak (show Kd.R (Kd.int .u8) 5 w w0.heap.size (fun k_ => (P0_ k_ ∨ w.heap.size ≤ k_)) u9000_ l0 from Kd.R_mono ho0 (fun k_ hk => (.inl hk)))
 have HK := Ak (Kept.refl w (fun k_ => P0_ k_))
 have HW0 := Ak hB.size
 have HB := Ak hB
 clear hB
 have H : ((impl_PointOk.f a1).bind fun t101 => (if t101 = true then (if a1 < 128 then (if l0.length < 140737488355328 then (some (l0 ++ [(a1) % 256])) else (none)) else (if a1 < 2048 then ((some (([(Go.bits .or .i64 192 (a1 / 64)) % 256, (Go.bits .or .i64 128 (Go.bits .and .i64 a1 63)) % 256] : List Int) : List Int)).bind fun y105 => (if l0.length + y105.length < 140737488355328 then (some (l0 ++ y105)) else (none))) else (if a1 < 65536 then ((some (([(Go.bits .or .i64 224 (a1 / 4096)) % 256, (Go.bits .or .i64 128 (Go.bits .and .i64 (a1 / 64) 63)) % 256, (Go.bits .or .i64 128 (Go.bits .and .i64 a1 63)) % 256] : List Int) : List Int)).bind fun y111 => (if l0.length + y111.length < 140737488355328 then (some (l0 ++ y111)) else (none))) else ((some (([(Go.bits .or .i64 240 (a1 / 262144)) % 256, (Go.bits .or .i64 128 (Go.bits .and .i64 (a1 / 4096) 63)) % 256, (Go.bits .or .i64 128 (Go.bits .and .i64 (a1 / 64) 63)) % 256, (Go.bits .or .i64 128 (Go.bits .and .i64 a1 63)) % 256] : List Int) : List Int)).bind fun y117 => (if l0.length + y117.length < 140737488355328 then (some (l0 ++ y117)) else (none)))))) else ((impl_putPoint.f k l0 65533).bind fun t123 => (some t123)))) = some r := h
 clear h
 replace H := Ob H
 obtain ⟨t101, A30, H⟩ := H
 replace H : (if t101 = true then (if a1 < 128 then (if l0.length < 140737488355328 then (some (l0 ++ [(a1) % 256])) else (none)) else (if a1 < 2048 then ((some (([(Go.bits .or .i64 192 (a1 / 64)) % 256, (Go.bits .or .i64 128 (Go.bits .and .i64 a1 63)) % 256] : List Int) : List Int)).bind fun y105 => (if l0.length + y105.length < 140737488355328 then (some (l0 ++ y105)) else (none))) else (if a1 < 65536 then ((some (([(Go.bits .or .i64 224 (a1 / 4096)) % 256, (Go.bits .or .i64 128 (Go.bits .and .i64 (a1 / 64) 63)) % 256, (Go.bits .or .i64 128 (Go.bits .and .i64 a1 63)) % 256] : List Int) : List Int)).bind fun y111 => (if l0.length + y111.length < 140737488355328 then (some (l0 ++ y111)) else (none))) else ((some (([(Go.bits .or .i64 240 (a1 / 262144)) % 256, (Go.bits .or .i64 128 (Go.bits .and .i64 (a1 / 4096) 63)) % 256, (Go.bits .or .i64 128 (Go.bits .and .i64 (a1 / 64) 63)) % 256, (Go.bits .or .i64 128 (Go.bits .and .i64 a1 63)) % 256] : List Int) : List Int)).bind fun y117 => (if l0.length + y117.length < 140737488355328 then (some (l0 ++ y117)) else (none)))))) else ((impl_putPoint.f k l0 65533).bind fun t123 => (some t123))) = some r := H
 have A3 := Ak A30
 clear A30
 by_cases c4 : t101 = true
 ·subst c4
  rw [if_pos rfl] at H
  by_cases c5 : a1 < 128
  ·rw [if_pos c5] at H
   have c5b0 := decide_eq_true c5
   clear c5
   by_cases c6 : l0.length < 140737488355328
   ·rw [if_pos c6] at H
    have LMc6 := Ak c6
    clear c6
    obtain ⟨y102, hy102⟩ : ∃ y_ : List Int, y_ = (l0 ++ [(a1) % 256]) := ⟨_, rfl⟩
    replace H : (some y102) = some r := by rw [hy102]; exact H
    have Ny102 := Ak hy102
    clear hy102
    obtain rfl := Oi H
    go_enter Tryz.func115, Tryz.ntmps115
    go_wp2_with (first | (go_at_call 126; (with_reducible refine (impl_PointOk.calls a1 true _ A3.out).mono ?_); rintro e w' ⟨rfl, ⟨nd, rfl⟩⟩) | ((with_reducible refine gate_builtin (b := .append) (xs := #[.tmp 14, .tmp 17]) rfl ?_); at_builtin; refine Kd.R_append (Kd.int .u8) (w0 := w0) w0.heap.size rfl (.tmp 14) (.tmp 17) 33 5 (.int .u8 0) 1 rfl Tryz.underlying33 info5 rfl (by decide) (by omega) u9000_ l0 ((a1) % 256) [.int .u8 ((a1) % 256)] (fun k_ => (P0_ k_ ∨ w.heap.size ≤ k_)) (fun _ => False) rfl rfl ?aP (fun _ hk => hk.elim) ?aF ?aO ?aB ?aS ?aL ?_; (case aP => exact rfl); (case aB => exact (by repeat (first | exact HB.out | apply below_alloc | apply pw_below_drewN | apply below_drew1))); (case aF => exact (fun k_ hk => (.inr (Nat.le_trans (by first | exact HK.out.1 | exact (show Kept w _ (fun k_ => P0_ k_) from by repeat (first | exact HK.out | apply Kept.alloc | apply Kept.drewN | apply Kept.drew)).1) hk)))); (case aO => exact (by (with_reducible repeat (first | apply Kd.R_alloc | apply Kd.R_drewN | apply Kd.R_drew)); exact HO0.out)); (case aS => exact (below_size (by repeat (first | exact HB.out | apply below_alloc | apply pw_below_drewN | apply below_drew1)))); (case aL => have := LMc6.out; omega); intro v103 w7 ho hb hg hat; rw [← Ny102.out] at ho; have n0_ := Ak (hb); have n1_ := Ak (Kept.of_grown (S := (fun k_ => P0_ k_)) hg (by repeat (first | exact HK.out | apply Kept.alloc | apply Kept.drewN | apply Kept.drew)) (fun k_ e_ => (HO0.out.1 k_ e_))); have n2_ := Ak (ho); clear HB; clear HK; clear HO0; have HB := n0_; have HK := n1_; have HO104 := n2_; clear n0_ n1_ n2_; clear ho hb hg hat))
    go_ret
    exact ⟨_, rfl, by (with_reducible repeat (first | apply Kd.R_alloc | apply Kd.R_drewN | apply Kd.R_drew)); exact HO104.out, by repeat (first | exact HB.out | apply below_alloc | apply pw_below_drewN | apply below_drew1), by repeat (first | exact HK.out | apply Kept.alloc | apply Kept.drewN | apply Kept.drew)⟩
   ·rw [if_neg c6] at H
    exact absurd H (by simp)
  ·rw [if_neg c5] at H
   have c5b0 := decide_eq_false c5
   clear c5
   by_cases c8 : a1 < 2048
   ·rw [if_pos c8] at H
    have c8b0 := decide_eq_true c8
    clear c8
    obtain ⟨y105, hy105⟩ : ∃ y_ : List Int, y_ = (([(Go.bits .or .i64 192 (a1 / 64)) % 256, (Go.bits .or .i64 128 (Go.bits .and .i64 a1 63)) % 256] : List Int)) := ⟨_, rfl⟩
    replace H : (if l0.length + y105.length < 140737488355328 then (some (l0 ++ y105)) else (none)) = some r := by rw [hy105]; exact H
    have Ny105 := Ak hy105
    clear hy105
    by_cases c9 : l0.length + y105.length < 140737488355328
    ·rw [if_pos c9] at H
     have LMc9 := Ak c9
     clear c9
     obtain ⟨y108, hy108⟩ : ∃ y_ : List Int, y_ = (l0 ++ y105) := ⟨_, rfl⟩
     replace H : (some y108) = some r := by rw [hy108]; exact H
     have Ny108 := Ak hy108
     clear hy108
     obtain rfl := Oi H
     go_enter Tryz.func115, Tryz.ntmps115
     go_wp2_with (first | (go_at_call 126; (with_reducible refine (impl_PointOk.calls a1 true _ A3.out).mono ?_); rintro e w' ⟨rfl, ⟨nd, rfl⟩⟩) | ((with_reducible refine gate_dst (N := 31) rfl ?_); refine Kd.R_lit (Kd.int .u8) _ 5 ?hg (N := 31) ?hd (xs := ([(Go.bits .or .i64 192 (a1 / 64)) % 256, (Go.bits .or .i64 128 (Go.bits .and .i64 a1 63)) % 256] : List Int)) (inner := [.int .u8 ((Go.bits .or .i64 192 (a1 / 64)) % 256), .int .u8 ((Go.bits .or .i64 128 (Go.bits .and .i64 a1 63)) % 256)]) (ok := fun _ => True) (okp := fun _ => True) ?hr ?hp (fun _ hk => hk) trivial (Below.refl _ _) (Nat.le_refl _) (by simp) ?_; (case hd => rfl); (case hg => rfl); (case hr => go_simp); (case hp => exact (Reps.one (show Kd.M (Kd.int .u8) _ _ _ ((Go.bits .or .i64 192 (a1 / 64)) % 256) [.int .u8 ((Go.bits .or .i64 192 (a1 / 64)) % 256)] from rfl) (Reps.one (show Kd.M (Kd.int .u8) _ _ _ ((Go.bits .or .i64 128 (Go.bits .and .i64 a1 63)) % 256) [.int .u8 ((Go.bits .or .i64 128 (Go.bits .and .i64 a1 63)) % 256)] from rfl) (Reps.none _ _)))); intro v106 w10 ho11 hb hg_ hnew_; clear hg_ hnew_; (first | rw [← Ny105.out] at ho11 | (simp only [Int.reduceToNat] at ho11; rw [← Ny105.out] at ho11)); have n0_ := Ak (Kd.R_elder' (by (with_reducible repeat (first | apply Kd.R_alloc | apply Kd.R_drewN | apply Kd.R_drew)); exact HO0.out) (Kd.R_base ho11) hb); have n1_ := Ak (Kd.R_lower (Kd.R_new' (Kd.R_newM (M := fun k_ => (P0_ k_ ∨ w.heap.size ≤ k_)) ho11 (by first | exact HK.out.1 | exact (show Kept w _ (fun k_ => P0_ k_) from by repeat (first | exact HK.out | apply Kept.alloc | apply Kept.drewN | apply Kept.drew)).1) (fun k_ h_ => .inr h_)) (Kd.R_lt (by (with_reducible repeat (first | apply Kd.R_alloc | apply Kd.R_drewN | apply Kd.R_drew)); exact HO0.out))) (below_size (by repeat (first | exact HB.out | apply below_alloc | apply pw_below_drewN | apply below_drew1)))); have n2_ := Ak (Kept.below (S := (fun k_ => P0_ k_)) (by repeat (first | exact HK.out | apply Kept.alloc | apply Kept.drewN | apply Kept.drew)) hb); have n3_ := Ak (below_step (by repeat (first | exact HB.out | apply below_alloc | apply pw_below_drewN | apply below_drew1)) hb); clear HO0; clear HK; clear HB; have HO0 := n0_; have HO107 := n1_; have HK := n2_; have HB := n3_; clear n0_ n1_ n2_ n3_; clear hb ho11; obtain ⟨Ao13, co13, eo13⟩ := Kd.R_slice HO107.out; subst eo13) | ((with_reducible refine gate_builtin (b := .append) (xs := #[.tmp 22, .tmp 31]) rfl ?_); at_builtin; refine Kd.R_append_rows (Kd.int .u8) (w0 := w0) w0.heap.size rfl (.tmp 22) (.tmp 31) 33 5 (.int .u8 0) 1 rfl Tryz.underlying33 info5 rfl (by decide) (by omega) u9000_ l0 y105 _ _ _ (fun k_ => (P0_ k_ ∨ w.heap.size ≤ k_) ∧ some k_ ≠ (.slice Ao13 y105.length co13 : Value).ownBlock) (fun _ => False) rfl rfl ?aO ?aR (fun _ _ h => h) (fun _ h => h.elim) ?aF ?aB ?aS ?aL ?_; (case aR => repeat (first | exact (Kd.R_reads' HO107.out).2.2 | (with_reducible refine Kd.C_alloc ?_ _) | (with_reducible refine Kd.C_drewN ?_ _) | (with_reducible refine Kd.C_drew ?_))); (case aB => exact (by repeat (first | exact HB.out | apply below_alloc | apply pw_below_drewN | apply below_drew1))); (case aF => exact (fun k_ hk => ⟨(.inr (Nat.le_trans (by first | exact HK.out.1 | exact (show Kept w _ (fun k_ => P0_ k_) from by repeat (first | exact HK.out | apply Kept.alloc | apply Kept.drewN | apply Kept.drew)).1) hk)), Kd.fresh' (Kd.R_lt (by (with_reducible repeat (first | apply Kd.R_alloc | apply Kd.R_drewN | apply Kd.R_drew)); exact HO107.out)) k_ hk⟩)); (case aO => exact (by (with_reducible repeat (first | apply Kd.R_alloc | apply Kd.R_drewN | apply Kd.R_drew)); exact HO0.out)); (case aS => exact (below_size (by repeat (first | exact HB.out | apply below_alloc | apply pw_below_drewN | apply below_drew1)))); (case aL => have := LMc9.out; omega); intro v109 w12 ho hb hg hat; rw [← Ny108.out] at ho; have n0_ := Ak (Kd.R_after (ok := (fun k_ => (P0_ k_ ∨ w.heap.size ≤ k_))) (by (with_reducible repeat (first | apply Kd.R_alloc | apply Kd.R_drewN | apply Kd.R_drew)); exact Kd.R_mono HO107.out (fun _ hk => ⟨hk.1.1, hk.2⟩)) hg hat); have n1_ := Ak (hb); have n2_ := Ak (Kept.of_grown (S := (fun k_ => P0_ k_)) hg (by repeat (first | exact HK.out | apply Kept.alloc | apply Kept.drewN | apply Kept.drew)) (fun k_ e_ => (HO0.out.1 k_ e_).1)); have n3_ := Ak (ho); clear HO107; clear HB; clear HK; clear HO0; have HO107 := n0_; have HB := n1_; have HK := n2_; have HO110 := n3_; clear n0_ n1_ n2_ n3_; clear ho hb hg hat))
     go_ret
     exact ⟨_, rfl, by (with_reducible repeat (first | apply Kd.R_alloc | apply Kd.R_drewN | apply Kd.R_drew)); exact Kd.R_mono HO110.out (fun _ hk => hk.1), by repeat (first | exact HB.out | apply below_alloc | apply pw_below_drewN | apply below_drew1), by repeat (first | exact HK.out | apply Kept.alloc | apply Kept.drewN | apply Kept.drew)⟩
    ·rw [if_neg c9] at H
     exact absurd H (by simp)
   ·rw [if_neg c8] at H
    have c8b0 := decide_eq_false c8
    clear c8
    by_cases c14 : a1 < 65536
    ·rw [if_pos c14] at H
     have c14b0 := decide_eq_true c14
     clear c14
     obtain ⟨y111, hy111⟩ : ∃ y_ : List Int, y_ = (([(Go.bits .or .i64 224 (a1 / 4096)) % 256, (Go.bits .or .i64 128 (Go.bits .and .i64 (a1 / 64) 63)) % 256, (Go.bits .or .i64 128 (Go.bits .and .i64 a1 63)) % 256] : List Int)) := ⟨_, rfl⟩
     replace H : (if l0.length + y111.length < 140737488355328 then (some (l0 ++ y111)) else (none)) = some r := by rw [hy111]; exact H
     have Ny111 := Ak hy111
     clear hy111
     by_cases c15 : l0.length + y111.length < 140737488355328
     ·rw [if_pos c15] at H
      have LMc15 := Ak c15
      clear c15
      obtain ⟨y114, hy114⟩ : ∃ y_ : List Int, y_ = (l0 ++ y111) := ⟨_, rfl⟩
      replace H : (some y114) = some r := by rw [hy114]; exact H
      have Ny114 := Ak hy114
      clear hy114
      obtain rfl := Oi H
      go_enter Tryz.func115, Tryz.ntmps115
      go_wp2_with (first | (go_at_call 126; (with_reducible refine (impl_PointOk.calls a1 true _ A3.out).mono ?_); rintro e w' ⟨rfl, ⟨nd, rfl⟩⟩) | ((with_reducible refine gate_dst (N := 50) rfl ?_); refine Kd.R_lit (Kd.int .u8) _ 5 ?hg (N := 50) ?hd (xs := ([(Go.bits .or .i64 224 (a1 / 4096)) % 256, (Go.bits .or .i64 128 (Go.bits .and .i64 (a1 / 64) 63)) % 256, (Go.bits .or .i64 128 (Go.bits .and .i64 a1 63)) % 256] : List Int)) (inner := [.int .u8 ((Go.bits .or .i64 224 (a1 / 4096)) % 256), .int .u8 ((Go.bits .or .i64 128 (Go.bits .and .i64 (a1 / 64) 63)) % 256), .int .u8 ((Go.bits .or .i64 128 (Go.bits .and .i64 a1 63)) % 256)]) (ok := fun _ => True) (okp := fun _ => True) ?hr ?hp (fun _ hk => hk) trivial (Below.refl _ _) (Nat.le_refl _) (by simp) ?_; (case hd => rfl); (case hg => rfl); (case hr => go_simp); (case hp => exact (Reps.one (show Kd.M (Kd.int .u8) _ _ _ ((Go.bits .or .i64 224 (a1 / 4096)) % 256) [.int .u8 ((Go.bits .or .i64 224 (a1 / 4096)) % 256)] from rfl) (Reps.one (show Kd.M (Kd.int .u8) _ _ _ ((Go.bits .or .i64 128 (Go.bits .and .i64 (a1 / 64) 63)) % 256) [.int .u8 ((Go.bits .or .i64 128 (Go.bits .and .i64 (a1 / 64) 63)) % 256)] from rfl) (Reps.one (show Kd.M (Kd.int .u8) _ _ _ ((Go.bits .or .i64 128 (Go.bits .and .i64 a1 63)) % 256) [.int .u8 ((Go.bits .or .i64 128 (Go.bits .and .i64 a1 63)) % 256)] from rfl) (Reps.none _ _))))); intro v112 w16 ho17 hb hg_ hnew_; clear hg_ hnew_; (first | rw [← Ny111.out] at ho17 | (simp only [Int.reduceToNat] at ho17; rw [← Ny111.out] at ho17)); have n0_ := Ak (Kd.R_elder' (by (with_reducible repeat (first | apply Kd.R_alloc | apply Kd.R_drewN | apply Kd.R_drew)); exact HO0.out) (Kd.R_base ho17) hb); have n1_ := Ak (Kd.R_lower (Kd.R_new' (Kd.R_newM (M := fun k_ => (P0_ k_ ∨ w.heap.size ≤ k_)) ho17 (by first | exact HK.out.1 | exact (show Kept w _ (fun k_ => P0_ k_) from by repeat (first | exact HK.out | apply Kept.alloc | apply Kept.drewN | apply Kept.drew)).1) (fun k_ h_ => .inr h_)) (Kd.R_lt (by (with_reducible repeat (first | apply Kd.R_alloc | apply Kd.R_drewN | apply Kd.R_drew)); exact HO0.out))) (below_size (by repeat (first | exact HB.out | apply below_alloc | apply pw_below_drewN | apply below_drew1)))); have n2_ := Ak (Kept.below (S := (fun k_ => P0_ k_)) (by repeat (first | exact HK.out | apply Kept.alloc | apply Kept.drewN | apply Kept.drew)) hb); have n3_ := Ak (below_step (by repeat (first | exact HB.out | apply below_alloc | apply pw_below_drewN | apply below_drew1)) hb); clear HO0; clear HK; clear HB; have HO0 := n0_; have HO113 := n1_; have HK := n2_; have HB := n3_; clear n0_ n1_ n2_ n3_; clear hb ho17; obtain ⟨Ao19, co19, eo19⟩ := Kd.R_slice HO113.out; subst eo19) | ((with_reducible refine gate_builtin (b := .append) (xs := #[.tmp 36, .tmp 50]) rfl ?_); at_builtin; refine Kd.R_append_rows (Kd.int .u8) (w0 := w0) w0.heap.size rfl (.tmp 36) (.tmp 50) 33 5 (.int .u8 0) 1 rfl Tryz.underlying33 info5 rfl (by decide) (by omega) u9000_ l0 y111 _ _ _ (fun k_ => (P0_ k_ ∨ w.heap.size ≤ k_) ∧ some k_ ≠ (.slice Ao19 y111.length co19 : Value).ownBlock) (fun _ => False) rfl rfl ?aO ?aR (fun _ _ h => h) (fun _ h => h.elim) ?aF ?aB ?aS ?aL ?_; (case aR => repeat (first | exact (Kd.R_reads' HO113.out).2.2 | (with_reducible refine Kd.C_alloc ?_ _) | (with_reducible refine Kd.C_drewN ?_ _) | (with_reducible refine Kd.C_drew ?_))); (case aB => exact (by repeat (first | exact HB.out | apply below_alloc | apply pw_below_drewN | apply below_drew1))); (case aF => exact (fun k_ hk => ⟨(.inr (Nat.le_trans (by first | exact HK.out.1 | exact (show Kept w _ (fun k_ => P0_ k_) from by repeat (first | exact HK.out | apply Kept.alloc | apply Kept.drewN | apply Kept.drew)).1) hk)), Kd.fresh' (Kd.R_lt (by (with_reducible repeat (first | apply Kd.R_alloc | apply Kd.R_drewN | apply Kd.R_drew)); exact HO113.out)) k_ hk⟩)); (case aO => exact (by (with_reducible repeat (first | apply Kd.R_alloc | apply Kd.R_drewN | apply Kd.R_drew)); exact HO0.out)); (case aS => exact (below_size (by repeat (first | exact HB.out | apply below_alloc | apply pw_below_drewN | apply below_drew1)))); (case aL => have := LMc15.out; omega); intro v115 w18 ho hb hg hat; rw [← Ny114.out] at ho; have n0_ := Ak (Kd.R_after (ok := (fun k_ => (P0_ k_ ∨ w.heap.size ≤ k_))) (by (with_reducible repeat (first | apply Kd.R_alloc | apply Kd.R_drewN | apply Kd.R_drew)); exact Kd.R_mono HO113.out (fun _ hk => ⟨hk.1.1, hk.2⟩)) hg hat); have n1_ := Ak (hb); have n2_ := Ak (Kept.of_grown (S := (fun k_ => P0_ k_)) hg (by repeat (first | exact HK.out | apply Kept.alloc | apply Kept.drewN | apply Kept.drew)) (fun k_ e_ => (HO0.out.1 k_ e_).1)); have n3_ := Ak (ho); clear HO113; clear HB; clear HK; clear HO0; have HO113 := n0_; have HB := n1_; have HK := n2_; have HO116 := n3_; clear n0_ n1_ n2_ n3_; clear ho hb hg hat))
      go_ret
      exact ⟨_, rfl, by (with_reducible repeat (first | apply Kd.R_alloc | apply Kd.R_drewN | apply Kd.R_drew)); exact Kd.R_mono HO116.out (fun _ hk => hk.1), by repeat (first | exact HB.out | apply below_alloc | apply pw_below_drewN | apply below_drew1), by repeat (first | exact HK.out | apply Kept.alloc | apply Kept.drewN | apply Kept.drew)⟩
     ·rw [if_neg c15] at H
      exact absurd H (by simp)
    ·rw [if_neg c14] at H
     have c14b0 := decide_eq_false c14
     clear c14
     obtain ⟨y117, hy117⟩ : ∃ y_ : List Int, y_ = (([(Go.bits .or .i64 240 (a1 / 262144)) % 256, (Go.bits .or .i64 128 (Go.bits .and .i64 (a1 / 4096) 63)) % 256, (Go.bits .or .i64 128 (Go.bits .and .i64 (a1 / 64) 63)) % 256, (Go.bits .or .i64 128 (Go.bits .and .i64 a1 63)) % 256] : List Int)) := ⟨_, rfl⟩
     replace H : (if l0.length + y117.length < 140737488355328 then (some (l0 ++ y117)) else (none)) = some r := by rw [hy117]; exact H
     have Ny117 := Ak hy117
     clear hy117
     by_cases c20 : l0.length + y117.length < 140737488355328
     ·rw [if_pos c20] at H
      have LMc20 := Ak c20
      clear c20
      obtain ⟨y120, hy120⟩ : ∃ y_ : List Int, y_ = (l0 ++ y117) := ⟨_, rfl⟩
      replace H : (some y120) = some r := by rw [hy120]; exact H
      have Ny120 := Ak hy120
      clear hy120
      obtain rfl := Oi H
      go_enter Tryz.func115, Tryz.ntmps115
      go_wp2_with (first | (go_at_call 126; (with_reducible refine (impl_PointOk.calls a1 true _ A3.out).mono ?_); rintro e w' ⟨rfl, ⟨nd, rfl⟩⟩) | ((with_reducible refine gate_dst (N := 71) rfl ?_); refine Kd.R_lit (Kd.int .u8) _ 5 ?hg (N := 71) ?hd (xs := ([(Go.bits .or .i64 240 (a1 / 262144)) % 256, (Go.bits .or .i64 128 (Go.bits .and .i64 (a1 / 4096) 63)) % 256, (Go.bits .or .i64 128 (Go.bits .and .i64 (a1 / 64) 63)) % 256, (Go.bits .or .i64 128 (Go.bits .and .i64 a1 63)) % 256] : List Int)) (inner := [.int .u8 ((Go.bits .or .i64 240 (a1 / 262144)) % 256), .int .u8 ((Go.bits .or .i64 128 (Go.bits .and .i64 (a1 / 4096) 63)) % 256), .int .u8 ((Go.bits .or .i64 128 (Go.bits .and .i64 (a1 / 64) 63)) % 256), .int .u8 ((Go.bits .or .i64 128 (Go.bits .and .i64 a1 63)) % 256)]) (ok := fun _ => True) (okp := fun _ => True) ?hr ?hp (fun _ hk => hk) trivial (Below.refl _ _) (Nat.le_refl _) (by simp) ?_; (case hd => rfl); (case hg => rfl); (case hr => go_simp); (case hp => exact (Reps.one (show Kd.M (Kd.int .u8) _ _ _ ((Go.bits .or .i64 240 (a1 / 262144)) % 256) [.int .u8 ((Go.bits .or .i64 240 (a1 / 262144)) % 256)] from rfl) (Reps.one (show Kd.M (Kd.int .u8) _ _ _ ((Go.bits .or .i64 128 (Go.bits .and .i64 (a1 / 4096) 63)) % 256) [.int .u8 ((Go.bits .or .i64 128 (Go.bits .and .i64 (a1 / 4096) 63)) % 256)] from rfl) (Reps.one (show Kd.M (Kd.int .u8) _ _ _ ((Go.bits .or .i64 128 (Go.bits .and .i64 (a1 / 64) 63)) % 256) [.int .u8 ((Go.bits .or .i64 128 (Go.bits .and .i64 (a1 / 64) 63)) % 256)] from rfl) (Reps.one (show Kd.M (Kd.int .u8) _ _ _ ((Go.bits .or .i64 128 (Go.bits .and .i64 a1 63)) % 256) [.int .u8 ((Go.bits .or .i64 128 (Go.bits .and .i64 a1 63)) % 256)] from rfl) (Reps.none _ _)))))); intro v118 w21 ho22 hb hg_ hnew_; clear hg_ hnew_; (first | rw [← Ny117.out] at ho22 | (simp only [Int.reduceToNat] at ho22; rw [← Ny117.out] at ho22)); have n0_ := Ak (Kd.R_elder' (by (with_reducible repeat (first | apply Kd.R_alloc | apply Kd.R_drewN | apply Kd.R_drew)); exact HO0.out) (Kd.R_base ho22) hb); have n1_ := Ak (Kd.R_lower (Kd.R_new' (Kd.R_newM (M := fun k_ => (P0_ k_ ∨ w.heap.size ≤ k_)) ho22 (by first | exact HK.out.1 | exact (show Kept w _ (fun k_ => P0_ k_) from by repeat (first | exact HK.out | apply Kept.alloc | apply Kept.drewN | apply Kept.drew)).1) (fun k_ h_ => .inr h_)) (Kd.R_lt (by (with_reducible repeat (first | apply Kd.R_alloc | apply Kd.R_drewN | apply Kd.R_drew)); exact HO0.out))) (below_size (by repeat (first | exact HB.out | apply below_alloc | apply pw_below_drewN | apply below_drew1)))); have n2_ := Ak (Kept.below (S := (fun k_ => P0_ k_)) (by repeat (first | exact HK.out | apply Kept.alloc | apply Kept.drewN | apply Kept.drew)) hb); have n3_ := Ak (below_step (by repeat (first | exact HB.out | apply below_alloc | apply pw_below_drewN | apply below_drew1)) hb); clear HO0; clear HK; clear HB; have HO0 := n0_; have HO119 := n1_; have HK := n2_; have HB := n3_; clear n0_ n1_ n2_ n3_; clear hb ho22; obtain ⟨Ao24, co24, eo24⟩ := Kd.R_slice HO119.out; subst eo24) | ((with_reducible refine gate_builtin (b := .append) (xs := #[.tmp 52, .tmp 71]) rfl ?_); at_builtin; refine Kd.R_append_rows (Kd.int .u8) (w0 := w0) w0.heap.size rfl (.tmp 52) (.tmp 71) 33 5 (.int .u8 0) 1 rfl Tryz.underlying33 info5 rfl (by decide) (by omega) u9000_ l0 y117 _ _ _ (fun k_ => (P0_ k_ ∨ w.heap.size ≤ k_) ∧ some k_ ≠ (.slice Ao24 y117.length co24 : Value).ownBlock) (fun _ => False) rfl rfl ?aO ?aR (fun _ _ h => h) (fun _ h => h.elim) ?aF ?aB ?aS ?aL ?_; (case aR => repeat (first | exact (Kd.R_reads' HO119.out).2.2 | (with_reducible refine Kd.C_alloc ?_ _) | (with_reducible refine Kd.C_drewN ?_ _) | (with_reducible refine Kd.C_drew ?_))); (case aB => exact (by repeat (first | exact HB.out | apply below_alloc | apply pw_below_drewN | apply below_drew1))); (case aF => exact (fun k_ hk => ⟨(.inr (Nat.le_trans (by first | exact HK.out.1 | exact (show Kept w _ (fun k_ => P0_ k_) from by repeat (first | exact HK.out | apply Kept.alloc | apply Kept.drewN | apply Kept.drew)).1) hk)), Kd.fresh' (Kd.R_lt (by (with_reducible repeat (first | apply Kd.R_alloc | apply Kd.R_drewN | apply Kd.R_drew)); exact HO119.out)) k_ hk⟩)); (case aO => exact (by (with_reducible repeat (first | apply Kd.R_alloc | apply Kd.R_drewN | apply Kd.R_drew)); exact HO0.out)); (case aS => exact (below_size (by repeat (first | exact HB.out | apply below_alloc | apply pw_below_drewN | apply below_drew1)))); (case aL => have := LMc20.out; omega); intro v121 w23 ho hb hg hat; rw [← Ny120.out] at ho; have n0_ := Ak (Kd.R_after (ok := (fun k_ => (P0_ k_ ∨ w.heap.size ≤ k_))) (by (with_reducible repeat (first | apply Kd.R_alloc | apply Kd.R_drewN | apply Kd.R_drew)); exact Kd.R_mono HO119.out (fun _ hk => ⟨hk.1.1, hk.2⟩)) hg hat); have n1_ := Ak (hb); have n2_ := Ak (Kept.of_grown (S := (fun k_ => P0_ k_)) hg (by repeat (first | exact HK.out | apply Kept.alloc | apply Kept.drewN | apply Kept.drew)) (fun k_ e_ => (HO0.out.1 k_ e_).1)); have n3_ := Ak (ho); clear HO119; clear HB; clear HK; clear HO0; have HO119 := n0_; have HB := n1_; have HK := n2_; have HO122 := n3_; clear n0_ n1_ n2_ n3_; clear ho hb hg hat))
      go_ret
      exact ⟨_, rfl, by (with_reducible repeat (first | apply Kd.R_alloc | apply Kd.R_drewN | apply Kd.R_drew)); exact Kd.R_mono HO122.out (fun _ hk => hk.1), by repeat (first | exact HB.out | apply below_alloc | apply pw_below_drewN | apply below_drew1), by repeat (first | exact HK.out | apply Kept.alloc | apply Kept.drewN | apply Kept.drew)⟩
     ·rw [if_neg c20] at H
      exact absurd H (by simp)
 ·replace c4 := Bool.eq_false_iff.mpr c4
  subst c4
  rw [if_neg (show ¬ (false = true) by decide)] at H
  replace H := Ob H
  obtain ⟨t123, A250, H⟩ := H
  replace H : (some t123) = some r := H
  have A25 := Ak A250
  clear A250
  obtain rfl := Oi H
  go_enter Tryz.func115, Tryz.ntmps115
  go_wp2_with (first | (go_at_call 126; (with_reducible refine (impl_PointOk.calls a1 false _ A3.out).mono ?_); rintro e w' ⟨rfl, ⟨nd, rfl⟩⟩; obtain ⟨Ao26, co26, eo26⟩ := Kd.R_slice HO0.out; subst eo26) | (go_at_call 115; (with_reducible refine (ih k (by omega) (fun k_ => some k_ = (.slice Ao26 l0.length co26 : Value).ownBlock) (.slice Ao26 l0.length co26) l0 65533 t123 w0 _ ?side1 ?side2 A25.out).mono ?_); (case side1 => repeat (first | (with_reducible first | exact HB.out | apply below_alloc | apply pw_below_drewN | apply below_drew1) | exact HB.out)); (case side2 => exact Kd.R_tight rfl HO0.out); rintro e w27 ⟨v124, rfl, ho0, hb, hkp⟩; have n0_ := Ak (Kd.R_mono (ok' := fun k_ => (P0_ k_ ∨ w.heap.size ≤ k_)) ho0 (fun k_ hk_ => Or.elim hk_ (fun hs_ => (HO0.out.1 k_ (hs_).symm)) (fun hn_ => (.inr (Nat.le_trans (by first | exact HK.out.1 | exact (show Kept w _ (fun k_ => P0_ k_) from by repeat (first | exact HK.out | apply Kept.alloc | apply Kept.drewN | apply Kept.drew)).1) hn_))))); have n1_ := Ak (Kept.then_ (S := (fun k_ => P0_ k_)) (by repeat (first | exact HK.out | apply Kept.alloc | apply Kept.drewN | apply Kept.drew)) hkp (fun k_ hs_ => (fun e_ => (HO0.out.1 k_ e_.symm)) hs_)); have n2_ := Ak (hb); clear HK; clear HB; clear HO0; have HO125 := n0_; have HK := n1_; have HB := n2_; clear n0_ n1_ n2_; (try clear hb); (try clear hkp); (try clear ho0)))
  go_ret
  exact ⟨_, rfl, by (with_reducible repeat (first | apply Kd.R_alloc | apply Kd.R_drewN | apply Kd.R_drew)); exact HO125.out, by repeat (first | exact HB.out | apply below_alloc | apply pw_below_drewN | apply below_drew1), by repeat (first | exact HK.out | apply Kept.alloc | apply Kept.drewN | apply Kept.drew)⟩
def impl_PointsPut.l0 : Nat → List Int → List Int → Int → Int → Option (List Int)
 | 0, _, _, _, _ => none
 | k + 1, x3, x9, x10, x11 => if x11 < x10 then (if 0 ≤ x11 then (if x11 < (x9.length : Int) then ((impl_putPoint.f k x3 (rd x9 x11)).bind fun t102 => (impl_PointsPut.l0 k t102 x9 x10 (wrap64 (x11 + 1)))) else (none)) else (none)) else (some x3)
def impl_PointsPut.f (k : Nat) (l0 : List Int) : Option (List Int) := if (l0.length : Int) > 3000 then (some ([] : List Int)) else (impl_PointsPut.l0 k ([] : List Int) l0 (l0.length : Int) 0)
theorem impl_PointsPut.mono_l : ∀ k, (∀ y0 y1 y2 y3, LeO (impl_PointsPut.l0 k y0 y1 y2 y3) (impl_PointsPut.l0 (k + 1) y0 y1 y2 y3))
 | 0 => fun _ _ _ _ r h => by simp [impl_PointsPut.l0] at h
 | k + 1 => by
  have ih0 := impl_PointsPut.mono_l k
  ·intro y0 y1 y2 y3
   unfold impl_PointsPut.l0
   repeat' (with_reducible first | exact ih0 _ _ _ _ | exact impl_putPoint.mono _ _ _ | exact LeO.refl _ | exact LeO.none _ | refine LeO.ite ?_ ?_ | refine LeO.bind ?_ (fun _ => ?_))
theorem impl_PointsPut.mono : ∀ a0 k, LeO (impl_PointsPut.f k a0) (impl_PointsPut.f (k + 1) a0) := by
 intro a0 k
 have ih0 := impl_PointsPut.mono_l k
 unfold impl_PointsPut.f
 repeat' (with_reducible first | exact ih0 _ _ _ _ | exact impl_putPoint.mono _ _ _ | exact LeO.refl _ | exact LeO.none _ | refine LeO.ite ?_ ?_ | refine LeO.bind ?_ (fun _ => ?_))
theorem impl_PointsPut.calls (k : Nat) (A0 : Option Addr) (c0 : Nat) (l0 : List Int) (r : List Int) (w : World) (hr0 : Kd.C (Kd.int .i64) w A0 l0.length l0) (hc0 : l0.length ≤ c0) (h : impl_PointsPut.f k l0 = some r) :
 Calls Tryz.prog 108 #[.slice A0 l0.length c0] w fun e w' => ∃ v0_ : Value, e = .returned (v0_) ∧ Kd.R (Kd.int .u8) 5 w' w.heap.size (fun _ => True) v0_ r ∧ Below w.heap.size w w' := by
 have HR0 := Ak hr0
 have HC0 := Ak hc0
 clear hr0 hc0
 have HB := Ak (Below.refl w.heap.size w)
 have H : (if (l0.length : Int) > 3000 then (some ([] : List Int)) else (impl_PointsPut.l0 k ([] : List Int) l0 (l0.length : Int) 0)) = some r := h
 clear h
 by_cases c2 : (l0.length : Int) > 3000
 ·rw [if_pos c2] at H
  have c2b0 : decide (3000 < (l0.length : Int)) = true := decide_eq_true c2
  have c2b1 : decide (3000 < l0.length) = true := decide_eq_true (by omega)
  clear c2
  obtain rfl := Oi H
  go_enter Tryz.func108, Tryz.ntmps108
  go_wp2
  go_ret
  exact ⟨_, rfl, by first | exact Kd.R_nil _ _ _ _ _ | exact Kd.N_nil _ _ _ _ _ | exact Kd.V_nil _ _ _ _ _ | exact Kd.Q_nil _ _ _ _ _ | exact Kd.S_nil _ _ _ _ _, HB.out⟩
 ·rw [if_neg c2] at H
  have c2b0 : decide (3000 < (l0.length : Int)) = false := decide_eq_false c2
  have c2b1 : decide (3000 < l0.length) = false := decide_eq_false (by omega)
  clear c2
  have H' := Ak H
  clear H
  go_enter Tryz.func108, Tryz.ntmps108
  go_wp2
  go_loopg [3, 11] k (fun kq v3 v11 w' => ∃ (x3_1 : List Int) (x11_1 : Int), v11 = .int .i64 x11_1 ∧ Aside0 (impl_PointsPut.l0 kq x3_1 l0 (l0.length : Int) x11_1 = some r) ∧ Aside0 (kq ≤ k) ∧ Aside0 (Kd.R (Kd.int .u8) 5 w' w.heap.size (fun _ => True) v3 x3_1) ∧ Aside0 (Below w.heap.size w w'))
  case atStart => exact ⟨(([] : List Int)), (0), rfl, H', ⟨Nat.le_refl _⟩, ⟨by first | exact Kd.R_nil _ _ _ _ _ | exact Kd.N_nil _ _ _ _ _ | exact Kd.V_nil _ _ _ _ _ | exact Kd.Q_nil _ _ _ _ _ | exact Kd.S_nil _ _ _ _ _⟩, ⟨HB.out⟩⟩
  case round =>
   clear H'
   obtain ⟨x3_1, x11_1, rfl, HA, HK1, HO_3, HB⟩ := hrel
   cases gk with
   | zero => exact absurd HA.out (by simp [impl_PointsPut.l0])
   | succ k1 =>
    have H := HA.out
    clear HA
    simp only [impl_PointsPut.l0] at H
    by_cases c3 : x11_1 < (l0.length : Int)
    ·rw [if_pos c3] at H
     have c3b0 := decide_eq_true c3
     clear c3
     by_cases c4 : 0 ≤ x11_1
     ·rw [if_pos c4] at H
      have c4b0 := decide_eq_true c4
      clear c4
      by_cases c5 : x11_1 < (l0.length : Int)
      ·rw [if_pos c5] at H
       have c5b0 := decide_eq_true c5
       clear c5
       replace H := Ob H
       obtain ⟨t102, A60, H⟩ := H
       replace H : (impl_PointsPut.l0 k1 t102 l0 (l0.length : Int) (wrap64 (x11_1 + 1))) = some r := H
       have A6 := Ak A60
       clear A60
       have H' := Ak H
       clear H
       have p101 : 0 ≤ (x11_1 : Int) := of_decide_eq_true (by assumption)
       have q101 : x11_1 < (l0.length : Int) := of_decide_eq_true (by assumption)
       obtain ⟨ad101, e101, hx101_0⟩ := Kd.at_int HR0.out x11_1 p101 q101
       cases e101
       replace hx101_0 := pw_cell_below HB.out hx101_0
       replace p101 := eq_true p101
       replace q101 := eq_true q101
       obtain ⟨Ao7, co7, eo7⟩ := Kd.R_slice HO_3.out
       subst eo7
       go_wp2_with (first | (go_at_call 115; (with_reducible refine (impl_putPoint.calls k1 (fun k_ => some k_ = (.slice Ao7 x3_1.length co7 : Value).ownBlock) (.slice Ao7 x3_1.length co7) x3_1 (rd l0 x11_1) t102 w _ ?side1 ?side2 A6.out).mono ?_); (case side1 => repeat (first | (with_reducible first | exact HB.out | apply below_alloc | apply pw_below_drewN | apply below_drew1) | exact HB.out)); (case side2 => exact Kd.R_tight rfl HO_3.out); rintro e w8 ⟨v103, rfl, ho0, hb, hkp⟩; replace HO104 := Ak (Kd.R_mono (ok' := fun k_ => True) ho0 (fun k_ hk_ => trivial)); replace HB := Ak (hb); (try clear hb); (try clear hkp); (try clear ho0)))
       go_roundg k1
       case measure => have := HK1.out; omega
       case rel => exact ⟨(t102), (wrap64 (x11_1 + 1)), rfl, H', ⟨by have := HK1.out; omega⟩, ⟨by (with_reducible repeat (first | apply Kd.R_alloc | apply Kd.R_drewN | apply Kd.R_drew)); exact HO104.out⟩, ⟨HB.out⟩⟩
      ·rw [if_neg c5] at H
       exact absurd H (by simp)
     ·rw [if_neg c4] at H
      exact absurd H (by simp)
    ·rw [if_neg c3] at H
     have c3b0 := decide_eq_false c3
     clear c3
     obtain rfl := Oi H
     go_wp2
     go_ret
     exact ⟨_, rfl, by (with_reducible repeat (first | apply Kd.R_alloc | apply Kd.R_drewN | apply Kd.R_drew)); exact HO_3.out, HB.out⟩
def bytes_HasPrefix.f (l0 : List Int) (l1 : List Int) : Option (Bool) := if (l0.length : Int) ≥ (l1.length : Int) then (bytes_Equal.f (l0.take ((l1.length : Int) : Int).toNat) l1) else (some false)
theorem bytes_HasPrefix.calls (A0 : Option Addr) (c0 : Nat) (l0 : List Int) (A1 : Option Addr) (c1 : Nat) (l1 : List Int) (r : Bool) (w : World) (hr0 : Kd.C (Kd.int .u8) w A0 l0.length l0) (hc0 : l0.length ≤ c0) (hr1 : Kd.C (Kd.int .u8) w A1 l1.length l1) (hc1 : l1.length ≤ c1) (h : bytes_HasPrefix.f l0 l1 = some r) :
 Calls Tryz.prog 127 #[.slice A0 l0.length c0, .slice A1 l1.length c1] w fun e w' => e = .returned (.bool r) ∧ Drawn0 w w' := by
 have HR0 := Ak hr0
 have HC0 := Ak hc0
 clear hr0 hc0
 have HR1 := Ak hr1
 have HC1 := Ak hc1
 clear hr1 hc1
 unfold bytes_HasPrefix.f at h
 have H := h
 clear h
 by_cases c3 : (l0.length : Int) ≥ (l1.length : Int)
 ·rw [if_pos c3] at H
  have c3b0 : decide ((l1.length : Int) ≤ (l0.length : Int)) = true := decide_eq_true c3
  have c3b1 : decide (l1.length ≤ l0.length) = true := decide_eq_true (Int.ofNat_le.mp c3)
  have c4b0 := eq_true (show 0 ≤ (l1.length : Int) by omega)
  have c4b1 : decide (0 ≤ (l1.length : Int)) = true := decide_eq_true (by omega)
  have c5b0 := eq_true (show (l1.length : Int) ≤ (l0.length : Int) from c3)
  have hln : (l0.take ((l1.length : Int) : Int).toNat).length = min l1.length l0.length := by rw [List.length_take]; rfl
  have A6 := Ak H
  clear H c3
  obtain ⟨i07, hi07, _, hsz7, _⟩ := info_parts info5
  obtain ⟨hcut7, hA7, hC7⟩ := print_take_of (P := Tryz.prog) (Value.int .u8) 0 33 5 .i64 Tryz.underlying33 hi07 hsz7 A0 c0 l0 (l1.length : Int) (of_decide_eq_true (by assumption)) (of_decide_eq_true (by assumption)) HC0.out
  have HR367 := Ak (Kd.C_of_reads (h1 := fun _ => rfl) (hA7 _ (Kd.reads_of_C HR0.out)))
  have HC367 := Ak hC7
  clear hA7 hC7 hi07 hsz7
  have C9 := Ak (show Calls Tryz.prog 107 #[.slice A0 (min l1.length l0.length) c0, .slice A1 l1.length c1] w fun e w' => e = .returned (.bool r) ∧ Drawn0 w w' from by
   have := bytes_Equal.calls A0 c0 (l0.take ((l1.length : Int) : Int).toNat) A1 c1 l1 r w HR367.out HC367.out HR1.out HC1.out A6.out
   rw [hln] at this
   exact this)
  clear hln
  go_enter Tryz.func127, Tryz.ntmps127
  go_wp2_with (first | (go_at_call 107; refine C9.out.mono ?_; rintro e w' ⟨rfl, ⟨nd, rfl⟩⟩))
  go_ret
  exact ⟨rfl, by repeat (first | exact Drawn0.refl _ | apply Drawn0.step)⟩
 ·rw [if_neg c3] at H
  have c3b0 : decide ((l1.length : Int) ≤ (l0.length : Int)) = false := decide_eq_false c3
  have c3b1 : decide (l1.length ≤ l0.length) = false := decide_eq_false (fun h => c3 (Int.ofNat_le.mpr h))
  clear c3
  obtain rfl := Oi H
  go_enter Tryz.func127, Tryz.ntmps127
  go_wp2
  go_ret
  exact ⟨rfl, by repeat (first | exact Drawn0.refl _ | apply Drawn0.step)⟩
def bytes_TrimPrefix.f (l0 : List Int) (l1 : List Int) : Option (List Int) := (bytes_HasPrefix.f l0 l1).bind fun t101 => (if t101 = true then (if 0 ≤ (l1.length : Int) then (if (l1.length : Int) ≤ (l0.length : Int) then (some (l0.drop ((l1.length : Int) : Int).toNat)) else (none)) else (none)) else (some l0))
theorem bytes_TrimPrefix.calls (P0_ : Nat → Prop) (A0 : Option Addr) (c0 : Nat) (l0 : List Int) (A1 : Option Addr) (c1 : Nat) (l1 : List Int) (r : List Int) (w : World) (hs0 : Kd.V (Kd.int .u8) 5 w w.heap.size (fun k_ => P0_ k_) (.slice A0 l0.length c0) l0) (hr1 : Kd.C (Kd.int .u8) w A1 l1.length l1) (hc1 : l1.length ≤ c1) (h : bytes_TrimPrefix.f l0 l1 = some r) :
 Calls Tryz.prog 116 #[.slice A0 l0.length c0, .slice A1 l1.length c1] w fun e w' => ∃ v0_ : Value, e = .returned (v0_) ∧ Kd.V (Kd.int .u8) 5 w' w.heap.size (fun k_ => (P0_ k_ ∨ w.heap.size ≤ k_)) v0_ r ∧ Below w.heap.size w w' := by
 have HO0 := Ak (show Kd.V (Kd.int .u8) 5 w w.heap.size (fun k_ => (P0_ k_ ∨ w.heap.size ≤ k_)) (.slice A0 l0.length c0) l0 from Kd.V_mono hs0 (fun k_ hk => .inl hk))
 have HR1 := Ak hr1
 have HC1 := Ak hc1
 clear hr1 hc1
 have HB := Ak (Below.refl w.heap.size w)
 have H : ((bytes_HasPrefix.f l0 l1).bind fun t101 => (if t101 = true then (if 0 ≤ (l1.length : Int) then (if (l1.length : Int) ≤ (l0.length : Int) then (some (l0.drop ((l1.length : Int) : Int).toNat)) else (none)) else (none)) else (some l0))) = some r := h
 clear h
 replace H := Ob H
 obtain ⟨t101, A30, H⟩ := H
 replace H : (if t101 = true then (if 0 ≤ (l1.length : Int) then (if (l1.length : Int) ≤ (l0.length : Int) then (some (l0.drop ((l1.length : Int) : Int).toNat)) else (none)) else (none)) else (some l0)) = some r := H
 have A3 := Ak A30
 clear A30
 by_cases c4 : t101 = true
 ·subst c4
  rw [if_pos rfl] at H
  by_cases c5 : 0 ≤ (l1.length : Int)
  ·rw [if_pos c5] at H
   have c5b0 := eq_true c5
   have c5b1 := decide_eq_true c5
   clear c5
   by_cases c6 : (l1.length : Int) ≤ (l0.length : Int)
   ·rw [if_pos c6] at H
    have c6b0 := eq_true c6
    have c6b1 := decide_eq_true c6
    clear c6
    obtain ⟨y102, hy102⟩ : ∃ y_ : List Int, y_ = (l0.drop ((l1.length : Int) : Int).toNat) := ⟨_, rfl⟩
    replace H : (some y102) = some r := by rw [hy102]; exact H
    have Ny102 := Ak hy102
    clear hy102
    obtain rfl := Oi H
    go_enter Tryz.func116, Tryz.ntmps116
    go_wp2_with (first | (go_at_call 127; (with_reducible refine (bytes_HasPrefix.calls _ _ l0 _ _ l1 true _ ?side1 ?side2 ?side3 ?side4 A3.out).mono ?_); (case side1 => repeat (first | exact (Kd.V_reads' HO0.out).2.2 | (with_reducible refine Kd.C_alloc ?_ _) | (with_reducible refine Kd.C_drewN ?_ _) | (with_reducible refine Kd.C_drew ?_))); (case side2 => exact (Kd.V_reads' HO0.out).2.1); (case side3 => repeat (first | exact HR1.out | (with_reducible refine Kd.C_alloc ?_ _) | (with_reducible refine Kd.C_drewN ?_ _) | (with_reducible refine Kd.C_drew ?_))); (case side4 => exact HC1.out); rintro e w' ⟨rfl, ⟨nd, rfl⟩⟩; have q7 : ((l1.length : Int) : Int) ≤ ((l0.length : Int) : Int) := of_decide_eq_true (by assumption); obtain ⟨i07, hi07, _, hsz7, _⟩ := info_parts info5; have hroom7 : l0.length ≤ c0 := (Kd.V_reads' HO0.out).2.1; have hC7 : Kd.F (Kd.int .u8) _ _ A0 l0.length l0 := (Kd.V_at (base := w.heap.size) HO0.out).2.2; have q07 : (0 : Int) ≤ ((l1.length : Int) : Int) := of_decide_eq_true (by assumption); have hcut7 := cut_from (P := Tryz.prog) 33 5 .i64 Tryz.underlying33 hi07 1 hsz7 A0 l0.length c0 (l1.length : Int) q07 q7; have hr7 := Kd.F_cut (m := ((l1.length : Int) : Int).toNat) (c := c0) hC7 (by omega) hroom7; obtain ⟨A7, hA7⟩ : ∃ A1, A1 = (if c0 = ((l1.length : Int) : Int).toNat then A0 else (A0 : Option Addr).map (·.add (((l1.length : Int) : Int).toNat * 1))) := ⟨_, rfl⟩; obtain ⟨c7, hc7⟩ : ∃ c1, c1 = c0 - ((l1.length : Int) : Int).toNat := ⟨_, rfl⟩; have hy7 : y102.length = l0.length - ((l1.length : Int) : Int).toNat := (by rw [Ny102.out, List.length_drop] <;> omega); rw [show (l0).drop ((l1.length : Int) : Int).toNat = y102 from Ny102.out.symm] at hr7; replace hr7 : Kd.F (Kd.int .u8) _ _ A7 y102.length y102 := (by rw [hA7]; exact hr7); rw [← hy7, ← hA7, ← hc7] at hcut7; have HO106 := Ak (show Kd.V (Kd.int .u8) 5 _ w.heap.size _ (.slice A7 y102.length c7) y102 from Kd.V_mk (by rw [hy7, hc7]; exact Nat.sub_le_sub_right hroom7 _) hr7); have HC106 := Ak (show y102.length ≤ c7 from by rw [hy7, hc7]; exact Nat.sub_le_sub_right hroom7 _); clear hr7 hC7 hroom7 hi07 hsz7 hc7; have KY7 := Ak hy7; have KA7 := Ak hA7; clear hy7 hA7; replace q7 := eq_true q7))
    go_ret
    exact ⟨_, rfl, by (with_reducible repeat (first | apply Kd.V_alloc | apply Kd.V_drewN | apply Kd.V_drew)); exact HO106.out, by repeat (first | exact HB.out | apply below_alloc | apply pw_below_drewN | apply below_drew1)⟩
   ·rw [if_neg c6] at H
    exact absurd H (by simp)
  ·rw [if_neg c5] at H
   exact absurd H (by simp)
 ·replace c4 := Bool.eq_false_iff.mpr c4
  subst c4
  rw [if_neg (show ¬ (false = true) by decide)] at H
  obtain rfl := Oi H
  go_enter Tryz.func116, Tryz.ntmps116
  go_wp2_with (first | (go_at_call 127; (with_reducible refine (bytes_HasPrefix.calls _ _ l0 _ _ l1 false _ ?side1 ?side2 ?side3 ?side4 A3.out).mono ?_); (case side1 => repeat (first | exact (Kd.V_reads' HO0.out).2.2 | (with_reducible refine Kd.C_alloc ?_ _) | (with_reducible refine Kd.C_drewN ?_ _) | (with_reducible refine Kd.C_drew ?_))); (case side2 => exact (Kd.V_reads' HO0.out).2.1); (case side3 => repeat (first | exact HR1.out | (with_reducible refine Kd.C_alloc ?_ _) | (with_reducible refine Kd.C_drewN ?_ _) | (with_reducible refine Kd.C_drew ?_))); (case side4 => exact HC1.out); rintro e w' ⟨rfl, ⟨nd, rfl⟩⟩))
  go_ret
  exact ⟨_, rfl, by (with_reducible repeat (first | apply Kd.V_alloc | apply Kd.V_drewN | apply Kd.V_drew)); exact HO0.out, by repeat (first | exact HB.out | apply below_alloc | apply pw_below_drewN | apply below_drew1)⟩
mutual
def impl_formOf.j0 : Nat → Int → Bool → Option (Int × Int)
 | 0, _, _ => none
 | k + 1, x0, x9 => if x9 = true then (some (2, wrap64 (Go.bits .and .u8 x0 31))) else (if x0 ≥ 224 then (impl_formOf.j1 k x0 (decide (x0 ≤ 239))) else (impl_formOf.j1 k x0 false))
def impl_formOf.j1 : Nat → Int → Bool → Option (Int × Int)
 | 0, _, _ => none
 | k + 1, x0, x19 => if x19 = true then (some (3, wrap64 (Go.bits .and .u8 x0 15))) else (if x0 ≥ 240 then (if x0 ≤ 244 then (some (4, wrap64 (Go.bits .and .u8 x0 7))) else (some (0, 0))) else (some (0, 0)))
end
def impl_formOf.f (k : Nat) (a0 : Int) : Option (Int × Int) := if a0 < 128 then (some (1, wrap64 (a0))) else (if a0 ≥ 194 then (impl_formOf.j0 k a0 (decide (a0 ≤ 223))) else (impl_formOf.j0 k a0 false))
theorem impl_formOf.mono_l : ∀ k, (∀ y0 y1, LeO (impl_formOf.j0 k y0 y1) (impl_formOf.j0 (k + 1) y0 y1)) ∧ (∀ y0 y1, LeO (impl_formOf.j1 k y0 y1) (impl_formOf.j1 (k + 1) y0 y1))
 | 0 => ⟨fun _ _ r h => by simp [impl_formOf.j0] at h, fun _ _ r h => by simp [impl_formOf.j1] at h⟩
 | k + 1 => by
  obtain ⟨ih0, ih1⟩ := impl_formOf.mono_l k
  refine ⟨?_, ?_⟩
  ·intro y0 y1
   unfold impl_formOf.j0
   repeat' (with_reducible first | exact ih0 _ _ | exact ih1 _ _ | exact LeO.refl _ | exact LeO.none _ | refine LeO.ite ?_ ?_ | refine LeO.bind ?_ (fun _ => ?_))
  ·intro y0 y1
   unfold impl_formOf.j1
   repeat' (with_reducible first | exact ih0 _ _ | exact ih1 _ _ | exact LeO.refl _ | exact LeO.none _ | refine LeO.ite ?_ ?_ | refine LeO.bind ?_ (fun _ => ?_))
theorem impl_formOf.mono : ∀ a0 k, LeO (impl_formOf.f k a0) (impl_formOf.f (k + 1) a0) := by
 intro a0 k
 obtain ⟨ih0, ih1⟩ := impl_formOf.mono_l k
 unfold impl_formOf.f
 repeat' (with_reducible first | exact ih0 _ _ | exact ih1 _ _ | exact LeO.refl _ | exact LeO.none _ | refine LeO.ite ?_ ?_ | refine LeO.bind ?_ (fun _ => ?_))
theorem impl_formOf.calls (k : Nat) (a0 : Int) (r1 : Int) (r2 : Int) (w : World) (h : impl_formOf.f k a0 = some (r1, r2)) :
 Calls Tryz.prog 128 #[.int .u8 a0] w fun e w' => e = .returned (.tuple #[.int .i64 r1, .int .i64 r2]) ∧ Drawn0 w w' := by
 have H : (if a0 < 128 then (some (1, wrap64 (a0))) else (if a0 ≥ 194 then (impl_formOf.j0 k a0 (decide (a0 ≤ 223))) else (impl_formOf.j0 k a0 false))) = some (r1, r2) := h
 clear h
 by_cases c2 : a0 < 128
 ·rw [if_pos c2] at H
  have c2b0 := decide_eq_true c2
  clear c2
  simp only [Option.some.injEq, Prod.mk.injEq] at H
  obtain ⟨rfl, rfl⟩ := H
  go_enter Tryz.func128, Tryz.ntmps128
  go_wp2
  go_ret2
  exact ⟨rfl, by repeat (first | exact Drawn0.refl _ | apply Drawn0.step)⟩
 ·rw [if_neg c2] at H
  have c2b0 := decide_eq_false c2
  clear c2
  have HC3 := Ak H
  clear H
  go_enter Tryz.func128, Tryz.ntmps128
  go_upto_region 3 with (fail)
  go_cut [9] (fun v9 wc => ∃ (kq : Nat) (x9_2 : Bool), v9 = .bool x9_2 ∧ Aside0 (impl_formOf.j0 kq a0 x9_2 = some (r1, r2)) ∧ Aside0 (kq ≤ k) ∧ Drawn0 w wc)
  case first =>
   have H := HC3.out
   clear HC3
   by_cases c4 : a0 ≥ 194
   ·rw [if_pos c4] at H
    have c4b0 : decide (194 ≤ a0) = true := decide_eq_true c4
    clear c4
    (first | rw [c4b0] | (simp only [i64_w, i32_w]; rw [c4b0]) | skip)
    have H' := Ak H
    clear H
    go_wp2
    go_meet
    case rel => exact ⟨_, (decide (a0 ≤ 223)), rfl, H', ⟨by first | omega | exact Nat.le_refl _⟩, by repeat (first | exact Drawn0.refl _ | apply Drawn0.step)⟩
   ·rw [if_neg c4] at H
    have c4b0 : decide (194 ≤ a0) = false := decide_eq_false c4
    clear c4
    (first | rw [c4b0] | (simp only [i64_w, i32_w]; rw [c4b0]) | skip)
    have H' := Ak H
    clear H
    go_wp2
    go_meet
    case rel => exact ⟨_, (false), rfl, H', ⟨by first | omega | exact Nat.le_refl _⟩, by repeat (first | exact Drawn0.refl _ | apply Drawn0.step)⟩
  case rest =>
   clear HC3
   obtain ⟨kq, x9_2, rfl, HA, HJ2, ⟨mc2, rfl⟩⟩ := hcut
   cases kq with
   | zero => exact absurd HA.out (by simp [impl_formOf.j0])
   | succ kj2 =>
    have H := HA.out
    clear HA
    simp only [impl_formOf.j0] at H
    by_cases c5 : x9_2 = true
    ·subst c5
     rw [if_pos rfl] at H
     simp only [Option.some.injEq, Prod.mk.injEq] at H
     obtain ⟨rfl, rfl⟩ := H
     go_wp2
     go_ret2
     exact ⟨rfl, by repeat (first | exact Drawn0.refl _ | apply Drawn0.step)⟩
    ·replace c5 := Bool.eq_false_iff.mpr c5
     subst c5
     rw [if_neg (show ¬ (false = true) by decide)] at H
     have HC6 := Ak H
     clear H
     go_upto_region 5 with (fail)
     go_cut [19] (fun v19 wc => ∃ (kq : Nat) (x19_5 : Bool), v19 = .bool x19_5 ∧ Aside0 (impl_formOf.j1 kq a0 x19_5 = some (r1, r2)) ∧ Aside0 (kq ≤ kj2) ∧ Drawn0 w wc)
     case first =>
      have H := HC6.out
      clear HC6
      by_cases c7 : a0 ≥ 224
      ·rw [if_pos c7] at H
       have c7b0 : decide (224 ≤ a0) = true := decide_eq_true c7
       clear c7
       (first | rw [c7b0] | (simp only [i64_w, i32_w]; rw [c7b0]) | skip)
       have H' := Ak H
       clear H
       go_wp2
       go_meet
       case rel => exact ⟨_, (decide (a0 ≤ 239)), rfl, H', ⟨by have := HJ2.out; first | omega | exact Nat.le_refl _⟩, by repeat (first | exact Drawn0.refl _ | apply Drawn0.step)⟩
      ·rw [if_neg c7] at H
       have c7b0 : decide (224 ≤ a0) = false := decide_eq_false c7
       clear c7
       (first | rw [c7b0] | (simp only [i64_w, i32_w]; rw [c7b0]) | skip)
       have H' := Ak H
       clear H
       go_wp2
       go_meet
       case rel => exact ⟨_, (false), rfl, H', ⟨by have := HJ2.out; first | omega | exact Nat.le_refl _⟩, by repeat (first | exact Drawn0.refl _ | apply Drawn0.step)⟩
     case rest =>
      clear HC6
      obtain ⟨kq, x19_5, rfl, HA, HJ5, ⟨mc5, rfl⟩⟩ := hcut
      cases kq with
      | zero => exact absurd HA.out (by simp [impl_formOf.j1])
      | succ kj5 =>
       have H := HA.out
       clear HA
       simp only [impl_formOf.j1] at H
       by_cases c8 : x19_5 = true
       ·subst c8
        rw [if_pos rfl] at H
        simp only [Option.some.injEq, Prod.mk.injEq] at H
        obtain ⟨rfl, rfl⟩ := H
        go_wp2
        go_ret2
        exact ⟨rfl, by repeat (first | exact Drawn0.refl _ | apply Drawn0.step)⟩
       ·replace c8 := Bool.eq_false_iff.mpr c8
        subst c8
        rw [if_neg (show ¬ (false = true) by decide)] at H
        by_cases c9 : a0 ≥ 240
        ·rw [if_pos c9] at H
         have c9b0 : decide (240 ≤ a0) = true := decide_eq_true c9
         clear c9
         by_cases c10 : a0 ≤ 244
         ·rw [if_pos c10] at H
          have c10b0 := decide_eq_true c10
          clear c10
          simp only [Option.some.injEq, Prod.mk.injEq] at H
          obtain ⟨rfl, rfl⟩ := H
          go_wp2
          go_ret2
          exact ⟨rfl, by repeat (first | exact Drawn0.refl _ | apply Drawn0.step)⟩
         ·rw [if_neg c10] at H
          have c10b0 := decide_eq_false c10
          clear c10
          simp only [Option.some.injEq, Prod.mk.injEq] at H
          obtain ⟨rfl, rfl⟩ := H
          go_wp2
          go_ret2
          exact ⟨rfl, by repeat (first | exact Drawn0.refl _ | apply Drawn0.step)⟩
        ·rw [if_neg c9] at H
         have c9b0 : decide (240 ≤ a0) = false := decide_eq_false c9
         clear c9
         simp only [Option.some.injEq, Prod.mk.injEq] at H
         obtain ⟨rfl, rfl⟩ := H
         go_wp2
         go_ret2
         exact ⟨rfl, by repeat (first | exact Drawn0.refl _ | apply Drawn0.step)⟩
def impl_boundsOf.f (a0 : Int) : Option (Int × Int) := if a0 = 224 then (some (160, 191)) else (if a0 = 237 then (some (128, 159)) else (if a0 = 240 then (some (144, 191)) else (if a0 = 244 then (some (128, 143)) else (some (128, 191)))))
theorem impl_boundsOf.calls (a0 : Int) (r1 : Int) (r2 : Int) (w : World) (h : impl_boundsOf.f a0 = some (r1, r2)) :
 Calls Tryz.prog 129 #[.int .u8 a0] w fun e w' => e = .returned (.tuple #[.int .u8 r1, .int .u8 r2]) ∧ Drawn0 w w' := by
 have H : (if a0 = 224 then (some (160, 191)) else (if a0 = 237 then (some (128, 159)) else (if a0 = 240 then (some (144, 191)) else (if a0 = 244 then (some (128, 143)) else (some (128, 191)))))) = some (r1, r2) := h
 clear h
 by_cases c2 : a0 = 224
 ·rw [if_pos c2] at H
  have c2b0 := beq_iff_eq.mpr c2
  have c2b1 := bne_eq_false_iff_eq.mpr c2
  clear c2
  simp only [Option.some.injEq, Prod.mk.injEq] at H
  obtain ⟨rfl, rfl⟩ := H
  go_enter Tryz.func129, Tryz.ntmps129
  go_wp2
  go_ret2
  exact ⟨rfl, by repeat (first | exact Drawn0.refl _ | apply Drawn0.step)⟩
 ·rw [if_neg c2] at H
  have c2b0 := beq_eq_false_iff_ne.mpr c2
  have c2b1 := bne_iff_ne.mpr c2
  by_cases c3 : a0 = 237
  ·rw [if_pos c3] at H
   have c3b0 := beq_iff_eq.mpr c3
   have c3b1 := bne_eq_false_iff_eq.mpr c3
   clear c3
   simp only [Option.some.injEq, Prod.mk.injEq] at H
   obtain ⟨rfl, rfl⟩ := H
   go_enter Tryz.func129, Tryz.ntmps129
   go_wp2
   go_ret2
   exact ⟨rfl, by repeat (first | exact Drawn0.refl _ | apply Drawn0.step)⟩
  ·rw [if_neg c3] at H
   have c3b0 := beq_eq_false_iff_ne.mpr c3
   have c3b1 := bne_iff_ne.mpr c3
   by_cases c4 : a0 = 240
   ·rw [if_pos c4] at H
    have c4b0 := beq_iff_eq.mpr c4
    have c4b1 := bne_eq_false_iff_eq.mpr c4
    clear c4
    simp only [Option.some.injEq, Prod.mk.injEq] at H
    obtain ⟨rfl, rfl⟩ := H
    go_enter Tryz.func129, Tryz.ntmps129
    go_wp2
    go_ret2
    exact ⟨rfl, by repeat (first | exact Drawn0.refl _ | apply Drawn0.step)⟩
   ·rw [if_neg c4] at H
    have c4b0 := beq_eq_false_iff_ne.mpr c4
    have c4b1 := bne_iff_ne.mpr c4
    by_cases c5 : a0 = 244
    ·rw [if_pos c5] at H
     have c5b0 := beq_iff_eq.mpr c5
     have c5b1 := bne_eq_false_iff_eq.mpr c5
     clear c5
     simp only [Option.some.injEq, Prod.mk.injEq] at H
     obtain ⟨rfl, rfl⟩ := H
     go_enter Tryz.func129, Tryz.ntmps129
     go_wp2
     go_ret2
     exact ⟨rfl, by repeat (first | exact Drawn0.refl _ | apply Drawn0.step)⟩
    ·rw [if_neg c5] at H
     have c5b0 := beq_eq_false_iff_ne.mpr c5
     have c5b1 := bne_iff_ne.mpr c5
     simp only [Option.some.injEq, Prod.mk.injEq] at H
     obtain ⟨rfl, rfl⟩ := H
     go_enter Tryz.func129, Tryz.ntmps129
     go_wp2
     go_ret2
     exact ⟨rfl, by repeat (first | exact Drawn0.refl _ | apply Drawn0.step)⟩
def impl_readPoint.l0 : Nat → List Int → Int → Int → Int → Int → Int → Option (Int × Int)
 | 0, _, _, _, _, _, _ => none
 | k + 1, x0, x4, x5, x6, x7, x8 => if x8 < x4 then (if x8 ≥ (x0.length : Int) then (some (65533, x8)) else (if 0 ≤ x8 then (if x8 < (x0.length : Int) then (if (rd x0 x8) < x6 then (some (65533, x8)) else (if (rd x0 x8) > x7 then (some (65533, x8)) else (impl_readPoint.l0 k x0 x4 (Go.bits .or .i64 (wrap64 (x5 * 64)) (wrap64 (Go.bits .and .u8 (rd x0 x8) 63))) 128 191 (wrap64 (x8 + 1))))) else (none)) else (none))) else (some (x5, x4))
def impl_readPoint.f (k : Nat) (l0 : List Int) : Option (Int × Int) := if 0 < (l0.length : Int) then ((impl_formOf.f k (rd l0 0)).bind fun bt102 => (if bt102.1 = 0 then (some (65533, 1)) else ((impl_boundsOf.f (rd l0 0)).bind fun bt105 => (impl_readPoint.l0 k l0 bt102.1 bt102.2 bt105.1 bt105.2 1)))) else (none)
theorem impl_readPoint.mono_l : ∀ k, (∀ y0 y1 y2 y3 y4 y5, LeO (impl_readPoint.l0 k y0 y1 y2 y3 y4 y5) (impl_readPoint.l0 (k + 1) y0 y1 y2 y3 y4 y5))
 | 0 => fun _ _ _ _ _ _ r h => by simp [impl_readPoint.l0] at h
 | k + 1 => by
  have ih0 := impl_readPoint.mono_l k
  ·intro y0 y1 y2 y3 y4 y5
   unfold impl_readPoint.l0
   repeat' (with_reducible first | exact ih0 _ _ _ _ _ _ | exact impl_formOf.mono _ _ | exact LeO.refl _ | exact LeO.none _ | refine LeO.ite ?_ ?_ | refine LeO.bind ?_ (fun _ => ?_))
theorem impl_readPoint.mono : ∀ a0 k, LeO (impl_readPoint.f k a0) (impl_readPoint.f (k + 1) a0) := by
 intro a0 k
 have ih0 := impl_readPoint.mono_l k
 unfold impl_readPoint.f
 repeat' (with_reducible first | exact ih0 _ _ _ _ _ _ | exact impl_formOf.mono _ _ | exact LeO.refl _ | exact LeO.none _ | refine LeO.ite ?_ ?_ | refine LeO.bind ?_ (fun _ => ?_))
theorem impl_readPoint.calls (k : Nat) (A0 : Option Addr) (c0 : Nat) (l0 : List Int) (r1 : Int) (r2 : Int) (w : World) (hr0 : Kd.C (Kd.int .u8) w A0 l0.length l0) (hc0 : l0.length ≤ c0) (h : impl_readPoint.f k l0 = some (r1, r2)) :
 Calls Tryz.prog 117 #[.slice A0 l0.length c0] w fun e w' => e = .returned (.tuple #[.int .i64 r1, .int .i64 r2]) ∧ Drawn0 w w' := by
 have HR0 := Ak hr0
 have HC0 := Ak hc0
 clear hr0 hc0
 have H : (if 0 < (l0.length : Int) then ((impl_formOf.f k (rd l0 0)).bind fun bt102 => (if bt102.1 = 0 then (some (65533, 1)) else ((impl_boundsOf.f (rd l0 0)).bind fun bt105 => (impl_readPoint.l0 k l0 bt102.1 bt102.2 bt105.1 bt105.2 1)))) else (none)) = some (r1, r2) := h
 clear h
 by_cases c2 : 0 < (l0.length : Int)
 ·rw [if_pos c2] at H
  have c2b0 := decide_eq_true c2
  have c2b1 : decide (0 < l0.length) = true := decide_eq_true (by omega)
  clear c2
  replace H := Ob H
  obtain ⟨⟨t102, t103⟩, A30, H⟩ := H
  dsimp only at H
  have A3 := Ak A30
  clear A30
  by_cases c4 : t102 = 0
  ·rw [if_pos c4] at H
   have c4b0 := beq_iff_eq.mpr c4
   have c4b1 := bne_eq_false_iff_eq.mpr c4
   clear c4
   simp only [Option.some.injEq, Prod.mk.injEq] at H
   obtain ⟨rfl, rfl⟩ := H
   have p101 : 0 ≤ (0 : Int) := (by omega)
   have q101 : 0 < (l0.length : Int) := of_decide_eq_true (by assumption)
   obtain ⟨ad101, e101, hx101_0⟩ := Kd.at_int HR0.out 0 p101 q101
   cases e101
   have qi101 : (0 < l0.length) = True := eq_true (by omega)
   (try rw [show ((0 : Int)).toNat = 0 from rfl] at hx101_0)
   (try rw [Addr.add_zero'] at hx101_0)
   replace p101 := eq_true p101
   replace q101 := eq_true q101
   go_enter Tryz.func117, Tryz.ntmps117
   go_wp2_with (first | (go_at_call 128; (with_reducible refine (impl_formOf.calls k (rd l0 0) t102 t103 _ A3.out).mono ?_); rintro e w' ⟨rfl, ⟨nd, rfl⟩⟩))
   go_ret2
   exact ⟨rfl, by repeat (first | exact Drawn0.refl _ | apply Drawn0.step)⟩
  ·rw [if_neg c4] at H
   have c4b0 := beq_eq_false_iff_ne.mpr c4
   have c4b1 := bne_iff_ne.mpr c4
   replace H := Ob H
   obtain ⟨⟨t105, t106⟩, A50, H⟩ := H
   dsimp only at H
   have A5 := Ak A50
   clear A50
   have H' := Ak H
   clear H
   have p101 : 0 ≤ (0 : Int) := (by omega)
   have q101 : 0 < (l0.length : Int) := of_decide_eq_true (by assumption)
   obtain ⟨ad101, e101, hx101_0⟩ := Kd.at_int HR0.out 0 p101 q101
   cases e101
   have qi101 : (0 < l0.length) = True := eq_true (by omega)
   (try rw [show ((0 : Int)).toNat = 0 from rfl] at hx101_0)
   (try rw [Addr.add_zero'] at hx101_0)
   replace p101 := eq_true p101
   replace q101 := eq_true q101
   go_enter Tryz.func117, Tryz.ntmps117
   go_wp2_with (first | (go_at_call 128; (with_reducible refine (impl_formOf.calls k (rd l0 0) t102 t103 _ A3.out).mono ?_); rintro e w' ⟨rfl, ⟨nd, rfl⟩⟩; have p104 : 0 ≤ (0 : Int) := (by omega); have q104 : 0 < (l0.length : Int) := of_decide_eq_true (by assumption); obtain ⟨ad104, e104, hx104_0⟩ := Kd.at_int HR0.out 0 p104 q104; obtain rfl : ad101 = ad104 := (by injection e104); have qi104 : (0 < l0.length) = True := eq_true (by omega); (try rw [show ((0 : Int)).toNat = 0 from rfl] at hx104_0); (try rw [Addr.add_zero'] at hx104_0); replace p104 := eq_true p104; replace q104 := eq_true q104) | (go_at_call 129; (with_reducible refine (impl_boundsOf.calls (rd l0 0) t105 t106 _ A5.out).mono ?_); rintro e w' ⟨rfl, ⟨nd, rfl⟩⟩))
   go_loopg [5, 6, 7, 8] k (fun kq v5 v6 v7 v8 w' => ∃ (x5_1 : Int) (x6_1 : Int) (x7_1 : Int) (x8_1 : Int), v5 = .int .i64 x5_1 ∧ v6 = .int .u8 x6_1 ∧ v7 = .int .u8 x7_1 ∧ v8 = .int .i64 x8_1 ∧ Aside0 (impl_readPoint.l0 kq l0 t102 x5_1 x6_1 x7_1 x8_1 = some (r1, r2)) ∧ Aside0 (kq ≤ k) ∧ Drawn0 w w')
   case atStart => exact ⟨(t103), (t105), (t106), (1), rfl, rfl, rfl, rfl, H', ⟨Nat.le_refl _⟩, by repeat (first | exact Drawn0.refl _ | apply Drawn0.step)⟩
   case round =>
    clear H'
    obtain ⟨x5_1, x6_1, x7_1, x8_1, rfl, rfl, rfl, rfl, HA, HK1, ⟨m1, rfl⟩⟩ := hrel
    cases gk with
    | zero => exact absurd HA.out (by simp [impl_readPoint.l0])
    | succ k1 =>
     have H := HA.out
     clear HA
     simp only [impl_readPoint.l0] at H
     by_cases c6 : x8_1 < t102
     ·rw [if_pos c6] at H
      have c6b0 := decide_eq_true c6
      clear c6
      by_cases c7 : x8_1 ≥ (l0.length : Int)
      ·rw [if_pos c7] at H
       have c7b0 : decide ((l0.length : Int) ≤ x8_1) = true := decide_eq_true c7
       clear c7
       simp only [Option.some.injEq, Prod.mk.injEq] at H
       obtain ⟨rfl, rfl⟩ := H
       go_wp2
       go_ret2
       exact ⟨rfl, by repeat (first | exact Drawn0.refl _ | apply Drawn0.step)⟩
      ·rw [if_neg c7] at H
       have c7b0 : decide ((l0.length : Int) ≤ x8_1) = false := decide_eq_false c7
       clear c7
       by_cases c8 : 0 ≤ x8_1
       ·rw [if_pos c8] at H
        have c8b0 := decide_eq_true c8
        clear c8
        by_cases c9 : x8_1 < (l0.length : Int)
        ·rw [if_pos c9] at H
         have c9b0 := decide_eq_true c9
         clear c9
         by_cases c10 : (rd l0 x8_1) < x6_1
         ·rw [if_pos c10] at H
          have c10b0 := decide_eq_true c10
          clear c10
          simp only [Option.some.injEq, Prod.mk.injEq] at H
          obtain ⟨rfl, rfl⟩ := H
          have p107 : 0 ≤ (x8_1 : Int) := of_decide_eq_true (by assumption)
          have q107 : x8_1 < (l0.length : Int) := of_decide_eq_true (by assumption)
          obtain ⟨ad107, e107, hx107_0⟩ := Kd.at_int HR0.out x8_1 p107 q107
          obtain rfl : ad101 = ad107 := (by injection e107)
          replace p107 := eq_true p107
          replace q107 := eq_true q107
          go_wp2
          go_ret2
          exact ⟨rfl, by repeat (first | exact Drawn0.refl _ | apply Drawn0.step)⟩
         ·rw [if_neg c10] at H
          have c10b0 := decide_eq_false c10
          clear c10
          by_cases c11 : (rd l0 x8_1) > x7_1
          ·rw [if_pos c11] at H
           have c11b0 : decide (x7_1 < (rd l0 x8_1)) = true := decide_eq_true c11
           clear c11
           simp only [Option.some.injEq, Prod.mk.injEq] at H
           obtain ⟨rfl, rfl⟩ := H
           have p107 : 0 ≤ (x8_1 : Int) := of_decide_eq_true (by assumption)
           have q107 : x8_1 < (l0.length : Int) := of_decide_eq_true (by assumption)
           obtain ⟨ad107, e107, hx107_0⟩ := Kd.at_int HR0.out x8_1 p107 q107
           obtain rfl : ad101 = ad107 := (by injection e107)
           replace p107 := eq_true p107
           replace q107 := eq_true q107
           have p108 : 0 ≤ (x8_1 : Int) := of_decide_eq_true (by assumption)
           have q108 : x8_1 < (l0.length : Int) := of_decide_eq_true (by assumption)
           obtain ⟨ad108, e108, hx108_0⟩ := Kd.at_int HR0.out x8_1 p108 q108
           obtain rfl : ad101 = ad108 := (by injection e108)
           replace p108 := eq_true p108
           replace q108 := eq_true q108
           go_wp2
           go_ret2
           exact ⟨rfl, by repeat (first | exact Drawn0.refl _ | apply Drawn0.step)⟩
          ·rw [if_neg c11] at H
           have c11b0 : decide (x7_1 < (rd l0 x8_1)) = false := decide_eq_false c11
           clear c11
           have H' := Ak H
           clear H
           have p107 : 0 ≤ (x8_1 : Int) := of_decide_eq_true (by assumption)
           have q107 : x8_1 < (l0.length : Int) := of_decide_eq_true (by assumption)
           obtain ⟨ad107, e107, hx107_0⟩ := Kd.at_int HR0.out x8_1 p107 q107
           obtain rfl : ad101 = ad107 := (by injection e107)
           replace p107 := eq_true p107
           replace q107 := eq_true q107
           have p108 : 0 ≤ (x8_1 : Int) := of_decide_eq_true (by assumption)
           have q108 : x8_1 < (l0.length : Int) := of_decide_eq_true (by assumption)
           obtain ⟨ad108, e108, hx108_0⟩ := Kd.at_int HR0.out x8_1 p108 q108
           obtain rfl : ad101 = ad108 := (by injection e108)
           replace p108 := eq_true p108
           replace q108 := eq_true q108
           have p109 : 0 ≤ (x8_1 : Int) := of_decide_eq_true (by assumption)
           have q109 : x8_1 < (l0.length : Int) := of_decide_eq_true (by assumption)
           obtain ⟨ad109, e109, hx109_0⟩ := Kd.at_int HR0.out x8_1 p109 q109
           obtain rfl : ad101 = ad109 := (by injection e109)
           replace p109 := eq_true p109
           replace q109 := eq_true q109
           go_wp2
           go_roundg k1
           case measure => have := HK1.out; omega
           case rel => exact ⟨(Go.bits .or .i64 (wrap64 (x5_1 * 64)) (wrap64 (Go.bits .and .u8 (rd l0 x8_1) 63))), (128), (191), (wrap64 (x8_1 + 1)), rfl, rfl, rfl, rfl, H', ⟨by have := HK1.out; omega⟩, by repeat (first | exact Drawn0.refl _ | apply Drawn0.step)⟩
        ·rw [if_neg c9] at H
         exact absurd H (by simp)
       ·rw [if_neg c8] at H
        exact absurd H (by simp)
     ·rw [if_neg c6] at H
      have c6b0 := decide_eq_false c6
      clear c6
      simp only [Option.some.injEq, Prod.mk.injEq] at H
      obtain ⟨rfl, rfl⟩ := H
      go_wp2
      go_ret2
      exact ⟨rfl, by repeat (first | exact Drawn0.refl _ | apply Drawn0.step)⟩
 ·rw [if_neg c2] at H
  exact absurd H (by simp)
def impl_UtfRead.l0 : Nat → List Int → List Int → Option (List Int)
 | 0, _, _ => none
 | k + 1, x0, x3 => if (x0.length : Int) > 0 then ((impl_readPoint.f k x0).bind fun bt107 => (if x3.length < 17592186044416 then (if 0 ≤ bt107.2 then (if bt107.2 ≤ (x0.length : Int) then (impl_UtfRead.l0 k (x0.drop (bt107.2 : Int).toNat) (x3 ++ [bt107.1])) else (none)) else (none)) else (none))) else (some x3)
def impl_UtfRead.f (k : Nat) (l0 : List Int) : Option (List Int) := if (l0.length : Int) > 3000 then (some ([] : List Int)) else ((bytes_TrimPrefix.f l0 (([239, 187, 191] : List Int))).bind fun t104 => (impl_UtfRead.l0 k t104 ([] : List Int)))
theorem impl_UtfRead.mono_l : ∀ k, (∀ y0 y1, LeO (impl_UtfRead.l0 k y0 y1) (impl_UtfRead.l0 (k + 1) y0 y1))
 | 0 => fun _ _ r h => by simp [impl_UtfRead.l0] at h
 | k + 1 => by
  have ih0 := impl_UtfRead.mono_l k
  ·intro y0 y1
   unfold impl_UtfRead.l0
   repeat' (with_reducible first | exact ih0 _ _ | exact impl_readPoint.mono _ _ | exact LeO.refl _ | exact LeO.none _ | refine LeO.ite ?_ ?_ | refine LeO.bind ?_ (fun _ => ?_))
theorem impl_UtfRead.mono : ∀ a0 k, LeO (impl_UtfRead.f k a0) (impl_UtfRead.f (k + 1) a0) := by
 intro a0 k
 have ih0 := impl_UtfRead.mono_l k
 unfold impl_UtfRead.f
 repeat' (with_reducible first | exact ih0 _ _ | exact impl_readPoint.mono _ _ | exact LeO.refl _ | exact LeO.none _ | refine LeO.ite ?_ ?_ | refine LeO.bind ?_ (fun _ => ?_))
theorem impl_UtfRead.calls (k : Nat) (A0 : Option Addr) (c0 : Nat) (l0 : List Int) (r : List Int) (w : World) (hr0 : Kd.C (Kd.int .u8) w A0 l0.length l0) (hc0 : l0.length ≤ c0) (h : impl_UtfRead.f k l0 = some r) :
 Calls Tryz.prog 109 #[.slice A0 l0.length c0] w fun e w' => ∃ v0_ : Value, e = .returned (v0_) ∧ Kd.R (Kd.int .i64) 3 w' w.heap.size (fun _ => True) v0_ r ∧ Below w.heap.size w w' := by
 have HR0 := Ak hr0
 have HC0 := Ak hc0
 clear hr0 hc0
 have HB := Ak (Below.refl w.heap.size w)
 have H : (if (l0.length : Int) > 3000 then (some ([] : List Int)) else ((bytes_TrimPrefix.f l0 (([239, 187, 191] : List Int))).bind fun t104 => (impl_UtfRead.l0 k t104 ([] : List Int)))) = some r := h
 clear h
 by_cases c2 : (l0.length : Int) > 3000
 ·rw [if_pos c2] at H
  have c2b0 : decide (3000 < (l0.length : Int)) = true := decide_eq_true c2
  have c2b1 : decide (3000 < l0.length) = true := decide_eq_true (by omega)
  clear c2
  obtain rfl := Oi H
  go_enter Tryz.func109, Tryz.ntmps109
  go_wp2
  go_ret
  exact ⟨_, rfl, by first | exact Kd.R_nil _ _ _ _ _ | exact Kd.N_nil _ _ _ _ _ | exact Kd.V_nil _ _ _ _ _ | exact Kd.Q_nil _ _ _ _ _ | exact Kd.S_nil _ _ _ _ _, by repeat (first | exact HB.out | apply below_alloc | apply pw_below_drewN | apply below_drew1)⟩
 ·rw [if_neg c2] at H
  have c2b0 : decide (3000 < (l0.length : Int)) = false := decide_eq_false c2
  have c2b1 : decide (3000 < l0.length) = false := decide_eq_false (by omega)
  clear c2
  obtain ⟨y101, hy101⟩ : ∃ y_ : List Int, y_ = (([239, 187, 191] : List Int)) := ⟨_, rfl⟩
  replace H : ((bytes_TrimPrefix.f l0 y101).bind fun t104 => (impl_UtfRead.l0 k t104 ([] : List Int))) = some r := by rw [hy101]; exact H
  have Ny101 := Ak hy101
  clear hy101
  replace H := Ob H
  obtain ⟨t104, A30, H⟩ := H
  replace H : (impl_UtfRead.l0 k t104 ([] : List Int)) = some r := H
  have A3 := Ak A30
  clear A30
  have H' := Ak H
  clear H
  go_enter Tryz.func109, Tryz.ntmps109
  go_wp2_with (first | ((with_reducible refine gate_dst (N := 10) rfl ?_); refine Kd.R_lit (Kd.int .u8) _ 5 ?hg (N := 10) ?hd (xs := ([239, 187, 191] : List Int)) (inner := [.int .u8 239, .int .u8 187, .int .u8 191]) (ok := fun _ => True) (okp := fun _ => True) ?hr ?hp (fun _ hk => hk) trivial (Below.refl _ _) (Nat.le_refl _) (by simp) ?_; (case hd => rfl); (case hg => rfl); (case hr => first | (go_simp; done) | (go_simp; rfl)); (case hp => exact (Reps.one (show Kd.M (Kd.int .u8) _ _ _ 239 [.int .u8 239] from rfl) (Reps.one (show Kd.M (Kd.int .u8) _ _ _ 187 [.int .u8 187] from rfl) (Reps.one (show Kd.M (Kd.int .u8) _ _ _ 191 [.int .u8 191] from rfl) (Reps.none _ _))))); intro v102 w4 ho5 hb hg_ hnew_; clear hg_ hnew_; (first | rw [← Ny101.out] at ho5 | (simp only [Int.reduceToNat] at ho5; rw [← Ny101.out] at ho5)); have n0_ := Ak (Kd.R_lower ho5 (below_size (by repeat (first | exact HB.out | apply below_alloc | apply pw_below_drewN | apply below_drew1)))); have n1_ := Ak (below_step (by repeat (first | exact HB.out | apply below_alloc | apply pw_below_drewN | apply below_drew1)) hb); clear HB; have HO103 := n0_; have HB := n1_; clear n0_ n1_; clear hb ho5; obtain ⟨Ao6, co6, eo6⟩ := Kd.R_slice HO103.out; subst eo6) | (go_at_call 116; (with_reducible refine (bytes_TrimPrefix.calls (fun k_ => k_ < w.heap.size) _ _ l0 _ _ y101 t104 _ ?side1 ?side2 ?side3 A3.out).mono ?_); (case side1 => exact Kd.V_mk HC0.out (Kd.F_below (Kd.C_F (Kd.heap_int .u8) HR0.out) (by repeat (first | exact HB.out | apply below_alloc | apply pw_below_drewN | apply below_drew1)))); (case side2 => repeat (first | exact (Kd.R_reads' HO103.out).2.2 | (with_reducible refine Kd.C_alloc ?_ _) | (with_reducible refine Kd.C_drewN ?_ _) | (with_reducible refine Kd.C_drew ?_))); (case side3 => exact (Kd.R_reads' HO103.out).2.1); rintro e w7 ⟨v105, rfl, ho0, hb⟩; have n0_ := Ak (Kd.R_below HO103.out hb); have n1_ := Ak (Kd.V_lower (Kd.V_mono (ok' := fun k_ => some k_ ≠ (.slice Ao6 y101.length co6 : Value).ownBlock) ho0 (fun k_ hk_ => Or.elim hk_ (fun hs_ => fun e_ => Nat.not_le.2 hs_ (Kd.R_base HO103.out k_ e_.symm)) (fun hn_ => (Kd.fresh' (Kd.R_lt HO103.out) k_ hn_)))) (below_size (by repeat (first | exact HB.out | apply below_alloc | apply pw_below_drewN | apply below_drew1)))); have n2_ := Ak (below_step (by repeat (first | exact HB.out | apply below_alloc | apply pw_below_drewN | apply below_drew1)) hb); clear HO103; clear HB; have HO103 := n0_; have HO106 := n1_; have HB := n2_; clear n0_ n1_ n2_; (try clear hb); (try clear hb2); (try clear hk); (try clear hi); (try clear ho0)))
  go_loopg [0, 3] k (fun kq v0 v3 w' => ∃ (x0_1 : List Int) (x3_1 : List Int), Aside0 (impl_UtfRead.l0 kq x0_1 x3_1 = some r) ∧ Aside0 (kq ≤ k) ∧ Aside0 (Kd.V (Kd.int .u8) 5 w' w.heap.size (fun k_ => some k_ ≠ (v3 : Value).ownBlock) v0 x0_1) ∧ Aside0 (Kd.R (Kd.int .i64) 3 w' w.heap.size (fun _ => True) v3 x3_1) ∧ Aside0 (Below w.heap.size w w'))
  case atStart => exact ⟨(t104), (([] : List Int)), H', ⟨Nat.le_refl _⟩, ⟨by (with_reducible repeat (first | apply Kd.V_alloc | apply Kd.V_drewN | apply Kd.V_drew)); exact Kd.V_mono HO106.out (fun _ hk => (by simp [Value.ownBlock]))⟩, ⟨by first | exact Kd.R_nil _ _ _ _ _ | exact Kd.N_nil _ _ _ _ _ | exact Kd.V_nil _ _ _ _ _ | exact Kd.Q_nil _ _ _ _ _ | exact Kd.S_nil _ _ _ _ _⟩, ⟨by repeat (first | exact HB.out | apply below_alloc | apply pw_below_drewN | apply below_drew1)⟩⟩
  case round =>
   clear H'
   obtain ⟨x0_1, x3_1, HA, HK1, HO_0, HO_3, HB⟩ := hrel
   cases gk with
   | zero => exact absurd HA.out (by simp [impl_UtfRead.l0])
   | succ k1 =>
    have H := HA.out
    clear HA
    simp only [impl_UtfRead.l0] at H
    by_cases c8 : (x0_1.length : Int) > 0
    ·rw [if_pos c8] at H
     have c8b0 : decide (0 < (x0_1.length : Int)) = true := decide_eq_true c8
     have c8b1 : decide (0 < x0_1.length) = true := decide_eq_true (by omega)
     clear c8
     replace H := Ob H
     obtain ⟨⟨t107, t108⟩, A90, H⟩ := H
     replace H : (if x3_1.length < 17592186044416 then (if 0 ≤ t108 then (if t108 ≤ (x0_1.length : Int) then (impl_UtfRead.l0 k1 (x0_1.drop (t108 : Int).toNat) (x3_1 ++ [t107])) else (none)) else (none)) else (none)) = some r := H
     have A9 := Ak A90
     clear A90
     by_cases c10 : x3_1.length < 17592186044416
     ·rw [if_pos c10] at H
      have LMc10 := Ak c10
      clear c10
      obtain ⟨y109, hy109⟩ : ∃ y_ : List Int, y_ = (x3_1 ++ [t107]) := ⟨_, rfl⟩
      replace H : (if 0 ≤ t108 then (if t108 ≤ (x0_1.length : Int) then (impl_UtfRead.l0 k1 (x0_1.drop (t108 : Int).toNat) y109) else (none)) else (none)) = some r := by rw [hy109]; exact H
      have Ny109 := Ak hy109
      clear hy109
      by_cases c11 : 0 ≤ t108
      ·rw [if_pos c11] at H
       have c11b0 := eq_true c11
       have c11b1 := decide_eq_true c11
       clear c11
       by_cases c12 : t108 ≤ (x0_1.length : Int)
       ·rw [if_pos c12] at H
        have c12b0 := eq_true c12
        have c12b1 := decide_eq_true c12
        clear c12
        obtain ⟨y112, hy112⟩ : ∃ y_ : List Int, y_ = (x0_1.drop (t108 : Int).toNat) := ⟨_, rfl⟩
        replace H : (impl_UtfRead.l0 k1 y112 y109) = some r := by rw [hy112]; exact H
        have Ny112 := Ak hy112
        clear hy112
        have H' := Ak H
        clear H
        obtain ⟨Ao13, co13, eo13⟩ := Kd.V_slice HO_0.out
        subst eo13
        go_wp2_with (first | (go_at_call 117; (with_reducible refine (impl_readPoint.calls k1 _ _ x0_1 t107 t108 _ ?side1 ?side2 A9.out).mono ?_); (case side1 => repeat (first | exact (Kd.V_reads' HO_0.out).2.2 | (with_reducible refine Kd.C_alloc ?_ _) | (with_reducible refine Kd.C_drewN ?_ _) | (with_reducible refine Kd.C_drew ?_))); (case side2 => exact (Kd.V_reads' HO_0.out).2.1); rintro e w' ⟨rfl, ⟨nd, rfl⟩⟩) | ((with_reducible refine gate_builtin (b := .append) (xs := #[.tmp 20, .tmp 22]) rfl ?_); at_builtin; refine Kd.R_append (Kd.int .i64) (w0 := w) w.heap.size rfl (.tmp 20) (.tmp 22) 39 3 (.int .i64 0) 8 rfl Tryz.underlying39 info3 rfl (by decide) (by omega) u3 x3_1 t107 [.int .i64 t107] (fun _ => True) (fun _ => False) rfl rfl ?aP (fun _ hk => hk.elim) ?aF ?aO ?aB ?aS ?aL ?_; (case aP => exact rfl); (case aB => exact (by repeat (first | exact HB.out | apply below_alloc | apply pw_below_drewN | apply below_drew1))); (case aF => exact (fun _ _ => trivial)); (case aO => exact HO_3.out); (case aS => exact (below_size (by repeat (first | exact HB.out | apply below_alloc | apply pw_below_drewN | apply below_drew1)))); (case aL => have := LMc10.out; omega); intro v110 w14 ho hb hg hat; rw [← Ny109.out] at ho; have n0_ := Ak (Kd.V_afterv (ok := (fun _ => True)) (by (with_reducible repeat (first | apply Kd.V_alloc | apply Kd.V_drewN | apply Kd.V_drew)); exact Kd.V_mono HO_0.out (fun _ hk => ⟨trivial, hk⟩)) hg hat); have n1_ := Ak (hb); have n2_ := Ak (ho); clear HO_0; clear HB; clear HO_3; have HO_0 := n0_; have HB := n1_; have HO111 := n2_; clear n0_ n1_ n2_; clear ho hb hg hat; have q15 : (t108 : Int) ≤ ((x0_1.length : Int) : Int) := of_decide_eq_true (by assumption); obtain ⟨i015, hi015, _, hsz15, _⟩ := info_parts info5; have hroom15 : x0_1.length ≤ co13 := (Kd.V_reads' HO_0.out).2.1; have hC15 : Kd.F (Kd.int .u8) _ _ Ao13 x0_1.length x0_1 := (Kd.V_at (base := w.heap.size) HO_0.out).2.2; have q015 : (0 : Int) ≤ (t108 : Int) := of_decide_eq_true (by assumption); have hcut15 := cut_from (P := Tryz.prog) 33 5 .i64 Tryz.underlying33 hi015 1 hsz15 Ao13 x0_1.length co13 t108 q015 q15; have hr15 := Kd.F_cut (m := (t108 : Int).toNat) (c := co13) hC15 (by omega) hroom15; obtain ⟨A15, hA15⟩ : ∃ A1, A1 = (if co13 = (t108 : Int).toNat then Ao13 else (Ao13 : Option Addr).map (·.add ((t108 : Int).toNat * 1))) := ⟨_, rfl⟩; obtain ⟨c15, hc15⟩ : ∃ c1, c1 = co13 - (t108 : Int).toNat := ⟨_, rfl⟩; have hy15 : y112.length = x0_1.length - (t108 : Int).toNat := (by rw [Ny112.out, List.length_drop] <;> omega); rw [show (x0_1).drop (t108 : Int).toNat = y112 from Ny112.out.symm] at hr15; replace hr15 : Kd.F (Kd.int .u8) _ _ A15 y112.length y112 := (by rw [hA15]; exact hr15); rw [← hy15, ← hA15, ← hc15] at hcut15; have HO116 := Ak (show Kd.V (Kd.int .u8) 5 _ w.heap.size _ (.slice A15 y112.length c15) y112 from Kd.V_mk (by rw [hy15, hc15]; exact Nat.sub_le_sub_right hroom15 _) hr15); have HC116 := Ak (show y112.length ≤ c15 from by rw [hy15, hc15]; exact Nat.sub_le_sub_right hroom15 _); clear hr15 hC15 hroom15 hi015 hsz15 hc15; have KY15 := Ak hy15; have KA15 := Ak hA15; clear hy15 hA15; replace q15 := eq_true q15))
        go_roundg k1
        case measure => have := HK1.out; omega
        case rel => exact ⟨(y112), (y109), H', ⟨by have := HK1.out; omega⟩, ⟨by (with_reducible repeat (first | apply Kd.V_alloc | apply Kd.V_drewN | apply Kd.V_drew)); exact Kd.V_mono HO116.out (fun _ hk => hk.2)⟩, ⟨by (with_reducible repeat (first | apply Kd.R_alloc | apply Kd.R_drewN | apply Kd.R_drew)); exact HO111.out⟩, ⟨by repeat (first | exact HB.out | apply below_alloc | apply pw_below_drewN | apply below_drew1)⟩⟩
       ·rw [if_neg c12] at H
        exact absurd H (by simp)
      ·rw [if_neg c11] at H
       exact absurd H (by simp)
     ·rw [if_neg c10] at H
      exact absurd H (by simp)
    ·rw [if_neg c8] at H
     have c8b0 : decide (0 < (x0_1.length : Int)) = false := decide_eq_false c8
     have c8b1 : decide (0 < x0_1.length) = false := decide_eq_false (by omega)
     clear c8
     obtain rfl := Oi H
     obtain ⟨Ao16, co16, eo16⟩ := Kd.V_slice HO_0.out
     subst eo16
     go_wp2
     go_ret
     exact ⟨_, rfl, by (with_reducible repeat (first | apply Kd.R_alloc | apply Kd.R_drewN | apply Kd.R_drew)); exact HO_3.out, by repeat (first | exact HB.out | apply below_alloc | apply pw_below_drewN | apply below_drew1)⟩
def impl_UtfOk.f (k : Nat) (l0 : List Int) : Option (Bool) := if (l0.length : Int) ≤ 3000 then ((impl_UtfRead.f k l0).bind fun t101 => ((impl_PointsPut.f k t101).bind fun t104 => ((bytes_Equal.f t104 l0).bind fun t107 => (some t107)))) else (some false)
theorem impl_UtfOk.mono : ∀ a0 k, LeO (impl_UtfOk.f k a0) (impl_UtfOk.f (k + 1) a0) := by
 intro a0 k
 unfold impl_UtfOk.f
 repeat' (with_reducible first | exact impl_PointsPut.mono _ _ | exact impl_UtfRead.mono _ _ | exact LeO.refl _ | exact LeO.none _ | refine LeO.ite ?_ ?_ | refine LeO.bind ?_ (fun _ => ?_))
theorem impl_UtfOk.calls (k : Nat) (A0 : Option Addr) (c0 : Nat) (l0 : List Int) (r : Bool) (w : World) (hr0 : Kd.C (Kd.int .u8) w A0 l0.length l0) (hc0 : l0.length ≤ c0) (h : impl_UtfOk.f k l0 = some r) :
 Calls Tryz.prog 89 #[.slice A0 l0.length c0] w fun e w' => e = .returned (.bool r) ∧ Below w.heap.size w w' := by
 have HR0 := Ak hr0
 have HC0 := Ak hc0
 clear hr0 hc0
 have HB := Ak (Below.refl w.heap.size w)
 have H : (if (l0.length : Int) ≤ 3000 then ((impl_UtfRead.f k l0).bind fun t101 => ((impl_PointsPut.f k t101).bind fun t104 => ((bytes_Equal.f t104 l0).bind fun t107 => (some t107)))) else (some false)) = some r := h
 clear h
 by_cases c2 : (l0.length : Int) ≤ 3000
 ·rw [if_pos c2] at H
  have c2b0 := decide_eq_true c2
  have c2b1 : decide (l0.length ≤ 3000) = true := decide_eq_true (by omega)
  clear c2
  replace H := Ob H
  obtain ⟨t101, A30, H⟩ := H
  replace H : ((impl_PointsPut.f k t101).bind fun t104 => ((bytes_Equal.f t104 l0).bind fun t107 => (some t107))) = some r := H
  have A3 := Ak A30
  clear A30
  replace H := Ob H
  obtain ⟨t104, A40, H⟩ := H
  replace H : ((bytes_Equal.f t104 l0).bind fun t107 => (some t107)) = some r := H
  have A4 := Ak A40
  clear A40
  replace H := Ob H
  obtain ⟨t107, A50, H⟩ := H
  replace H : (some t107) = some r := H
  have A5 := Ak A50
  clear A50
  obtain rfl := Oi H
  go_enter Tryz.func89, Tryz.ntmps89
  go_wp2_with (first | (go_at_call 109; (with_reducible refine (impl_UtfRead.calls k _ _ l0 t101 _ ?side1 ?side2 A3.out).mono ?_); (case side1 => repeat (first | exact HR0.out | (with_reducible refine Kd.C_alloc ?_ _) | (with_reducible refine Kd.C_drewN ?_ _) | (with_reducible refine Kd.C_drew ?_))); (case side2 => exact HC0.out); rintro e w6 ⟨v102, rfl, ho0, hb⟩; replace HO103 := Ak (Kd.R_lower ho0 (below_size (by repeat (first | exact HB.out | apply below_alloc | apply pw_below_drewN | apply below_drew1)))); replace HB := Ak (below_step (by repeat (first | exact HB.out | apply below_alloc | apply pw_below_drewN | apply below_drew1)) hb); (try clear hb); (try clear ho0); obtain ⟨Ao7, co7, eo7⟩ := Kd.R_slice HO103.out; subst eo7) | (go_at_call 108; (with_reducible refine (impl_PointsPut.calls k _ _ t101 t104 _ ?side1 ?side2 A4.out).mono ?_); (case side1 => repeat (first | exact (Kd.R_reads' HO103.out).2.2 | (with_reducible refine Kd.C_alloc ?_ _) | (with_reducible refine Kd.C_drewN ?_ _) | (with_reducible refine Kd.C_drew ?_))); (case side2 => exact (Kd.R_reads' HO103.out).2.1); rintro e w8 ⟨v105, rfl, ho0, hb⟩; replace HO103 := Ak (Kd.R_below HO103.out hb); replace HO106 := Ak (Kd.R_lower ho0 (below_size (by repeat (first | exact HB.out | apply below_alloc | apply pw_below_drewN | apply below_drew1)))); replace HB := Ak (below_step (by repeat (first | exact HB.out | apply below_alloc | apply pw_below_drewN | apply below_drew1)) hb); (try clear hb); (try clear ho0); obtain ⟨Ao9, co9, eo9⟩ := Kd.R_slice HO106.out; subst eo9) | (go_at_call 107; (with_reducible refine (bytes_Equal.calls _ _ t104 _ _ l0 t107 _ ?side1 ?side2 ?side3 ?side4 A5.out).mono ?_); (case side1 => repeat (first | exact (Kd.R_reads' HO106.out).2.2 | (with_reducible refine Kd.C_alloc ?_ _) | (with_reducible refine Kd.C_drewN ?_ _) | (with_reducible refine Kd.C_drew ?_))); (case side2 => exact (Kd.R_reads' HO106.out).2.1); (case side3 => exact (Kd.C_below HR0.out HB.out)); (case side4 => exact HC0.out); rintro e w' ⟨rfl, ⟨nd, rfl⟩⟩))
  go_ret
  exact ⟨rfl, by repeat (first | exact HB.out | apply below_alloc | apply pw_below_drewN | apply below_drew1)⟩
 ·rw [if_neg c2] at H
  have c2b0 := decide_eq_false c2
  have c2b1 : decide (l0.length ≤ 3000) = false := decide_eq_false (by omega)
  clear c2
  obtain rfl := Oi H
  go_enter Tryz.func89, Tryz.ntmps89
  go_wp2
  go_ret
  exact ⟨rfl, by repeat (first | exact HB.out | apply below_alloc | apply pw_below_drewN | apply below_drew1)⟩
end Go.Proofs.YtlnmmcipioagaaaGreatDoor.X
