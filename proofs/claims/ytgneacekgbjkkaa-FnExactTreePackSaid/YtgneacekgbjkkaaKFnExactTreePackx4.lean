/- What the Go functions that FnExactTreePack reaches compute, and that their walks come to just that (written by a program of this project over the kit's print). Conditions: as each states. -/
import Derived.Shelf.Abstract
import Derived.Lib.SliceRun
import Derived.RegionTactic
import Derived.Deep.RegionHeld3
import Derived.Deep.RegionWith
import Derived.Test.YtgneacekgbjkkaaKFnExactTreePackx3
set_option maxHeartbeats 64000000
set_option maxRecDepth 100000
namespace Go.Proofs.Ytgneacekgbjkkaa.X
open Go.RowKit Go.Proofs.YtgneacekgbjkkaaW.PrintWords Go.Proofs.YtgneacekgbjkkaaW.PrintLast Go.Proofs.YtgneacekgbjkkaaW.PrintMore
attribute [local go_sem] max2_int min2_int max_two min_two max_three min_three max_four min_four
set_option linter.unusedVariables false
set_option linter.unusedSimpArgs false
theorem impl_Tree_isNode.quiet (g : Nat) (A : Option Addr) (c : Nat) (xs : List S45) (a1 : Int) (r : Bool) (w : World) (hb : w.cell? ⟨g, 0, none⟩ = some (.slice A xs.length c)) (h : impl_Tree_isNode.f xs a1 = some r) :
 Calls Try.prog 64 #[.pointer (some ⟨g, 0, none⟩), .int .i64 a1] w fun e w' => e = .returned (.bool r) ∧ Drawn0 w w' := by
 unfold impl_Tree_isNode.f at h
 replace h := Ob h
 obtain ⟨t, A3, h⟩ := h
 obtain rfl := Oi h
 clear h
 replace A3 := Ak A3
 go_enter Try.func64, Try.ntmps64
 go_wp2_with (first | (go_at_call 40; (with_reducible refine (impl_inRange.calls a1 0 (wrap64 ((xs.length : Int) - 1)) t _ A3.out).mono ?_); rintro e w' ⟨rfl, ⟨nd, rfl⟩⟩))
 go_ret
 exact ⟨rfl, by repeat (first | exact Drawn0.refl _ | apply Drawn0.step)⟩
theorem impl_Tree_isAbove.quiet (k g : Nat) (A : Option Addr) (c : Nat) (xs : List S45) (a1 a2 : Int) (r : Bool) (w : World) (hb : w.cell? ⟨g, 0, none⟩ = some (.slice A xs.length c)) (hC : Kd.C k45 w A xs.length xs) (h : impl_Tree_isAbove.f k xs a1 a2 = some r) :
 Calls Try.prog 87 #[.pointer (some ⟨g, 0, none⟩), .int .i64 a1, .int .i64 a2] w fun e w' => e = .returned (.bool r) ∧ Drawn0 w w' := by
 have HC := Ak hC
 have HA := Ak (show impl_Tree_isAbove.l0 k a1 a2 (xs.length : Int) 0 xs = some r from h)
 clear hC h
 go_enter Try.func87, Try.ntmps87
 go_wp2
 go_loopg [2, 12] k (fun kq v2 v12 w' => ∃ (x2 : Int) (x12 : Int), v2 = .int .i64 x2 ∧ v12 = .int .i64 x12 ∧ Aside0 (impl_Tree_isAbove.l0 kq a1 x2 (xs.length : Int) x12 xs = some r) ∧ Aside0 (kq ≤ k) ∧ Drawn0 w w')
 case atStart => exact ⟨a2, 0, rfl, rfl, HA, ⟨Nat.le_refl _⟩, by repeat (first | exact Drawn0.refl _ | apply Drawn0.step)⟩
 case round =>
  clear HA
  obtain ⟨x2, x12, rfl, rfl, HA, HK, ⟨m1, rfl⟩⟩ := hrel
  have hbq := fun n : Nat => (show (w.drewN n).cell? ⟨g, 0, none⟩ = some (.slice A xs.length c) from hb)
  cases gk with
  | zero => exact absurd HA.out (by simp [impl_Tree_isAbove.l0])
  | succ k1 =>
   have H := HA.out
   clear HA
   simp only [impl_Tree_isAbove.l0] at H
   by_cases c5 : x12 < (xs.length : Int)
   ·rw [if_pos c5] at H
    have c5b : decide (x12 < (xs.length : Int)) = true := decide_eq_true c5
    clear c5
    by_cases c6 : x2 = a1
    ·rw [if_pos c6] at H
     have c6b : (x2 == a1) = true := beq_iff_eq.mpr c6
     clear c6
     obtain rfl := Oi H
     clear H
     go_wp2
     go_ret
     exact ⟨rfl, by repeat (first | exact Drawn0.refl _ | apply Drawn0.step)⟩
    ·rw [if_neg c6] at H
     have c6b : (x2 == a1) = false := beq_eq_false_iff_ne.mpr c6
     clear c6
     replace H := Ob H
     obtain ⟨t, A7, H⟩ := H
     replace A7 := Ak A7
     cases t with
     | true =>
      rw [if_pos rfl] at H
      by_cases c9 : 0 ≤ x2
      ·rw [if_pos c9] at H
       by_cases c10 : x2 < (xs.length : Int)
       ·rw [if_pos c10] at H
        have H' := Ak H
        clear H
        obtain ⟨ad, A_2, c_2, A_5, c_5, e1, hx0, hx1, hx2, hx3, hx4, hx5, hl2, hi2, hl5, hi5⟩ := at_T45 HC.out x2 c9 c10
        subst e1
        clear hx0 hx1 hx2 hx3 hx5 hl2 hi2 hl5 hi5
        replace c9 := eq_true c9
        replace c10 := eq_true c10
        go_wp2_with (first | (go_at_call 64; (with_reducible refine (impl_Tree_isNode.quiet g _ c xs x2 true _ (hbq _) A7.out).mono ?_); rintro e w' ⟨rfl, ⟨nd, rfl⟩⟩))
        go_roundg k1
        case measure => have := HK.out; omega
        case rel => exact ⟨_, _, rfl, rfl, H', ⟨by have := HK.out; omega⟩, by repeat (first | exact Drawn0.refl _ | apply Drawn0.step)⟩
       ·rw [if_neg c10] at H; cases H
      ·rw [if_neg c9] at H; cases H
     | false =>
      rw [if_neg (by decide)] at H
      obtain rfl := Oi H
      clear H
      go_wp2_with (first | (go_at_call 64; (with_reducible refine (impl_Tree_isNode.quiet g _ c xs x2 false _ (hbq _) A7.out).mono ?_); rintro e w' ⟨rfl, ⟨nd, rfl⟩⟩))
      go_ret
      exact ⟨rfl, by repeat (first | exact Drawn0.refl _ | apply Drawn0.step)⟩
   ·rw [if_neg c5] at H
    have c5b : decide (x12 < (xs.length : Int)) = false := decide_eq_false c5
    clear c5
    replace H := Ob H
    obtain ⟨t, A7, H⟩ := H
    obtain rfl := Oi H
    clear H
    replace A7 := Ak A7
    go_wp2_with (first | (go_at_call 64; (with_reducible refine (impl_Tree_isNode.quiet g _ c xs x2 t _ (hbq _) A7.out).mono ?_); rintro e w' ⟨rfl, ⟨nd, rfl⟩⟩))
    go_ret
    exact ⟨rfl, by repeat (first | exact Drawn0.refl _ | apply Drawn0.step)⟩
mutual
def impl_Tree_linksOk.l0 : Nat → Int → List Int → List S45 → Option Bool
 | 0, _, _, _ => none
 | k + 1, i, s, xs => if i < (xs.length : Int) then (if 0 ≤ i then impl_Tree_linksOk.l1 k i 0 s xs else none) else impl_Tree_linksOk.l2 k 0 s xs
def impl_Tree_linksOk.l1 : Nat → Int → Int → List Int → List S45 → Option Bool
 | 0, _, _, _, _ => none
 | k + 1, i, j, s, xs => if j < ((rd_T45 xs i).f5.length : Int) then (if 0 ≤ j then ((impl_Tree_isNode.f xs (rd (rd_T45 xs i).f5 j)).bind fun t => if t = true then (if 0 ≤ rd (rd_T45 xs i).f5 j then (if rd (rd_T45 xs i).f5 j < (xs.length : Int) then (if (rd_T45 xs (rd (rd_T45 xs i).f5 j)).f4 = i then (if 0 < rd s (rd (rd_T45 xs i).f5 j) then some false else impl_Tree_linksOk.l1 k i (wrap64 (j + 1)) (s.set (rd (rd_T45 xs i).f5 j).toNat (wrap64 (rd s (rd (rd_T45 xs i).f5 j) + 1))) xs) else some false) else none) else none) else some false) else none) else impl_Tree_linksOk.l0 k (wrap64 (i + 1)) s xs
def impl_Tree_linksOk.l2 : Nat → Int → List Int → List S45 → Option Bool
 | 0, _, _, _ => none
 | k + 1, i, s, xs => if i < (xs.length : Int) then (if 0 ≤ i then (if (((rd_T45 xs i).f4 == -1) == decide (0 < rd s i)) = true then some false else (impl_Tree_isAbove.f k xs i (rd_T45 xs i).f4).bind fun t => if t = true then some false else impl_Tree_linksOk.l2 k (wrap64 (i + 1)) s xs) else none) else some true
end
def impl_Tree_linksOk.f (k : Nat) (xs : List S45) : Option Bool := if 0 < xs.length then (if xs.length ≤ 500 then impl_Tree_linksOk.l0 k 0 (List.replicate xs.length 0) xs else none) else none
theorem impl_Tree_linksOk.mono_l : ∀ k, (∀ y0 y1 y2, LeO (impl_Tree_linksOk.l0 k y0 y1 y2) (impl_Tree_linksOk.l0 (k + 1) y0 y1 y2)) ∧ (∀ y0 y1 y2 y3, LeO (impl_Tree_linksOk.l1 k y0 y1 y2 y3) (impl_Tree_linksOk.l1 (k + 1) y0 y1 y2 y3)) ∧ (∀ y0 y1 y2, LeO (impl_Tree_linksOk.l2 k y0 y1 y2) (impl_Tree_linksOk.l2 (k + 1) y0 y1 y2))
 | 0 => ⟨fun _ _ _ r h => by simp [impl_Tree_linksOk.l0] at h, fun _ _ _ _ r h => by simp [impl_Tree_linksOk.l1] at h, fun _ _ _ r h => by simp [impl_Tree_linksOk.l2] at h⟩
 | k + 1 => by
  obtain ⟨ih0, ih1, ih2⟩ := impl_Tree_linksOk.mono_l k
  refine ⟨?_, ?_, ?_⟩
  ·intro y0 y1 y2
   rw [impl_Tree_linksOk.l0, impl_Tree_linksOk.l0]
   exact LeO.ite (LeO.ite (ih1 _ _ _ _) (LeO.refl _)) (ih2 _ _ _)
  ·intro y0 y1 y2 y3
   rw [impl_Tree_linksOk.l1, impl_Tree_linksOk.l1]
   exact LeO.ite (LeO.ite (LeO.bind (LeO.refl _) (fun _ => LeO.ite (LeO.ite (LeO.ite (LeO.ite (LeO.ite (LeO.refl _) (ih1 _ _ _ _)) (LeO.refl _)) (LeO.refl _)) (LeO.refl _)) (LeO.refl _))) (LeO.refl _)) (ih0 _ _ _)
  ·intro y0 y1 y2
   rw [impl_Tree_linksOk.l2, impl_Tree_linksOk.l2]
   exact LeO.ite (LeO.ite (LeO.ite (LeO.refl _) (LeO.bind (impl_Tree_isAbove.mono _ _ _ _) (fun _ => LeO.ite (LeO.refl _) (ih2 _ _ _)))) (LeO.refl _)) (LeO.refl _)
theorem impl_Tree_linksOk.mono : ∀ a0 k, LeO (impl_Tree_linksOk.f k a0) (impl_Tree_linksOk.f (k + 1) a0) := fun a0 k => LeO.ite (LeO.ite ((impl_Tree_linksOk.mono_l k).1 _ _ _) (LeO.refl _)) (LeO.refl _)
structure LinksW (w W : World) (g gs n cap : Nat) (A : Option Addr) (c m : Nat) (s : List Int) : Prop where
 cell : W.cell? ⟨g, 0, none⟩ = some (.slice A m c)
 row : Kd.R (Kd.int .i64) 3 W w.heap.size (fun k => k = gs) (.slice (some ⟨gs, 0, none⟩) n cap) s
 low : Below w.heap.size w W
section
variable {w W W2 : World} {g gs n cap : Nat} {A : Option Addr} {c m : Nat} {s : List Int}
theorem LinksW.below (h : LinksW w W g gs n cap A c m s) (hb : Below W.heap.size W W2) : LinksW w W2 g gs n cap A c m s := ⟨pw_cell_below hb h.cell, Kd.R_below h.row hb, below_step h.low hb⟩
theorem LinksW.drewN (h : LinksW w W g gs n cap A c m s) (k : Nat) : LinksW w (W.drewN k) g gs n cap A c m s := ⟨h.cell, Kd.R_drewN h.row k, pw_below_drewN h.low k⟩
theorem LinksW.put (h : LinksW w W g gs n cap A c m s) (hg : g < w.heap.size) (i x : Int) : LinksW w (W.setCell ⟨gs, i.toNat, none⟩ (.int .i64 x)) g gs n cap A c m (s.set i.toNat x) := by
 have hgs : w.heap.size ≤ gs := Kd.R_base h.row gs rfl
 exact ⟨(cell_far (p := ⟨gs, i.toNat, none⟩) (show g ≠ gs by omega) _).trans h.cell, Kd.R_putn h.row i x, below_set h.low hgs⟩
theorem LinksW.far (h : LinksW w W g gs n cap A c m s) (hg : g < w.heap.size) {gb : Nat} (hb : w.heap.size ≤ gb) (hne : gb ≠ gs) (j : Nat) (u : Value) : LinksW w (W.setCell ⟨gb, j, none⟩ u) g gs n cap A c m s :=
 ⟨(cell_far (p := ⟨gb, j, none⟩) (show g ≠ gb by omega) _).trans h.cell, Kd.R_far (p := ⟨gb, j, none⟩) h.row (fun k hk => by show k ≠ gb; omega) u, below_set h.low hb⟩
theorem LinksW.fill (h : LinksW w W g gs n cap A c m s) (hg : g < w.heap.size) {gb : Nat} (hb : w.heap.size ≤ gb) (hne : gb ≠ gs) (x : S45) (v2 v5 : Value) : LinksW w (fillN W gb x v2 v5) g gs n cap A c m s :=
 (((((h.far hg hb hne 0 _).far hg hb hne 1 _).far hg hb hne 2 _).far hg hb hne 3 _).far hg hb hne 4 _).far hg hb hne 5 _
end
theorem impl_Tree_linksOk.calls (k : Nat) (g : Nat) (xs : List S45) (r : Bool) (w0 w : World) (hI : IsS29 w0 w g xs) (hB : Below w0.heap.size w0 w) (h : impl_Tree_linksOk.f k xs = some r) :
 Calls Try.prog 42 #[.pointer (some ⟨g, 0, none⟩)] w fun e w' => e = .returned (.bool r) ∧ IsS29 w0 w' g xs ∧ Below w0.heap.size w0 w' ∧ KeepBut w w' g none := by
 have HI := Ak hI
 have HB0 := Ak hB
 suffices hx : Calls Try.prog 42 #[.pointer (some ⟨g, 0, none⟩)] w fun e w' => e = .returned (.bool r) ∧ Below w.heap.size w w' by
  refine hx.mono ?_
  rintro e w' ⟨rfl, hb⟩
  exact ⟨rfl, IsS29.below hI hb, below_step hB hb, KeepBut.of_below hb g none⟩
 obtain ⟨A, c, hblk, hg, hC0⟩ := hI
 have hc0 := cellS29_0 hblk
 have HC := Ak (Kd.C_below hC0 hB)
 have HG := Ak (blk_lt hblk)
 clear hB hblk hg hC0
 unfold impl_Tree_linksOk.f at h
 by_cases hn0 : 0 < xs.length
 ·rw [if_pos hn0] at h
  by_cases hn1 : xs.length ≤ 500
  ·rw [if_pos hn1] at h
   have HA := Ak h
   have HN0 := Ak hn0
   have HN1 := Ak hn1
   clear h hn0 hn1
   go_enter Try.func42, Try.ntmps42
   go_wp2_with (first | ((with_reducible refine gate_dst (N := 15) rfl ?_); refine Kd.R_make (w0 := w) (Kd.int .i64) w.heap.size 3 rfl (N := 15) rfl 37 _ _ rfl (xs.length : Int) rfl rfl Try.underlying37 (.int .i64 0) 8 info3 rfl (by decide) (by omega) 0 (ok := fun _ => True) (okp := fun _ => True) rfl (fun _ hk => hk) trivial (by omega) (by have := HN1.out; omega) (Below.refl _ _) (Nat.le_refl _) ?_; intro vs w1 ho hb hg_ hnew_; clear hg_ hnew_; rw [Int.toNat_natCast] at ho; obtain ⟨gs, cap, ev, _, _, _⟩ := Kd.R_form ho (by have := HN0.out; rw [List.length_replicate]; exact this); rw [List.length_replicate] at ev; subst ev; have HL := Ak (show LinksW w w1 g gs xs.length cap A c xs.length (List.replicate xs.length 0) from ⟨pw_cell_below hb hc0, Kd.R_mono (Kd.R_tight rfl ho) (fun k_ hk => by simpa [Value.ownBlock] using hk), hb⟩); have hc1 := HL.out.cell; clear ho hb))
   go_loopg [21] k (fun kq v21 w' => ∃ (i : Int) (s : List Int), v21 = .int .i64 i ∧ Aside0 (impl_Tree_linksOk.l0 kq i s xs = some r) ∧ Aside0 (kq ≤ k) ∧ Aside0 (LinksW w w' g gs xs.length cap A c xs.length s))
   case atStart => exact ⟨0, _, rfl, HA, ⟨Nat.le_refl _⟩, HL⟩
   case round =>
    clear HA HL hc1 hc0
    obtain ⟨i, s, rfl, HA, HK, HL⟩ := hrel
    cases gk with
    | zero => exact absurd HA.out (by simp [impl_Tree_linksOk.l0])
    | succ k1 =>
     have H := HA.out
     clear HA
     simp only [impl_Tree_linksOk.l0] at H
     by_cases c1 : i < (xs.length : Int)
     ·rw [if_pos c1] at H
      by_cases c2 : 0 ≤ i
      ·rw [if_pos c2] at H
       have HA := Ak H
       clear H
       have c1b : decide (i < (xs.length : Int)) = true := decide_eq_true c1
       obtain ⟨ad, A_2, c_2, A_5, c_5, e1, hx0, hx1, hx2, hx3, hx4, hx5, hl2, hi2, hl5, hi5⟩ := at_T45 HC.out i c2 c1
       subst e1
       replace hx0 := pw_cell_below HL.out.low hx0
       replace hx1 := pw_cell_below HL.out.low hx1
       replace hx2 := pw_cell_below HL.out.low hx2
       replace hx3 := pw_cell_below HL.out.low hx3
       replace hx4 := pw_cell_below HL.out.low hx4
       replace hx5 := pw_cell_below HL.out.low hx5
       have HI5 := Ak hi5
       clear hl2 hi2 hl5 hi5
       replace c2 := eq_true c2
       replace c1 := eq_true c1
       go_upto_region 5 with (first | ((with_reducible refine gate_dst (N := 5) rfl ?_); refine box_event ?hg (N := 5) ?hd (cs := #[.int .i64 0, .string (⟨#[]⟩ : ByteArray), .slice none 0 0, .string (⟨#[]⟩ : ByteArray), .int .i64 0, .slice none 0 0]) (t := 45) ?hr ?_; (case hd => rfl); (case hg => rfl); (case hr => first | (go_simp; done) | (go_simp; rfl)); intro gb hg w2 hbox hb; have HNE := Ak (show gb ≠ gs by have := Kd.R_lt HL.out.row gs rfl; omega); have HL2 := Ak (HL.out.below hb); have HGB := Ak (show w.heap.size ≤ gb by rw [hg]; exact below_size HL.out.low); have HBX := Ak hbox; have hz0 := blk_cell hbox 0; have hz1 := blk_cell hbox 1; have hz2 := blk_cell hbox 2; have hz3 := blk_cell hbox 3; have hz4 := blk_cell hbox 4; have hz5 := blk_cell hbox 5; have hf := blk_frozen hbox; clear hbox hb hg HL))
       have HB6 := Ak (fillN_blk (rd_T45 xs i) (.slice A_2 (rd_T45 xs i).f2.length c_2) (.slice A_5 (rd_T45 xs i).f5.length c_5) HBX.out)
       have HL := Ak (HL2.out.fill HG.out HGB.out HNE.out (rd_T45 xs i) (.slice A_2 (rd_T45 xs i).f2.length c_2) (.slice A_5 (rd_T45 xs i).f5.length c_5))
       show Code.wp _ _ _ _ (fillN w2 gb (rd_T45 xs i) (.slice A_2 (rd_T45 xs i).f2.length c_2) (.slice A_5 (rd_T45 xs i).f5.length c_5))
       generalize fillN w2 gb (rd_T45 xs i) (.slice A_2 (rd_T45 xs i).f2.length c_2) (.slice A_5 (rd_T45 xs i).f5.length c_5) = w3 at HB6 HL ⊢
       clear hz0 hz1 hz2 hz3 hz4 hz5 hf HBX HL2 hx0 hx1 hx2 hx3 hx4 hx5 HNE HGB
       have hz5 := blk_cell HB6.out 5
       go_wp2
       go_loopg [29] k1 (fun kq v29 w' => ∃ (j : Int) (s : List Int), v29 = .int .i64 j ∧ Aside0 (impl_Tree_linksOk.l1 kq i j s xs = some r) ∧ Aside0 (kq ≤ k1) ∧ Aside0 (LinksW w w' g gs xs.length cap (some ad) c xs.length s))
       case atStart => exact ⟨0, _, rfl, HA, ⟨Nat.le_refl _⟩, HL⟩
       case round =>
        clear HA HL hz5 HB6
        obtain ⟨j, s, rfl, HA, HK2, HL⟩ := hrel
        cases gk with
        | zero => exact absurd HA.out (by simp [impl_Tree_linksOk.l1])
        | succ k2 =>
         have H := HA.out
         clear HA
         simp only [impl_Tree_linksOk.l1] at H
         by_cases c3 : j < ((rd_T45 xs i).f5.length : Int)
         ·rw [if_pos c3] at H
          by_cases c4 : 0 ≤ j
          ·rw [if_pos c4] at H
           obtain ⟨t, A1, H⟩ := Ob H
           replace A1 := Ak A1
           obtain ⟨ak, e2, hy0⟩ := Kd.at_int HI5.out j c4 c3
           subst e2
           replace hy0 := pw_cell_below HL.out.low hy0
           have hcg := HL.out.cell
           have c3b : decide (j < ((rd_T45 xs i).f5.length : Int)) = true := decide_eq_true c3
           replace c3 := eq_true c3
           replace c4 := eq_true c4
           obtain ⟨kid, hkid⟩ : ∃ q : Int, q = rd (rd_T45 xs i).f5 j := ⟨_, rfl⟩
           rw [← hkid] at hy0 H A1
           clear hkid
           cases t with
           | false =>
            rw [if_neg (by decide)] at H
            obtain rfl := Oi H
            clear H
            go_wp2_with (first | (go_at_call 64; (with_reducible refine (impl_Tree_isNode.quiet g _ c xs kid false _ hcg A1.out).mono ?_); rintro e w' ⟨rfl, ⟨nd, rfl⟩⟩))
            go_ret
            exact ⟨rfl, pw_below_drewN HL.out.low _⟩
           | true =>
            rw [if_pos rfl] at H
            by_cases c5 : 0 ≤ kid
            ·rw [if_pos c5] at H
             by_cases c6 : kid < (xs.length : Int)
             ·rw [if_pos c6] at H
              obtain ⟨ad', A_6, c_6, A_7, c_7, e3, hw0, hw1, hw2, hw3, hw4, hw5, hl6, hi6, hl7, hi7⟩ := at_T45 HC.out kid c5 c6
              injection e3 with e3
              subst e3
              replace hw4 := pw_cell_below HL.out.low hw4
              clear hw0 hw1 hw2 hw3 hw5 hl6 hi6 hl7 hi7
              have hs : wr.cell? ⟨gs, kid.toNat, none⟩ = some (.int .i64 (rd s kid)) := (Kd.R_celln 0 HL.out.row kid c5 c6).1
              have hsf : wr.frozen? ⟨gs, kid.toNat, none⟩ = false := (Kd.R_celln 0 HL.out.row kid c5 c6).2
              replace c5 := eq_true c5
              replace c6 := eq_true c6
              by_cases c7 : (rd_T45 xs kid).f4 = i
              ·rw [if_pos c7] at H
               have c7b : ((rd_T45 xs kid).f4 == i) = true := beq_iff_eq.mpr c7
               have c7c : ((rd_T45 xs kid).f4 != i) = false := bne_eq_false_iff_eq.mpr c7
               clear c7
               by_cases c8 : 0 < rd s kid
               ·rw [if_pos c8] at H
                obtain rfl := Oi H
                clear H
                have c8b : decide (0 < rd s kid) = true := decide_eq_true c8
                clear c8
                go_wp2_with (first | (go_at_call 64; (with_reducible refine (impl_Tree_isNode.quiet g _ c xs kid true _ hcg A1.out).mono ?_); rintro e w' ⟨rfl, ⟨nd, rfl⟩⟩))
                go_ret
                exact ⟨rfl, pw_below_drewN HL.out.low _⟩
               ·rw [if_neg c8] at H
                have HA := Ak H
                clear H
                have c8b : decide (0 < rd s kid) = false := decide_eq_false c8
                clear c8
                go_wp2_with (first | (go_at_call 64; (with_reducible refine (impl_Tree_isNode.quiet g _ c xs kid true _ hcg A1.out).mono ?_); rintro e w' ⟨rfl, ⟨nd, rfl⟩⟩))
                go_roundg k2
                case measure => have := HK.out; have := HK2.out; omega
                case rel => exact ⟨_, _, rfl, HA, ⟨by have := HK2.out; omega⟩, ⟨LinksW.put (LinksW.drewN HL.out _) HG.out kid _⟩⟩
              ·rw [if_neg c7] at H
               obtain rfl := Oi H
               clear H
               have c7b : ((rd_T45 xs kid).f4 == i) = false := beq_eq_false_iff_ne.mpr c7
               have c7c : ((rd_T45 xs kid).f4 != i) = true := bne_iff_ne.mpr c7
               clear c7
               go_wp2_with (first | (go_at_call 64; (with_reducible refine (impl_Tree_isNode.quiet g _ c xs kid true _ hcg A1.out).mono ?_); rintro e w' ⟨rfl, ⟨nd, rfl⟩⟩))
               go_ret
               exact ⟨rfl, pw_below_drewN HL.out.low _⟩
             ·rw [if_neg c6] at H; cases H
            ·rw [if_neg c5] at H; cases H
          ·rw [if_neg c4] at H; cases H
         ·rw [if_neg c3] at H
          have HA := Ak H
          clear H
          have c3b : decide (j < ((rd_T45 xs i).f5.length : Int)) = false := decide_eq_false c3
          clear c3
          go_wp2
          go_roundg k2
          case measure => have := HK.out; have := HK2.out; omega
          case rel => exact ⟨_, _, rfl, HA, ⟨by have := HK.out; have := HK2.out; omega⟩, HL⟩
      ·rw [if_neg c2] at H; cases H
     ·rw [if_neg c1] at H
      have HA := Ak H
      clear H
      have c1b : decide (i < (xs.length : Int)) = false := decide_eq_false c1
      clear c1
      have hcg := HL.out.cell
      go_wp2
      go_loopg [69] k1 (fun kq v69 w' => ∃ (i : Int), v69 = .int .i64 i ∧ Aside0 (impl_Tree_linksOk.l2 kq i s xs = some r) ∧ Aside0 (kq ≤ k1) ∧ Aside0 (LinksW w w' g gs xs.length cap A c xs.length s))
      case atStart => exact ⟨0, rfl, HA, ⟨Nat.le_refl _⟩, HL⟩
      case round =>
       clear HA HL hcg c1b
       obtain ⟨i, rfl, HA, HK2, HL⟩ := hrel
       cases gk with
       | zero => exact absurd HA.out (by simp [impl_Tree_linksOk.l2])
       | succ k2 =>
        have H := HA.out
        clear HA
        simp only [impl_Tree_linksOk.l2] at H
        by_cases c1 : i < (xs.length : Int)
        ·rw [if_pos c1] at H
         by_cases c2 : 0 ≤ i
         ·rw [if_pos c2] at H
          have c1b : decide (i < (xs.length : Int)) = true := decide_eq_true c1
          obtain ⟨ad, A_2, c_2, A_5, c_5, e1, hx0, hx1, hx2, hx3, hx4, hx5, hl2, hi2, hl5, hi5⟩ := at_T45 HC.out i c2 c1
          subst e1
          replace hx0 := pw_cell_below HL.out.low hx0
          replace hx1 := pw_cell_below HL.out.low hx1
          replace hx2 := pw_cell_below HL.out.low hx2
          replace hx3 := pw_cell_below HL.out.low hx3
          replace hx4 := pw_cell_below HL.out.low hx4
          replace hx5 := pw_cell_below HL.out.low hx5
          clear hl2 hi2 hl5 hi5
          have C1 := Ak c1
          have C2 := Ak c2
          replace c2 := eq_true c2
          replace c1 := eq_true c1
          go_upto_region 16 with (first | ((with_reducible refine gate_dst (N := 9) rfl ?_); refine box_event ?hg (N := 9) ?hd (cs := #[.int .i64 0, .string (⟨#[]⟩ : ByteArray), .slice none 0 0, .string (⟨#[]⟩ : ByteArray), .int .i64 0, .slice none 0 0]) (t := 45) ?hr ?_; (case hd => rfl); (case hg => rfl); (case hr => first | (go_simp; done) | (go_simp; rfl)); intro gb hg w2 hbox hb; have HNE := Ak (show gb ≠ gs by have := Kd.R_lt HL.out.row gs rfl; omega); have HL2 := Ak (HL.out.below hb); have HGB := Ak (show w.heap.size ≤ gb by rw [hg]; exact below_size HL.out.low); have HBX := Ak hbox; have hz0 := blk_cell hbox 0; have hz1 := blk_cell hbox 1; have hz2 := blk_cell hbox 2; have hz3 := blk_cell hbox 3; have hz4 := blk_cell hbox 4; have hz5 := blk_cell hbox 5; have hf := blk_frozen hbox; clear hbox hb hg HL))
          have HB6 := Ak (fillN_blk (rd_T45 xs i) (.slice A_2 (rd_T45 xs i).f2.length c_2) (.slice A_5 (rd_T45 xs i).f5.length c_5) HBX.out)
          have HL := Ak (HL2.out.fill HG.out HGB.out HNE.out (rd_T45 xs i) (.slice A_2 (rd_T45 xs i).f2.length c_2) (.slice A_5 (rd_T45 xs i).f5.length c_5))
          show Code.wp _ _ _ _ (fillN w2 gb (rd_T45 xs i) (.slice A_2 (rd_T45 xs i).f2.length c_2) (.slice A_5 (rd_T45 xs i).f5.length c_5))
          generalize fillN w2 gb (rd_T45 xs i) (.slice A_2 (rd_T45 xs i).f2.length c_2) (.slice A_5 (rd_T45 xs i).f5.length c_5) = w3 at HB6 HL ⊢
          clear hz0 hz1 hz2 hz3 hz4 hz5 hf HBX HL2 hx0 hx1 hx2 hx3 hx4 hx5 HNE HGB
          have hz4 := blk_cell HB6.out 4
          have hcg := HL.out.cell
          have hs : w3.cell? ⟨gs, i.toNat, none⟩ = some (.int .i64 (rd s i)) := (Kd.R_celln 0 HL.out.row i C2.out C1.out).1
          have hCn := Kd.C_below HC.out HL.out.low
          cases eP : ((rd_T45 xs i).f4 == -1) == decide (0 < rd s i) with
          | true =>
           rw [if_pos eP] at H
           obtain rfl := Oi H
           clear H
           have eQ : decide (((rd_T45 xs i).f4 == -1) = decide (0 < rd s i)) = true := by simpa using eP
           go_quiet (fail)
           try go_wp2
           go_ret
           exact ⟨rfl, pw_below_drewN HL.out.low _⟩
          | false =>
           rw [if_neg (by rw [eP]; decide)] at H
           obtain ⟨t, A1, H⟩ := Ob H
           replace A1 := Ak A1
           cases t with
           | true =>
            rw [if_pos rfl] at H
            obtain rfl := Oi H
            clear H
            have eQ : decide (((rd_T45 xs i).f4 == -1) = decide (0 < rd s i)) = false := by simpa using eP
            go_quiet ((go_at_call 87; (with_reducible refine (impl_Tree_isAbove.quiet k2 g _ c xs i (rd_T45 xs i).f4 true _ (cell_at rfl hcg) (Kd.C_at rfl hCn) A1.out).mono ?_); rintro e w' ⟨rfl, ⟨nd, rfl⟩⟩; (first | exact ⟨rfl, _, rfl⟩ | exact ⟨rfl, _, World.drewN_drewN _ _ _⟩ | exact ⟨rfl, _, Eq.trans (World.drewN_drewN _ _ _) (congrArg (World.drewN _) (Nat.add_assoc _ _ _))⟩)))
            try go_wp2
            go_ret
            exact ⟨rfl, pw_below_drewN HL.out.low _⟩
           | false =>
            rw [if_neg (by decide)] at H
            have HA := Ak H
            clear H
            have eQ : decide (((rd_T45 xs i).f4 == -1) = decide (0 < rd s i)) = false := by simpa using eP
            go_quiet ((go_at_call 87; (with_reducible refine (impl_Tree_isAbove.quiet k2 g _ c xs i (rd_T45 xs i).f4 false _ (cell_at rfl hcg) (Kd.C_at rfl hCn) A1.out).mono ?_); rintro e w' ⟨rfl, ⟨nd, rfl⟩⟩; (first | exact ⟨rfl, _, rfl⟩ | exact ⟨rfl, _, World.drewN_drewN _ _ _⟩ | exact ⟨rfl, _, Eq.trans (World.drewN_drewN _ _ _) (congrArg (World.drewN _) (Nat.add_assoc _ _ _))⟩)))
            try go_wp2
            go_roundg k2
            case measure => have := HK2.out; omega
            case rel => exact ⟨_, rfl, HA, ⟨by have := HK2.out; omega⟩, ⟨LinksW.drewN HL.out _⟩⟩
         ·rw [if_neg c2] at H; cases H
        ·rw [if_neg c1] at H
         obtain rfl := Oi H
         clear H
         have c1b : decide (i < (xs.length : Int)) = false := decide_eq_false c1
         clear c1
         go_wp2
         go_ret
         exact ⟨rfl, HL.out.low⟩
  ·rw [if_neg hn1] at h; cases h
 ·rw [if_neg hn0] at h; cases h
def impl_TreeOk.l0 : Nat → Int → List S45 → Option Bool
 | 0, _, _ => none
 | k + 1, i, xs => if i < (xs.length : Int) then (if 0 ≤ i then ((impl_nodeOk.f k ((rd_T45 xs i).f0) ((rd_T45 xs i).f1) ((rd_T45 xs i).f2) ((rd_T45 xs i).f3) ((rd_T45 xs i).f4) ((rd_T45 xs i).f5) i).bind fun t => if t = true then impl_TreeOk.l0 k (wrap64 (i + 1)) xs else some false) else none) else impl_Tree_linksOk.f k xs
def impl_TreeOk.f (k : Nat) (xs : List S45) : Option Bool := (impl_inRange.f (xs.length : Int) 1 500).bind fun t => if t = true then impl_TreeOk.l0 k 0 xs else some false
theorem impl_TreeOk.mono_l : ∀ k, (∀ y0 y1, LeO (impl_TreeOk.l0 k y0 y1) (impl_TreeOk.l0 (k + 1) y0 y1))
 | 0 => fun _ _ r h => by simp [impl_TreeOk.l0] at h
 | k + 1 => by
  have ih := impl_TreeOk.mono_l k
  intro y0 y1
  rw [impl_TreeOk.l0, impl_TreeOk.l0]
  exact LeO.ite (LeO.ite (LeO.bind (impl_nodeOk.mono _ _ _ _ _ _ _ _) (fun _ => LeO.ite (ih _ _) (LeO.refl _))) (LeO.refl _)) (impl_Tree_linksOk.mono _ _)
theorem impl_TreeOk.mono : ∀ a0 k, LeO (impl_TreeOk.f k a0) (impl_TreeOk.f (k + 1) a0) := fun a0 k => LeO.bind (LeO.refl _) (fun _ => LeO.ite (impl_TreeOk.mono_l k _ _) (LeO.refl _))
theorem impl_TreeOk.calls (k : Nat) (A0_0 : Option Addr) (c0_0 : Nat) (l0_0 : List S45) (r : Bool) (w : World) (hr0_0 : Kd.C k45 w A0_0 l0_0.length l0_0) (hc0_0 : l0_0.length ≤ c0_0) (h : impl_TreeOk.f k l0_0 = some r) :
 Calls Try.prog 13 #[.agg #[.slice A0_0 l0_0.length c0_0]] w fun e w' => e = .returned (.bool r) ∧ Below w.heap.size w w' := by
 have HC := Ak hr0_0
 clear hr0_0 hc0_0
 unfold impl_TreeOk.f at h
 obtain ⟨t, A1, h⟩ := Ob h
 replace A1 := Ak A1
 cases t with
 | false =>
  rw [if_neg (by decide)] at h
  obtain rfl := Oi h
  clear h
  go_enter Try.func13, Try.ntmps13
  go_wp2_with (first | (go_at_call 40; (with_reducible refine (impl_inRange.calls _ _ _ false _ A1.out).mono ?_); rintro e w' ⟨rfl, ⟨nd, rfl⟩⟩))
  go_ret
  exact ⟨rfl, by repeat (first | exact Below.refl _ _ | apply below_alloc | apply pw_below_drewN)⟩
 | true =>
  rw [if_pos rfl] at h
  have HA := Ak h
  clear h
  go_enter Try.func13, Try.ntmps13
  go_wp2_with (first
   | ((with_reducible refine gate_dst (N := 1) rfl ?_); refine box_event ?hg (N := 1) ?hd (cs := #[.slice A0_0 l0_0.length c0_0]) (t := 29) ?hr ?_; (case hd => rfl); (case hg => rfl); (case hr => first | (go_simp; done) | (go_simp; rfl)); intro gt hg w1 hbox hb; have HX := Ak (show BoxW w w1 gt A0_0 l0_0.length c0_0 from ⟨hbox, hb, by rw [hg]; exact Nat.le_refl _⟩); have hcb := HX.out.cell; clear hbox hb hg)
   | (go_at_call 40; (with_reducible refine (impl_inRange.calls _ _ _ true _ A1.out).mono ?_); rintro e w' ⟨rfl, ⟨nd, rfl⟩⟩; have HX2 := Ak (HX.out.drewN nd); clear HX))
  go_loopg [13] k (fun kq v13 w' => ∃ (i : Int), v13 = .int .i64 i ∧ Aside0 (impl_TreeOk.l0 kq i l0_0 = some r) ∧ Aside0 (kq ≤ k) ∧ Aside0 (BoxW w w' gt A0_0 l0_0.length c0_0))
  case atStart => exact ⟨0, rfl, HA, ⟨Nat.le_refl _⟩, HX2⟩
  case round =>
   clear HA HX2 hcb
   obtain ⟨i, rfl, HA, HK, HX⟩ := hrel
   cases gk with
   | zero => exact absurd HA.out (by simp [impl_TreeOk.l0])
   | succ k1 =>
    have H := HA.out
    clear HA
    simp only [impl_TreeOk.l0] at H
    by_cases c1 : i < (l0_0.length : Int)
    ·rw [if_pos c1] at H
     by_cases c2 : 0 ≤ i
     ·rw [if_pos c2] at H
      obtain ⟨t, A2, H⟩ := Ob H
      replace A2 := Ak A2
      have c1b : decide (i < (l0_0.length : Int)) = true := decide_eq_true c1
      obtain ⟨ad, A_2, c_2, A_5, c_5, e1, hx0, hx1, hx2, hx3, hx4, hx5, hl2, hi2, hl5, hi5⟩ := at_T45 HC.out i c2 c1
      subst e1
      replace hx0 := pw_cell_below HX.out.low hx0
      replace hx1 := pw_cell_below HX.out.low hx1
      replace hx2 := pw_cell_below HX.out.low hx2
      replace hx3 := pw_cell_below HX.out.low hx3
      replace hx4 := pw_cell_below HX.out.low hx4
      replace hx5 := pw_cell_below HX.out.low hx5
      have HI2 := Ak hi2
      have HI5 := Ak hi5
      have HL2 := Ak hl2
      have HL5 := Ak hl5
      clear hl2 hi2 hl5 hi5
      replace c2 := eq_true c2
      replace c1 := eq_true c1
      go_upto_region 6 with (first | ((with_reducible refine gate_dst (N := 4) rfl ?_); refine box_event ?hg (N := 4) ?hd (cs := #[.int .i64 0, .string (⟨#[]⟩ : ByteArray), .slice none 0 0, .string (⟨#[]⟩ : ByteArray), .int .i64 0, .slice none 0 0]) (t := 45) ?hr ?_; (case hd => rfl); (case hg => rfl); (case hr => first | (go_simp; done) | (go_simp; rfl)); intro gb hg w2 hbox hb; have HNE := Ak (show gb ≠ gt by have := blk_lt HX.out.blk; omega); have HX2 := Ak (HX.out.below hb); have HGB := Ak (show w.heap.size ≤ gb by rw [hg]; exact below_size HX.out.low); have HBX := Ak hbox; have hz0 := blk_cell hbox 0; have hz1 := blk_cell hbox 1; have hz2 := blk_cell hbox 2; have hz3 := blk_cell hbox 3; have hz4 := blk_cell hbox 4; have hz5 := blk_cell hbox 5; have hf := blk_frozen hbox; clear hbox hb hg HX))
      have HB6 := Ak (fillN_blk (rd_T45 l0_0 i) (.slice A_2 (rd_T45 l0_0 i).f2.length c_2) (.slice A_5 (rd_T45 l0_0 i).f5.length c_5) HBX.out)
      have HX := Ak (HX2.out.fill HGB.out HNE.out (rd_T45 l0_0 i) (.slice A_2 (rd_T45 l0_0 i).f2.length c_2) (.slice A_5 (rd_T45 l0_0 i).f5.length c_5))
      show Code.wp _ _ _ _ (fillN w2 gb (rd_T45 l0_0 i) (.slice A_2 (rd_T45 l0_0 i).f2.length c_2) (.slice A_5 (rd_T45 l0_0 i).f5.length c_5))
      generalize fillN w2 gb (rd_T45 l0_0 i) (.slice A_2 (rd_T45 l0_0 i).f2.length c_2) (.slice A_5 (rd_T45 l0_0 i).f5.length c_5) = w3 at HB6 HX ⊢
      clear hz0 hz1 hz2 hz3 hz4 hz5 hf HBX HX2 hx0 hx1 hx2 hx3 hx4 hx5 HNE HGB
      have hz0 := blk_cell HB6.out 0
      have hz1 := blk_cell HB6.out 1
      have hz2 := blk_cell HB6.out 2
      have hz3 := blk_cell HB6.out 3
      have hz4 := blk_cell HB6.out 4
      have hz5 := blk_cell HB6.out 5
      have HJ2 := Ak (Kd.C_below HI2.out HX.out.low)
      have HJ5 := Ak (Kd.C_below HI5.out HX.out.low)
      cases t with
      | true =>
       rw [if_pos rfl] at H
       have HA := Ak H
       clear H
       go_wp2_with (first | (go_at_call 41; (with_reducible refine (impl_nodeOk.calls k1 _ _ _ _ _ _ _ _ _ _ i true _ HJ2.out HL2.out HJ5.out HL5.out A2.out).mono ?_); rintro e w4 ⟨rfl, hb⟩; have HX3 := Ak (HX.out.below hb); clear hb HX))
       go_roundg k1
       case measure => have := HK.out; omega
       case rel => exact ⟨_, rfl, HA, ⟨by have := HK.out; omega⟩, HX3⟩
      | false =>
       rw [if_neg (by decide)] at H
       obtain rfl := Oi H
       clear H
       go_wp2_with (first | (go_at_call 41; (with_reducible refine (impl_nodeOk.calls k1 _ _ _ _ _ _ _ _ _ _ i false _ HJ2.out HL2.out HJ5.out HL5.out A2.out).mono ?_); rintro e w4 ⟨rfl, hb⟩; have HX3 := Ak (HX.out.below hb); clear hb HX))
       go_ret
       exact ⟨rfl, HX3.out.low⟩
     ·rw [if_neg c2] at H; cases H
    ·rw [if_neg c1] at H
     have HA := Ak H
     clear H
     have c1b : decide (i < (l0_0.length : Int)) = false := decide_eq_false c1
     clear c1
     have HIS := Ak (show IsS29 w wr gt l0_0 from ⟨A0_0, c0_0, HX.out.blk, HX.out.ge, HC.out⟩)
     have hcb := HX.out.cell
     have HLO := Ak HX.out.low
     go_wp2_with (first | (go_at_call 42; (with_reducible refine (impl_Tree_linksOk.calls k1 gt l0_0 r w _ HIS.out HLO.out HA.out).mono ?_); rintro e w4 ⟨rfl, _, hb, _⟩))
     go_ret
     exact ⟨rfl, hb⟩
end Go.Proofs.Ytgneacekgbjkkaa.X
namespace Go.Proofs.Ytgneacekgbjkkaa.X
open Go.RowKit Go.Proofs.YtgneacekgbjkkaaW.PrintWords Go.Proofs.YtgneacekgbjkkaaW.PrintLast Go.Proofs.YtgneacekgbjkkaaW.PrintMore
attribute [local go_sem] max2_int min2_int max_two min_two max_three min_three max_four min_four
set_option linter.unusedVariables false
set_option linter.unusedSimpArgs false
attribute [local go_sem high] eqA98
def impl_Attr_114.l0 : Nat → List (S98) → List (S98) → Int → Int → Option (Bool)
 | 0, _, _, _, _ => none
 | k + 1, x0, x1, x12, x13 => if x13 < x12 then (if 0 ≤ x13 then (if x13 < (x0.length : Int) then (if x13 < (x1.length : Int) then (if (!((((rd_T98 x0 x13).f0).toList) == (((rd_T98 x1 x13).f0).toList)) || (!((((rd_T98 x0 x13).f1).toList) == (((rd_T98 x1 x13).f1).toList)))) = true then (some false) else (impl_Attr_114.l0 k x0 x1 x12 (wrap64 (x13 + 1)))) else (none)) else (none)) else (none)) else (some true)
def impl_Attr_114.f (k : Nat) (l0 : List (S98)) (l1 : List (S98)) : Option (Bool) := if (l0.length : Int) = (l1.length : Int) then (impl_Attr_114.l0 k l0 l1 (l0.length : Int) 0) else (some false)
theorem impl_Attr_114.mono_l : ∀ k, (∀ y0 y1 y2 y3, LeO (impl_Attr_114.l0 k y0 y1 y2 y3) (impl_Attr_114.l0 (k + 1) y0 y1 y2 y3))
 | 0 => fun _ _ _ _ r h => by simp [impl_Attr_114.l0] at h
 | k + 1 => by
  have ih0 := impl_Attr_114.mono_l k
  ·intro y0 y1 y2 y3
   unfold impl_Attr_114.l0
   repeat' (with_reducible first | exact ih0 _ _ _ _ | exact LeO.refl _ | exact LeO.none _ | refine LeO.ite ?_ ?_ | refine LeO.bind ?_ (fun _ => ?_))
theorem impl_Attr_114.mono : ∀ a0 a1 k, LeO (impl_Attr_114.f k a0 a1) (impl_Attr_114.f (k + 1) a0 a1) := by
 intro a0 a1 k
 have ih0 := impl_Attr_114.mono_l k
 unfold impl_Attr_114.f
 repeat' (with_reducible first | exact ih0 _ _ _ _ | exact LeO.refl _ | exact LeO.none _ | refine LeO.ite ?_ ?_ | refine LeO.bind ?_ (fun _ => ?_))
theorem impl_Attr_114.calls (k : Nat) (A0 : Option Addr) (c0 : Nat) (l0 : List (S98)) (A1 : Option Addr) (c1 : Nat) (l1 : List (S98)) (r : Bool) (w : World) (hr0 : Kd.C k98 w A0 l0.length l0) (hc0 : l0.length ≤ c0) (hr1 : Kd.C k98 w A1 l1.length l1) (hc1 : l1.length ≤ c1) (h : impl_Attr_114.f k l0 l1 = some r) :
 Calls Try.prog 114 #[.slice A0 l0.length c0, .slice A1 l1.length c1] w fun e w' => e = .returned (.bool r) ∧ Drawn0 w w' := by
 have hu98 := Try.underlying98
 have HR0 := Ak hr0
 have HC0 := Ak hc0
 clear hr0 hc0
 have HR1 := Ak hr1
 have HC1 := Ak hc1
 clear hr1 hc1
 have H : (if (l0.length : Int) = (l1.length : Int) then (impl_Attr_114.l0 k l0 l1 (l0.length : Int) 0) else (some false)) = some r := h
 clear h
 by_cases c3 : (l0.length : Int) = (l1.length : Int)
 ·rw [if_pos c3] at H
  have c3b0 := beq_iff_eq.mpr c3
  have c3b1 := bne_eq_false_iff_eq.mpr c3
  have c3b2 : (l0.length == l1.length) = true := by first | simpa using c3 | (simp at c3 ⊢; omega)
  clear c3
  have H' := Ak H
  clear H
  go_enter Try.func114, Try.ntmps114
  go_wp2
  repeat (go_quiet (fail); try go_wp2)
  go_loopg [13] k (fun kq v13 w' => ∃ (x13_1 : Int), v13 = .int .i64 x13_1 ∧ Aside0 (impl_Attr_114.l0 kq l0 l1 (l0.length : Int) x13_1 = some r) ∧ Aside0 (kq ≤ k) ∧ Drawn0 w w')
  case atStart => exact ⟨(0), rfl, H', ⟨Nat.le_refl _⟩, by repeat (first | exact Drawn0.refl _ | apply Drawn0.step)⟩
  case round =>
   clear H'
   obtain ⟨x13_1, rfl, HA, HK1, ⟨m1, rfl⟩⟩ := hrel
   cases gk with
   | zero => exact absurd HA.out (by simp [impl_Attr_114.l0])
   | succ k1 =>
    have H := HA.out
    clear HA
    simp only [impl_Attr_114.l0] at H
    by_cases c4 : x13_1 < (l0.length : Int)
    ·rw [if_pos c4] at H
     have c4b0 := decide_eq_true c4
     clear c4
     by_cases c5 : 0 ≤ x13_1
     ·rw [if_pos c5] at H
      have c5b0 := decide_eq_true c5
      clear c5
      by_cases c6 : x13_1 < (l0.length : Int)
      ·rw [if_pos c6] at H
       have c6b0 := decide_eq_true c6
       clear c6
       by_cases c7 : x13_1 < (l1.length : Int)
       ·rw [if_pos c7] at H
        have c7b0 := decide_eq_true c7
        clear c7
        by_cases c8 : (!((((rd_T98 l0 x13_1).f0).toList) == (((rd_T98 l1 x13_1).f0).toList)) || (!((((rd_T98 l0 x13_1).f1).toList) == (((rd_T98 l1 x13_1).f1).toList)))) = true
        ·rw [if_pos c8] at H
         have c8b0 : (!((((rd_T98 l0 x13_1).f0).toList) == (((rd_T98 l1 x13_1).f0).toList)) || (!((((rd_T98 l0 x13_1).f1).toList) == (((rd_T98 l1 x13_1).f1).toList)))) = true := c8
         clear c8
         obtain rfl := Oi H
         have p101 : 0 ≤ (x13_1 : Int) := of_decide_eq_true (by assumption)
         have q101 : x13_1 < (l0.length : Int) := of_decide_eq_true (by assumption)
         obtain ⟨ad101, e101, hx101_0, hx101_1⟩ := at_T98 HR0.out x13_1 p101 q101
         cases e101
         replace p101 := eq_true p101
         replace q101 := eq_true q101
         have p102 : 0 ≤ (x13_1 : Int) := of_decide_eq_true (by assumption)
         have q102 : x13_1 < (l1.length : Int) := of_decide_eq_true (by assumption)
         obtain ⟨ad102, e102, hx102_0, hx102_1⟩ := at_T98 HR1.out x13_1 p102 q102
         cases e102
         replace p102 := eq_true p102
         replace q102 := eq_true q102
         go_wp2
         repeat (go_quiet (fail); try go_wp2)
         go_ret
         exact ⟨rfl, by repeat (first | exact Drawn0.refl _ | apply Drawn0.step)⟩
        ·rw [if_neg c8] at H
         have c8b0 : (!((((rd_T98 l0 x13_1).f0).toList) == (((rd_T98 l1 x13_1).f0).toList)) || (!((((rd_T98 l0 x13_1).f1).toList) == (((rd_T98 l1 x13_1).f1).toList)))) = false := by simpa using c8
         clear c8
         have H' := Ak H
         clear H
         have p101 : 0 ≤ (x13_1 : Int) := of_decide_eq_true (by assumption)
         have q101 : x13_1 < (l0.length : Int) := of_decide_eq_true (by assumption)
         obtain ⟨ad101, e101, hx101_0, hx101_1⟩ := at_T98 HR0.out x13_1 p101 q101
         cases e101
         replace p101 := eq_true p101
         replace q101 := eq_true q101
         have p102 : 0 ≤ (x13_1 : Int) := of_decide_eq_true (by assumption)
         have q102 : x13_1 < (l1.length : Int) := of_decide_eq_true (by assumption)
         obtain ⟨ad102, e102, hx102_0, hx102_1⟩ := at_T98 HR1.out x13_1 p102 q102
         cases e102
         replace p102 := eq_true p102
         replace q102 := eq_true q102
         go_wp2
         repeat (go_quiet (fail); try go_wp2)
         go_roundg k1
         case measure => have := HK1.out; omega
         case rel => exact ⟨(wrap64 (x13_1 + 1)), rfl, H', ⟨by have := HK1.out; omega⟩, by repeat (first | exact Drawn0.refl _ | apply Drawn0.step)⟩
       ·rw [if_neg c7] at H
        exact absurd H (by simp)
      ·rw [if_neg c6] at H
       exact absurd H (by simp)
     ·rw [if_neg c5] at H
      exact absurd H (by simp)
    ·rw [if_neg c4] at H
     have c4b0 := decide_eq_false c4
     clear c4
     obtain rfl := Oi H
     go_wp2
     repeat (go_quiet (fail); try go_wp2)
     go_ret
     exact ⟨rfl, by repeat (first | exact Drawn0.refl _ | apply Drawn0.step)⟩
 ·rw [if_neg c3] at H
  have c3b0 := beq_eq_false_iff_ne.mpr c3
  have c3b1 := bne_iff_ne.mpr c3
  have c3b2 : (l0.length == l1.length) = false := by first | simpa using c3 | (simp at c3 ⊢; omega)
  obtain rfl := Oi H
  go_enter Try.func114, Try.ntmps114
  go_wp2
  repeat (go_quiet (fail); try go_wp2)
  go_ret
  exact ⟨rfl, by repeat (first | exact Drawn0.refl _ | apply Drawn0.step)⟩
def slices_Equal_int_int.l0 : Nat → List Int → List Int → Int → Int → Option (Bool)
 | 0, _, _, _, _ => none
 | k + 1, x0, x1, x12, x13 => if x13 < x12 then (if 0 ≤ x13 then (if x13 < (x0.length : Int) then (if x13 < (x1.length : Int) then (if (rd x0 x13) = (rd x1 x13) then (slices_Equal_int_int.l0 k x0 x1 x12 (wrap64 (x13 + 1))) else (some false)) else (none)) else (none)) else (none)) else (some true)
def slices_Equal_int_int.f (k : Nat) (l0 : List Int) (l1 : List Int) : Option (Bool) := if (l0.length : Int) = (l1.length : Int) then (slices_Equal_int_int.l0 k l0 l1 (l0.length : Int) 0) else (some false)
theorem slices_Equal_int_int.mono_l : ∀ k, (∀ y0 y1 y2 y3, LeO (slices_Equal_int_int.l0 k y0 y1 y2 y3) (slices_Equal_int_int.l0 (k + 1) y0 y1 y2 y3))
 | 0 => fun _ _ _ _ r h => by simp [slices_Equal_int_int.l0] at h
 | k + 1 => by
  have ih0 := slices_Equal_int_int.mono_l k
  ·intro y0 y1 y2 y3
   unfold slices_Equal_int_int.l0
   repeat' (with_reducible first | exact ih0 _ _ _ _ | exact LeO.refl _ | exact LeO.none _ | refine LeO.ite ?_ ?_ | refine LeO.bind ?_ (fun _ => ?_))
theorem slices_Equal_int_int.mono : ∀ a0 a1 k, LeO (slices_Equal_int_int.f k a0 a1) (slices_Equal_int_int.f (k + 1) a0 a1) := by
 intro a0 a1 k
 have ih0 := slices_Equal_int_int.mono_l k
 unfold slices_Equal_int_int.f
 repeat' (with_reducible first | exact ih0 _ _ _ _ | exact LeO.refl _ | exact LeO.none _ | refine LeO.ite ?_ ?_ | refine LeO.bind ?_ (fun _ => ?_))
theorem slices_Equal_int_int.calls (k : Nat) (A0 : Option Addr) (c0 : Nat) (l0 : List Int) (A1 : Option Addr) (c1 : Nat) (l1 : List Int) (r : Bool) (w : World) (hr0 : Kd.C (Kd.int .i64) w A0 l0.length l0) (hc0 : l0.length ≤ c0) (hr1 : Kd.C (Kd.int .i64) w A1 l1.length l1) (hc1 : l1.length ≤ c1) (h : slices_Equal_int_int.f k l0 l1 = some r) :
 Calls Try.prog 115 #[.slice A0 l0.length c0, .slice A1 l1.length c1] w fun e w' => e = .returned (.bool r) ∧ Drawn0 w w' := by
 have HR0 := Ak hr0
 have HC0 := Ak hc0
 clear hr0 hc0
 have HR1 := Ak hr1
 have HC1 := Ak hc1
 clear hr1 hc1
 have H : (if (l0.length : Int) = (l1.length : Int) then (slices_Equal_int_int.l0 k l0 l1 (l0.length : Int) 0) else (some false)) = some r := h
 clear h
 by_cases c3 : (l0.length : Int) = (l1.length : Int)
 ·rw [if_pos c3] at H
  have c3b0 := beq_iff_eq.mpr c3
  have c3b1 := bne_eq_false_iff_eq.mpr c3
  have c3b2 : (l0.length == l1.length) = true := by first | simpa using c3 | (simp at c3 ⊢; omega)
  clear c3
  have H' := Ak H
  clear H
  go_enter Try.func115, Try.ntmps115
  go_wp2
  repeat (go_quiet (fail); try go_wp2)
  go_loopg [13] k (fun kq v13 w' => ∃ (x13_1 : Int), v13 = .int .i64 x13_1 ∧ Aside0 (slices_Equal_int_int.l0 kq l0 l1 (l0.length : Int) x13_1 = some r) ∧ Aside0 (kq ≤ k) ∧ Drawn0 w w')
  case atStart => exact ⟨(0), rfl, H', ⟨Nat.le_refl _⟩, by repeat (first | exact Drawn0.refl _ | apply Drawn0.step)⟩
  case round =>
   clear H'
   obtain ⟨x13_1, rfl, HA, HK1, ⟨m1, rfl⟩⟩ := hrel
   cases gk with
   | zero => exact absurd HA.out (by simp [slices_Equal_int_int.l0])
   | succ k1 =>
    have H := HA.out
    clear HA
    simp only [slices_Equal_int_int.l0] at H
    by_cases c4 : x13_1 < (l0.length : Int)
    ·rw [if_pos c4] at H
     have c4b0 := decide_eq_true c4
     clear c4
     by_cases c5 : 0 ≤ x13_1
     ·rw [if_pos c5] at H
      have c5b0 := decide_eq_true c5
      clear c5
      by_cases c6 : x13_1 < (l0.length : Int)
      ·rw [if_pos c6] at H
       have c6b0 := decide_eq_true c6
       clear c6
       by_cases c7 : x13_1 < (l1.length : Int)
       ·rw [if_pos c7] at H
        have c7b0 := decide_eq_true c7
        clear c7
        by_cases c8 : (rd l0 x13_1) = (rd l1 x13_1)
        ·rw [if_pos c8] at H
         have c8b0 := beq_iff_eq.mpr c8
         have c8b1 := bne_eq_false_iff_eq.mpr c8
         clear c8
         have H' := Ak H
         clear H
         have p101 : 0 ≤ (x13_1 : Int) := of_decide_eq_true (by assumption)
         have q101 : x13_1 < (l0.length : Int) := of_decide_eq_true (by assumption)
         obtain ⟨ad101, e101, hx101_0⟩ := Kd.at_int HR0.out x13_1 p101 q101
         cases e101
         replace p101 := eq_true p101
         replace q101 := eq_true q101
         have p102 : 0 ≤ (x13_1 : Int) := of_decide_eq_true (by assumption)
         have q102 : x13_1 < (l1.length : Int) := of_decide_eq_true (by assumption)
         obtain ⟨ad102, e102, hx102_0⟩ := Kd.at_int HR1.out x13_1 p102 q102
         cases e102
         replace p102 := eq_true p102
         replace q102 := eq_true q102
         go_wp2
         repeat (go_quiet (fail); try go_wp2)
         go_roundg k1
         case measure => have := HK1.out; omega
         case rel => exact ⟨(wrap64 (x13_1 + 1)), rfl, H', ⟨by have := HK1.out; omega⟩, by repeat (first | exact Drawn0.refl _ | apply Drawn0.step)⟩
        ·rw [if_neg c8] at H
         have c8b0 := beq_eq_false_iff_ne.mpr c8
         have c8b1 := bne_iff_ne.mpr c8
         obtain rfl := Oi H
         have p101 : 0 ≤ (x13_1 : Int) := of_decide_eq_true (by assumption)
         have q101 : x13_1 < (l0.length : Int) := of_decide_eq_true (by assumption)
         obtain ⟨ad101, e101, hx101_0⟩ := Kd.at_int HR0.out x13_1 p101 q101
         cases e101
         replace p101 := eq_true p101
         replace q101 := eq_true q101
         have p102 : 0 ≤ (x13_1 : Int) := of_decide_eq_true (by assumption)
         have q102 : x13_1 < (l1.length : Int) := of_decide_eq_true (by assumption)
         obtain ⟨ad102, e102, hx102_0⟩ := Kd.at_int HR1.out x13_1 p102 q102
         cases e102
         replace p102 := eq_true p102
         replace q102 := eq_true q102
         go_wp2
         repeat (go_quiet (fail); try go_wp2)
         go_ret
         exact ⟨rfl, by repeat (first | exact Drawn0.refl _ | apply Drawn0.step)⟩
       ·rw [if_neg c7] at H
        exact absurd H (by simp)
      ·rw [if_neg c6] at H
       exact absurd H (by simp)
     ·rw [if_neg c5] at H
      exact absurd H (by simp)
    ·rw [if_neg c4] at H
     have c4b0 := decide_eq_false c4
     clear c4
     obtain rfl := Oi H
     go_wp2
     repeat (go_quiet (fail); try go_wp2)
     go_ret
     exact ⟨rfl, by repeat (first | exact Drawn0.refl _ | apply Drawn0.step)⟩
 ·rw [if_neg c3] at H
  have c3b0 := beq_eq_false_iff_ne.mpr c3
  have c3b1 := bne_iff_ne.mpr c3
  have c3b2 : (l0.length == l1.length) = false := by first | simpa using c3 | (simp at c3 ⊢; omega)
  obtain rfl := Oi H
  go_enter Try.func115, Try.ntmps115
  go_wp2
  repeat (go_quiet (fail); try go_wp2)
  go_ret
  exact ⟨rfl, by repeat (first | exact Drawn0.refl _ | apply Drawn0.step)⟩
def impl_sameNode.j0 : Nat → Bool → Int → ByteArray → List (S98) → ByteArray → Int → List Int → Int → ByteArray → List (S98) → ByteArray → Int → List Int → Option (Bool)
 | 0, _, _, _, _, _, _, _, _, _, _, _, _, _ => none
 | k + 1, x30, x102000, x102001, x102002, x102003, x102004, x102005, x103000, x103001, x103002, x103003, x103004, x103005 => if x30 = true then (some false) else ((impl_Attr_114.f k x102002 x103002).bind fun t103 => (if t103 = true then ((slices_Equal_int_int.f k x102005 x103005).bind fun t104 => (some t104)) else (some false)))
def impl_sameNode.f (k : Nat) (a0_0 : Int) (a0_1 : ByteArray) (l0_2 : List (S98)) (a0_3 : ByteArray) (a0_4 : Int) (l0_5 : List Int) (a1_0 : Int) (a1_1 : ByteArray) (l1_2 : List (S98)) (a1_3 : ByteArray) (a1_4 : Int) (l1_5 : List Int) : Option (Bool) := if a0_0 = a1_0 then (if a0_1.toList = a1_1.toList then (if a0_3.toList = a1_3.toList then (impl_sameNode.j0 k (a0_4 != a1_4) a0_0 a0_1 l0_2 a0_3 a0_4 l0_5 a1_0 a1_1 l1_2 a1_3 a1_4 l1_5) else (impl_sameNode.j0 k true a0_0 a0_1 l0_2 a0_3 a0_4 l0_5 a1_0 a1_1 l1_2 a1_3 a1_4 l1_5)) else (impl_sameNode.j0 k true a0_0 a0_1 l0_2 a0_3 a0_4 l0_5 a1_0 a1_1 l1_2 a1_3 a1_4 l1_5)) else (impl_sameNode.j0 k true a0_0 a0_1 l0_2 a0_3 a0_4 l0_5 a1_0 a1_1 l1_2 a1_3 a1_4 l1_5)
theorem impl_sameNode.mono_l : ∀ k, (∀ y0 y1 y2 y3 y4 y5 y6 y7 y8 y9 y10 y11 y12, LeO (impl_sameNode.j0 k y0 y1 y2 y3 y4 y5 y6 y7 y8 y9 y10 y11 y12) (impl_sameNode.j0 (k + 1) y0 y1 y2 y3 y4 y5 y6 y7 y8 y9 y10 y11 y12))
 | 0 => fun _ _ _ _ _ _ _ _ _ _ _ _ _ r h => by simp [impl_sameNode.j0] at h
 | k + 1 => by
  have ih0 := impl_sameNode.mono_l k
  ·intro y0 y1 y2 y3 y4 y5 y6 y7 y8 y9 y10 y11 y12
   unfold impl_sameNode.j0
   repeat' (with_reducible first | exact ih0 _ _ _ _ _ _ _ _ _ _ _ _ _ | exact impl_Attr_114.mono _ _ _ | exact slices_Equal_int_int.mono _ _ _ | exact LeO.refl _ | exact LeO.none _ | refine LeO.ite ?_ ?_ | refine LeO.bind ?_ (fun _ => ?_))
theorem impl_sameNode.mono : ∀ a0 a1 a2 a3 a4 a5 a6 a7 a8 a9 a10 a11 k, LeO (impl_sameNode.f k a0 a1 a2 a3 a4 a5 a6 a7 a8 a9 a10 a11) (impl_sameNode.f (k + 1) a0 a1 a2 a3 a4 a5 a6 a7 a8 a9 a10 a11) := by
 intro a0 a1 a2 a3 a4 a5 a6 a7 a8 a9 a10 a11 k
 have ih0 := impl_sameNode.mono_l k
 unfold impl_sameNode.f
 repeat' (with_reducible first | exact ih0 _ _ _ _ _ _ _ _ _ _ _ _ _ | exact impl_Attr_114.mono _ _ _ | exact slices_Equal_int_int.mono _ _ _ | exact LeO.refl _ | exact LeO.none _ | refine LeO.ite ?_ ?_ | refine LeO.bind ?_ (fun _ => ?_))
theorem impl_sameNode.calls (k : Nat) (a0_0 : Int) (a0_1 : ByteArray) (A0_2 : Option Addr) (c0_2 : Nat) (l0_2 : List (S98)) (a0_3 : ByteArray) (a0_4 : Int) (A0_5 : Option Addr) (c0_5 : Nat) (l0_5 : List Int) (a1_0 : Int) (a1_1 : ByteArray) (A1_2 : Option Addr) (c1_2 : Nat) (l1_2 : List (S98)) (a1_3 : ByteArray) (a1_4 : Int) (A1_5 : Option Addr) (c1_5 : Nat) (l1_5 : List Int) (r : Bool) (w : World) (hr0_2 : Kd.C k98 w A0_2 l0_2.length l0_2) (hc0_2 : l0_2.length ≤ c0_2) (hr0_5 : Kd.C (Kd.int .i64) w A0_5 l0_5.length l0_5) (hc0_5 : l0_5.length ≤ c0_5) (hr1_2 : Kd.C k98 w A1_2 l1_2.length l1_2) (hc1_2 : l1_2.length ≤ c1_2) (hr1_5 : Kd.C (Kd.int .i64) w A1_5 l1_5.length l1_5) (hc1_5 : l1_5.length ≤ c1_5) (h : impl_sameNode.f k a0_0 a0_1 l0_2 a0_3 a0_4 l0_5 a1_0 a1_1 l1_2 a1_3 a1_4 l1_5 = some r) :
 Calls Try.prog 90 #[.agg #[.int .i64 a0_0, .string a0_1, .slice A0_2 l0_2.length c0_2, .string a0_3, .int .i64 a0_4, .slice A0_5 l0_5.length c0_5], .agg #[.int .i64 a1_0, .string a1_1, .slice A1_2 l1_2.length c1_2, .string a1_3, .int .i64 a1_4, .slice A1_5 l1_5.length c1_5]] w fun e w' => e = .returned (.bool r) ∧ Below w.heap.size w w' := by
 have hu45 := Try.underlying45
 have HR0_2 := Ak hr0_2
 have HC0_2 := Ak hc0_2
 clear hr0_2 hc0_2
 have HR0_5 := Ak hr0_5
 have HC0_5 := Ak hc0_5
 clear hr0_5 hc0_5
 have HR1_2 := Ak hr1_2
 have HC1_2 := Ak hc1_2
 clear hr1_2 hc1_2
 have HR1_5 := Ak hr1_5
 have HC1_5 := Ak hc1_5
 clear hr1_5 hc1_5
 have HB := Ak (Below.refl w.heap.size w)
 have H : (if a0_0 = a1_0 then (if a0_1.toList = a1_1.toList then (if a0_3.toList = a1_3.toList then (impl_sameNode.j0 k (a0_4 != a1_4) a0_0 a0_1 l0_2 a0_3 a0_4 l0_5 a1_0 a1_1 l1_2 a1_3 a1_4 l1_5) else (impl_sameNode.j0 k true a0_0 a0_1 l0_2 a0_3 a0_4 l0_5 a1_0 a1_1 l1_2 a1_3 a1_4 l1_5)) else (impl_sameNode.j0 k true a0_0 a0_1 l0_2 a0_3 a0_4 l0_5 a1_0 a1_1 l1_2 a1_3 a1_4 l1_5)) else (impl_sameNode.j0 k true a0_0 a0_1 l0_2 a0_3 a0_4 l0_5 a1_0 a1_1 l1_2 a1_3 a1_4 l1_5)) = some r := h
 clear h
 have HC3 := Ak H
 clear H
 go_enter Try.func90, Try.ntmps90
 go_upto_region 1 with (first | ((with_reducible refine gate_dst (N := 2) rfl ?_); refine box_event ?hg (N := 2) ?hd (cs := #[.int .i64 a0_0, .string a0_1, .slice A0_2 l0_2.length c0_2, .string a0_3, .int .i64 a0_4, .slice A0_5 l0_5.length c0_5]) (t := 45) ?hr ?_; (case hd => rfl); (case hg => rfl); (case hr => go_simp); intro gb101 hg w4 hbox hb; have n0_ := Ak (below_step (HB.out) hb); have n1_ := Ak (hbox); have n2_ := Ak ((by rw [hg]; exact (below_size (HB.out)) : w.heap.size ≤ gb101)); have n3_ := n2_; clear HB; have HB := n0_; have BK101 := n1_; have GW101 := n2_; have GE101 := n3_; clear n0_ n1_ n2_ n3_; clear hb hbox hg) | ((with_reducible refine gate_dst (N := 3) rfl ?_); refine box_event ?hg (N := 3) ?hd (cs := #[.int .i64 a1_0, .string a1_1, .slice A1_2 l1_2.length c1_2, .string a1_3, .int .i64 a1_4, .slice A1_5 l1_5.length c1_5]) (t := 45) ?hr ?_; (case hd => rfl); (case hg => rfl); (case hr => go_simp); intro gb102 hg w5 hbox hb; have n0_ := Ak (blk_below BK101.out hb); have n1_ := Ak (below_step (by repeat (first | exact HB.out | apply below_alloc | apply pw_below_drewN | apply below_drew1 | refine below_set ?_ GE101.out)) hb); have n2_ := Ak (hbox); have n3_ := Ak ((by rw [hg]; exact (below_size (by repeat (first | exact HB.out | apply below_alloc | apply pw_below_drewN | apply below_drew1 | refine below_set ?_ GE101.out))) : w.heap.size ≤ gb102)); have n4_ := n3_; have n5_ := Ak ((by rw [hg]; exact Nat.ne_of_lt (blk_lt BK101.out) : gb101 ≠ gb102)); have n6_ := Ak (Ne.symm n5_.out); clear BK101; clear HB; have BK101 := n0_; have HB := n1_; have BK102 := n2_; have GW102 := n3_; have GE102 := n4_; have NB101_102 := n5_; have NB102_101 := n6_; clear n0_ n1_ n2_ n3_ n4_ n5_ n6_; clear hb hbox hg))
 (try simp only [Act.put, List.setIfInBounds_toArray, List.set_cons_zero, List.set_cons_succ])
 go_cut [30] (fun v30 wc => ∃ (kq : Nat) (x30_2 : Bool), v30 = .bool x30_2 ∧ Aside0 (impl_sameNode.j0 kq x30_2 a0_0 a0_1 l0_2 a0_3 a0_4 l0_5 a1_0 a1_1 l1_2 a1_3 a1_4 l1_5 = some r) ∧ Aside0 (kq ≤ k) ∧ Aside0 (wc.heap[gb101]? = some (.cells #[.int .i64 a0_0, .string a0_1, (.slice A0_2 l0_2.length c0_2), .string a0_3, .int .i64 a0_4, (.slice A0_5 l0_5.length c0_5)] 45 (0, 0))) ∧ Aside0 (wc.heap[gb102]? = some (.cells #[.int .i64 a1_0, .string a1_1, (.slice A1_2 l1_2.length c1_2), .string a1_3, .int .i64 a1_4, (.slice A1_5 l1_5.length c1_5)] 45 (0, 0))) ∧ Aside0 (Below w.heap.size w wc))
 case first =>
  have H := HC3.out
  clear HC3
  by_cases c6 : a0_0 = a1_0
  ·rw [if_pos c6] at H
   have c6b0 := beq_iff_eq.mpr c6
   have c6b1 := bne_eq_false_iff_eq.mpr c6
   clear c6
   (first | rw [c6b0] | (simp only [i64_w, i32_w]; rw [c6b0]) | skip)
   by_cases c7 : a0_1.toList = a1_1.toList
   ·rw [if_pos c7] at H
    have c7b0 := beq_iff_eq.mpr c7
    have c7b1 := bne_eq_false_iff_eq.mpr c7
    clear c7
    by_cases c8 : a0_3.toList = a1_3.toList
    ·rw [if_pos c8] at H
     have c8b0 := beq_iff_eq.mpr c8
     have c8b1 := bne_eq_false_iff_eq.mpr c8
     clear c8
     have H' := Ak H
     clear H
     have hnb9 := NB101_102.out
     have hnc9 := NB102_101.out
     have hcz10_0 := blk_cell BK101.out 0
     have hcz10_1 := blk_cell BK101.out 1
     have hcz10_2 := blk_cell BK101.out 2
     have hcz10_3 := blk_cell BK101.out 3
     have hcz10_4 := blk_cell BK101.out 4
     have hcz10_5 := blk_cell BK101.out 5
     have hfz10_0 := blk_frozen BK101.out
     have hcz11_0 := blk_cell BK102.out 0
     have hcz11_1 := blk_cell BK102.out 1
     have hcz11_2 := blk_cell BK102.out 2
     have hcz11_3 := blk_cell BK102.out 3
     have hcz11_4 := blk_cell BK102.out 4
     have hcz11_5 := blk_cell BK102.out 5
     have hfz11_0 := blk_frozen BK102.out
     go_wp2
     go_meet
     case rel => exact ⟨_, ((a0_4 != a1_4)), rfl, H', ⟨by first | omega | exact Nat.le_refl _⟩, ⟨by (with_reducible repeat (first | refine blk_drewN ?_ _ | refine blk_drew ?_ | refine blk_alloc ?_ _)); exact BK101.out⟩, ⟨by (with_reducible repeat (first | refine blk_drewN ?_ _ | refine blk_drew ?_ | refine blk_alloc ?_ _)); exact BK102.out⟩, ⟨by repeat (first | exact HB.out | apply below_alloc | apply pw_below_drewN | apply below_drew1 | refine below_set ?_ GE101.out | refine below_set ?_ GE102.out)⟩⟩
    ·rw [if_neg c8] at H
     have c8b0 := beq_eq_false_iff_ne.mpr c8
     have c8b1 := bne_iff_ne.mpr c8
     have H' := Ak H
     clear H
     have hnb12 := NB101_102.out
     have hnc12 := NB102_101.out
     have hcz13_0 := blk_cell BK101.out 0
     have hcz13_1 := blk_cell BK101.out 1
     have hcz13_2 := blk_cell BK101.out 2
     have hcz13_3 := blk_cell BK101.out 3
     have hcz13_4 := blk_cell BK101.out 4
     have hcz13_5 := blk_cell BK101.out 5
     have hfz13_0 := blk_frozen BK101.out
     have hcz14_0 := blk_cell BK102.out 0
     have hcz14_1 := blk_cell BK102.out 1
     have hcz14_2 := blk_cell BK102.out 2
     have hcz14_3 := blk_cell BK102.out 3
     have hcz14_4 := blk_cell BK102.out 4
     have hcz14_5 := blk_cell BK102.out 5
     have hfz14_0 := blk_frozen BK102.out
     go_wp2
     go_meet
     case rel => exact ⟨_, (true), rfl, H', ⟨by first | omega | exact Nat.le_refl _⟩, ⟨by (with_reducible repeat (first | refine blk_drewN ?_ _ | refine blk_drew ?_ | refine blk_alloc ?_ _)); exact BK101.out⟩, ⟨by (with_reducible repeat (first | refine blk_drewN ?_ _ | refine blk_drew ?_ | refine blk_alloc ?_ _)); exact BK102.out⟩, ⟨by repeat (first | exact HB.out | apply below_alloc | apply pw_below_drewN | apply below_drew1 | refine below_set ?_ GE101.out | refine below_set ?_ GE102.out)⟩⟩
   ·rw [if_neg c7] at H
    have c7b0 := beq_eq_false_iff_ne.mpr c7
    have c7b1 := bne_iff_ne.mpr c7
    have H' := Ak H
    clear H
    have hnb15 := NB101_102.out
    have hnc15 := NB102_101.out
    have hcz16_0 := blk_cell BK101.out 0
    have hcz16_1 := blk_cell BK101.out 1
    have hcz16_2 := blk_cell BK101.out 2
    have hcz16_3 := blk_cell BK101.out 3
    have hcz16_4 := blk_cell BK101.out 4
    have hcz16_5 := blk_cell BK101.out 5
    have hfz16_0 := blk_frozen BK101.out
    have hcz17_0 := blk_cell BK102.out 0
    have hcz17_1 := blk_cell BK102.out 1
    have hcz17_2 := blk_cell BK102.out 2
    have hcz17_3 := blk_cell BK102.out 3
    have hcz17_4 := blk_cell BK102.out 4
    have hcz17_5 := blk_cell BK102.out 5
    have hfz17_0 := blk_frozen BK102.out
    go_wp2
    go_meet
    case rel => exact ⟨_, (true), rfl, H', ⟨by first | omega | exact Nat.le_refl _⟩, ⟨by (with_reducible repeat (first | refine blk_drewN ?_ _ | refine blk_drew ?_ | refine blk_alloc ?_ _)); exact BK101.out⟩, ⟨by (with_reducible repeat (first | refine blk_drewN ?_ _ | refine blk_drew ?_ | refine blk_alloc ?_ _)); exact BK102.out⟩, ⟨by repeat (first | exact HB.out | apply below_alloc | apply pw_below_drewN | apply below_drew1 | refine below_set ?_ GE101.out | refine below_set ?_ GE102.out)⟩⟩
  ·rw [if_neg c6] at H
   have c6b0 := beq_eq_false_iff_ne.mpr c6
   have c6b1 := bne_iff_ne.mpr c6
   (first | rw [c6b0] | (simp only [i64_w, i32_w]; rw [c6b0]) | skip)
   have H' := Ak H
   clear H
   have hnb18 := NB101_102.out
   have hnc18 := NB102_101.out
   have hcz19_0 := blk_cell BK101.out 0
   have hcz19_1 := blk_cell BK101.out 1
   have hcz19_2 := blk_cell BK101.out 2
   have hcz19_3 := blk_cell BK101.out 3
   have hcz19_4 := blk_cell BK101.out 4
   have hcz19_5 := blk_cell BK101.out 5
   have hfz19_0 := blk_frozen BK101.out
   have hcz20_0 := blk_cell BK102.out 0
   have hcz20_1 := blk_cell BK102.out 1
   have hcz20_2 := blk_cell BK102.out 2
   have hcz20_3 := blk_cell BK102.out 3
   have hcz20_4 := blk_cell BK102.out 4
   have hcz20_5 := blk_cell BK102.out 5
   have hfz20_0 := blk_frozen BK102.out
   go_wp2
   go_meet
   case rel => exact ⟨_, (true), rfl, H', ⟨by first | omega | exact Nat.le_refl _⟩, ⟨by (with_reducible repeat (first | refine blk_drewN ?_ _ | refine blk_drew ?_ | refine blk_alloc ?_ _)); exact BK101.out⟩, ⟨by (with_reducible repeat (first | refine blk_drewN ?_ _ | refine blk_drew ?_ | refine blk_alloc ?_ _)); exact BK102.out⟩, ⟨by repeat (first | exact HB.out | apply below_alloc | apply pw_below_drewN | apply below_drew1 | refine below_set ?_ GE101.out | refine below_set ?_ GE102.out)⟩⟩
 case rest =>
  clear HC3
  obtain ⟨kq, x30_2, rfl, HA, HJ2, BK101, BK102, HB⟩ := hcut
  cases kq with
  | zero => exact absurd HA.out (by simp [impl_sameNode.j0])
  | succ kj2 =>
   have H := HA.out
   clear HA
   simp only [impl_sameNode.j0] at H
   by_cases c21 : x30_2 = true
   ·subst c21
    rw [if_pos rfl] at H
    obtain rfl := Oi H
    go_wp2
    go_ret
    exact ⟨rfl, by repeat (first | exact HB.out | apply below_alloc | apply pw_below_drewN | apply below_drew1 | refine below_set ?_ GE101.out | refine below_set ?_ GE102.out)⟩
   ·replace c21 := Bool.eq_false_iff.mpr c21
    subst c21
    rw [if_neg (show ¬ (false = true) by decide)] at H
    replace H := Ob H
    obtain ⟨t103, A220, H⟩ := H
    replace H : (if t103 = true then ((slices_Equal_int_int.f kj2 l0_5 l1_5).bind fun t104 => (some t104)) else (some false)) = some r := H
    have A22 := Ak A220
    clear A220
    by_cases c23 : t103 = true
    ·subst c23
     rw [if_pos rfl] at H
     replace H := Ob H
     obtain ⟨t104, A240, H⟩ := H
     replace H : (some t104) = some r := H
     have A24 := Ak A240
     clear A240
     obtain rfl := Oi H
     have hnb25 := NB101_102.out
     have hnc25 := NB102_101.out
     have hcz26_0 := blk_cell BK101.out 0
     have hcz26_1 := blk_cell BK101.out 1
     have hcz26_2 := blk_cell BK101.out 2
     have hcz26_3 := blk_cell BK101.out 3
     have hcz26_4 := blk_cell BK101.out 4
     have hcz26_5 := blk_cell BK101.out 5
     have hfz26_0 := blk_frozen BK101.out
     have hcz27_0 := blk_cell BK102.out 0
     have hcz27_1 := blk_cell BK102.out 1
     have hcz27_2 := blk_cell BK102.out 2
     have hcz27_3 := blk_cell BK102.out 3
     have hcz27_4 := blk_cell BK102.out 4
     have hcz27_5 := blk_cell BK102.out 5
     have hfz27_0 := blk_frozen BK102.out
     go_wp2_with (first | (go_at_call 114; (with_reducible refine (impl_Attr_114.calls kj2 _ _ l0_2 _ _ l1_2 true _ ?side1 ?side2 ?side3 ?side4 A22.out).mono ?_); (case side1 => exact (Kd.C_below HR0_2.out HB.out)); (case side2 => exact HC0_2.out); (case side3 => exact (Kd.C_below HR1_2.out HB.out)); (case side4 => exact HC1_2.out); rintro e w' ⟨rfl, ⟨nd, rfl⟩⟩) | (go_at_call 115; (with_reducible refine (slices_Equal_int_int.calls kj2 _ _ l0_5 _ _ l1_5 t104 _ ?side1 ?side2 ?side3 ?side4 A24.out).mono ?_); (case side1 => repeat (first | exact (Kd.C_below HR0_5.out (by repeat (first | exact HB.out | apply below_alloc | apply pw_below_drewN | apply below_drew1 | refine below_set ?_ GE101.out | refine below_set ?_ GE102.out))) | (with_reducible refine Kd.C_alloc ?_ _) | (with_reducible refine Kd.C_drewN ?_ _) | (with_reducible refine Kd.C_drew ?_))); (case side2 => exact HC0_5.out); (case side3 => repeat (first | exact (Kd.C_below HR1_5.out (by repeat (first | exact HB.out | apply below_alloc | apply pw_below_drewN | apply below_drew1 | refine below_set ?_ GE101.out | refine below_set ?_ GE102.out))) | (with_reducible refine Kd.C_alloc ?_ _) | (with_reducible refine Kd.C_drewN ?_ _) | (with_reducible refine Kd.C_drew ?_))); (case side4 => exact HC1_5.out); rintro e w' ⟨rfl, ⟨nd, rfl⟩⟩))
     go_ret
     exact ⟨rfl, by repeat (first | exact HB.out | apply below_alloc | apply pw_below_drewN | apply below_drew1 | refine below_set ?_ GE101.out | refine below_set ?_ GE102.out)⟩
    ·replace c23 := Bool.eq_false_iff.mpr c23
     subst c23
     rw [if_neg (show ¬ (false = true) by decide)] at H
     obtain rfl := Oi H
     have hnb28 := NB101_102.out
     have hnc28 := NB102_101.out
     have hcz29_0 := blk_cell BK101.out 0
     have hcz29_1 := blk_cell BK101.out 1
     have hcz29_2 := blk_cell BK101.out 2
     have hcz29_3 := blk_cell BK101.out 3
     have hcz29_4 := blk_cell BK101.out 4
     have hcz29_5 := blk_cell BK101.out 5
     have hfz29_0 := blk_frozen BK101.out
     have hcz30_0 := blk_cell BK102.out 0
     have hcz30_1 := blk_cell BK102.out 1
     have hcz30_2 := blk_cell BK102.out 2
     have hcz30_3 := blk_cell BK102.out 3
     have hcz30_4 := blk_cell BK102.out 4
     have hcz30_5 := blk_cell BK102.out 5
     have hfz30_0 := blk_frozen BK102.out
     go_wp2_with (first | (go_at_call 114; (with_reducible refine (impl_Attr_114.calls kj2 _ _ l0_2 _ _ l1_2 false _ ?side1 ?side2 ?side3 ?side4 A22.out).mono ?_); (case side1 => exact (Kd.C_below HR0_2.out HB.out)); (case side2 => exact HC0_2.out); (case side3 => exact (Kd.C_below HR1_2.out HB.out)); (case side4 => exact HC1_2.out); rintro e w' ⟨rfl, ⟨nd, rfl⟩⟩))
     go_ret
     exact ⟨rfl, by repeat (first | exact HB.out | apply below_alloc | apply pw_below_drewN | apply below_drew1 | refine below_set ?_ GE101.out | refine below_set ?_ GE102.out)⟩
def slices_EqualFunc.l0 : Nat → List S45 → List S45 → Int → Option Bool
 | 0, _, _, _ => none
 | k + 1, xs, ys, i => if i < (xs.length : Int) then (if 0 ≤ i then (if i < (ys.length : Int) then ((impl_sameNode.f k (rd_T45 xs i).f0 (rd_T45 xs i).f1 (rd_T45 xs i).f2 (rd_T45 xs i).f3 (rd_T45 xs i).f4 (rd_T45 xs i).f5 (rd_T45 ys i).f0 (rd_T45 ys i).f1 (rd_T45 ys i).f2 (rd_T45 ys i).f3 (rd_T45 ys i).f4 (rd_T45 ys i).f5).bind fun b => if b = true then slices_EqualFunc.l0 k xs ys (wrap64 (i + 1)) else some false) else none) else none) else some true
def slices_EqualFunc.f (k : Nat) (xs ys : List S45) : Option Bool := if (xs.length : Int) = (ys.length : Int) then slices_EqualFunc.l0 k xs ys 0 else some false
theorem slices_EqualFunc.mono0 : ∀ k a b i, LeO (slices_EqualFunc.l0 k a b i) (slices_EqualFunc.l0 (k + 1) a b i)
 | 0 => fun _ _ _ r h => by simp [slices_EqualFunc.l0] at h
 | k + 1 => fun a b i => by
  rw [slices_EqualFunc.l0, slices_EqualFunc.l0]
  exact LeO.ite (LeO.ite (LeO.ite (LeO.bind (impl_sameNode.mono _ _ _ _ _ _ _ _ _ _ _ _ k) (fun _ => LeO.ite (slices_EqualFunc.mono0 k _ _ _) (LeO.refl _))) (LeO.refl _)) (LeO.refl _)) (LeO.refl _)
theorem slices_EqualFunc.mono : ∀ a0 a1 k, LeO (slices_EqualFunc.f k a0 a1) (slices_EqualFunc.f (k + 1) a0 a1) := fun a0 a1 k => LeO.ite (slices_EqualFunc.mono0 k _ _ _) (LeO.refl _)
theorem slices_EqualFunc.calls (k : Nat) (A0 : Option Addr) (c0 : Nat) (xs : List S45) (A1 : Option Addr) (c1 : Nat) (ys : List S45) (r : Bool) (w : World) (hr0 : Kd.C k45 w A0 xs.length xs) (hr1 : Kd.C k45 w A1 ys.length ys) (h : slices_EqualFunc.f k xs ys = some r) :
 Calls Try.prog 89 #[.slice A0 xs.length c0, .slice A1 ys.length c1, .func (.func 90) #[] #[]] w fun e w' => e = .returned (.bool r) ∧ Below w.heap.size w w' := by
 unfold slices_EqualFunc.f at h
 have HC := Ak hr0
 have HD := Ak hr1
 clear hr0 hr1
 by_cases cl : (xs.length : Int) = (ys.length : Int)
 ·rw [if_pos cl] at h
  have HA := Ak h
  clear h
  have CL := Ak cl
  have clb : ((xs.length : Int) != (ys.length : Int)) = false := bne_eq_false_iff_eq.mpr cl
  clear cl
  go_enter Try.func89, Try.ntmps89
  go_wp2
  go_loopg [17] k (fun kq v17 w' => ∃ (i : Int), v17 = .int .i64 i ∧ Aside0 (slices_EqualFunc.l0 kq xs ys i = some r) ∧ Aside0 (kq ≤ k) ∧ Aside0 (Below w.heap.size w w'))
  case atStart => exact ⟨0, rfl, HA, ⟨Nat.le_refl _⟩, ⟨Below.refl _ _⟩⟩
  case round =>
   clear HA
   obtain ⟨i, rfl, HA, HK, HB⟩ := hrel
   cases gk with
   | zero => exact absurd HA.out (by simp [slices_EqualFunc.l0])
   | succ k1 =>
    have H := HA.out
    clear HA
    simp only [slices_EqualFunc.l0] at H
    by_cases g1 : i < (xs.length : Int)
    ·rw [if_pos g1] at H
     by_cases g2 : 0 ≤ i
     ·rw [if_pos g2] at H
      by_cases g3 : i < (ys.length : Int)
      ·rw [if_pos g3] at H
       obtain ⟨b, hb, H⟩ := Ob H
       have HA := Ak H
       have HS := Ak hb
       clear H hb
       have g1b : decide (i < (xs.length : Int)) = true := decide_eq_true g1
       obtain ⟨ad, A_2, c_2, A_5, c_5, e1, hx0, hx1, hx2, hx3, hx4, hx5, hl2, hi2, hl5, hi5⟩ := at_T45 HC.out i g2 g1
       obtain ⟨bd, B_2, d_2, B_5, d_5, e2, hy0, hy1, hy2, hy3, hy4, hy5, hm2, hj2, hm5, hj5⟩ := at_T45 HD.out i g2 g3
       subst e1
       subst e2
       have HI2 := Ak hi2
       have HI5 := Ak hi5
       have HJ2 := Ak hj2
       have HJ5 := Ak hj5
       have HL2 := Ak hl2
       have HL5 := Ak hl5
       have HM2 := Ak hm2
       have HM5 := Ak hm5
       clear hl2 hi2 hl5 hi5 hm2 hj2 hm5 hj5
       have hx0 := pw_cell_below HB.out hx0
       have hx1 := pw_cell_below HB.out hx1
       have hx2 := pw_cell_below HB.out hx2
       have hx3 := pw_cell_below HB.out hx3
       have hx4 := pw_cell_below HB.out hx4
       have hx5 := pw_cell_below HB.out hx5
       replace g1 := eq_true g1
       replace g2 := eq_true g2
       replace g3 := eq_true g3
       go_upto_region 6 with (fail)
       have hX := blk_new wr (.cells #[.int .i64 (rd_T45 xs i).f0, .string (rd_T45 xs i).f1, .slice A_2 (rd_T45 xs i).f2.length c_2, .string (rd_T45 xs i).f3, .int .i64 (rd_T45 xs i).f4, .slice A_5 (rd_T45 xs i).f5.length c_5] 45)
       have hl := below_alloc (Below.refl wr.heap.size wr) (.cells #[.int .i64 (rd_T45 xs i).f0, .string (rd_T45 xs i).f1, .slice A_2 (rd_T45 xs i).f2.length c_2, .string (rd_T45 xs i).f3, .int .i64 (rd_T45 xs i).f4, .slice A_5 (rd_T45 xs i).f5.length c_5] 45)
       generalize wr.alloc (.cells #[.int .i64 (rd_T45 xs i).f0, .string (rd_T45 xs i).f1, .slice A_2 (rd_T45 xs i).f2.length c_2, .string (rd_T45 xs i).f3, .int .i64 (rd_T45 xs i).f4, .slice A_5 (rd_T45 xs i).f5.length c_5] 45) = w1 at hX hl ⊢
       have HB1 := Ak (below_step HB.out hl)
       have HX := Ak hX
       clear hl hX hx0 hx1 hx2 hx3 hx4 hx5
       generalize wr.heap.size = gx at HX ⊢
       have hy0 := pw_cell_below HB1.out hy0
       have hy1 := pw_cell_below HB1.out hy1
       have hy2 := pw_cell_below HB1.out hy2
       have hy3 := pw_cell_below HB1.out hy3
       have hy4 := pw_cell_below HB1.out hy4
       have hy5 := pw_cell_below HB1.out hy5
       go_upto_region 7 with (fail)
       have hY := blk_new w1 (.cells #[.int .i64 (rd_T45 ys i).f0, .string (rd_T45 ys i).f1, .slice B_2 (rd_T45 ys i).f2.length d_2, .string (rd_T45 ys i).f3, .int .i64 (rd_T45 ys i).f4, .slice B_5 (rd_T45 ys i).f5.length d_5] 45)
       have hl := below_alloc (Below.refl w1.heap.size w1) (.cells #[.int .i64 (rd_T45 ys i).f0, .string (rd_T45 ys i).f1, .slice B_2 (rd_T45 ys i).f2.length d_2, .string (rd_T45 ys i).f3, .int .i64 (rd_T45 ys i).f4, .slice B_5 (rd_T45 ys i).f5.length d_5] 45)
       generalize w1.alloc (.cells #[.int .i64 (rd_T45 ys i).f0, .string (rd_T45 ys i).f1, .slice B_2 (rd_T45 ys i).f2.length d_2, .string (rd_T45 ys i).f3, .int .i64 (rd_T45 ys i).f4, .slice B_5 (rd_T45 ys i).f5.length d_5] 45) = w2 at hY hl ⊢
       have HX2 := Ak (blk_below HX.out hl)
       have HB2 := Ak (below_step HB1.out hl)
       have HY := Ak hY
       clear hl hY hy0 hy1 hy2 hy3 hy4 hy5
       generalize w1.heap.size = gy at HY ⊢
       have hx0 := blk_cell HX2.out 0
       have hx1 := blk_cell HX2.out 1
       have hx2 := blk_cell HX2.out 2
       have hx3 := blk_cell HX2.out 3
       have hx4 := blk_cell HX2.out 4
       have hx5 := blk_cell HX2.out 5
       have hy0 := blk_cell HY.out 0
       have hy1 := blk_cell HY.out 1
       have hy2 := blk_cell HY.out 2
       have hy3 := blk_cell HY.out 3
       have hy4 := blk_cell HY.out 4
       have hy5 := blk_cell HY.out 5
       have eg : ∀ args w, (callFunc 90 args).run Try.prog w = .ok (.enter 90 args) w := enters_of Try.func90 (by kernel_rfl) rfl
       cases b with
       | true =>
        have H := HA.out
        rw [if_pos rfl] at H
        have HA1 := Ak H
        clear H HA
        go_wp2_with (first | (go_at_fn 90; (with_reducible refine (impl_sameNode.calls k1 _ _ _ _ _ _ _ _ _ _ _ _ _ _ _ _ _ _ _ _ true w2 (Kd.C_below HI2.out HB2.out) HL2.out (Kd.C_below HI5.out HB2.out) HL5.out (Kd.C_below HJ2.out HB2.out) HM2.out (Kd.C_below HJ5.out HB2.out) HM5.out HS.out).mono ?_); rintro e w3 ⟨rfl, hb⟩; have HB3 := Ak (below_step HB2.out hb); clear hb))
        go_roundg k1
        case measure => have := HK.out; omega
        case rel => exact ⟨_, rfl, HA1, ⟨by have := HK.out; omega⟩, HB3⟩
       | false =>
        have H := HA.out
        rw [if_neg (by decide)] at H
        obtain rfl := Oi H
        clear H
        go_wp2_with (first | (go_at_fn 90; (with_reducible refine (impl_sameNode.calls k1 _ _ _ _ _ _ _ _ _ _ _ _ _ _ _ _ _ _ _ _ false w2 (Kd.C_below HI2.out HB2.out) HL2.out (Kd.C_below HI5.out HB2.out) HL5.out (Kd.C_below HJ2.out HB2.out) HM2.out (Kd.C_below HJ5.out HB2.out) HM5.out HS.out).mono ?_); rintro e w3 ⟨rfl, hb⟩; have HB3 := Ak (below_step HB2.out hb); clear hb))
        go_ret
        exact ⟨rfl, HB3.out⟩
      ·rw [if_neg g3] at H; cases H
     ·rw [if_neg g2] at H; cases H
    ·rw [if_neg g1] at H
     obtain rfl := Oi H
     clear H
     have g1b : decide (i < (xs.length : Int)) = false := decide_eq_false g1
     clear g1
     go_wp2
     go_ret
     exact ⟨rfl, HB.out⟩
 ·rw [if_neg cl] at h
  obtain rfl := Oi h
  clear h
  have clb : ((xs.length : Int) != (ys.length : Int)) = true := bne_iff_ne.mpr cl
  clear cl
  go_enter Try.func89, Try.ntmps89
  go_wp2
  go_ret
  exact ⟨rfl, Below.refl _ _⟩
def impl_sameTree.f (k : Nat) (xs ys : List S45) : Option Bool := slices_EqualFunc.f k xs ys
theorem impl_sameTree.mono : ∀ a0 a1 k, LeO (impl_sameTree.f k a0 a1) (impl_sameTree.f (k + 1) a0 a1) := slices_EqualFunc.mono
theorem impl_sameTree.calls (k : Nat) (A0 : Option Addr) (c0 : Nat) (xs : List S45) (A1 : Option Addr) (c1 : Nat) (ys : List S45) (r : Bool) (w : World) (hr0 : Kd.C k45 w A0 xs.length xs) (hr1 : Kd.C k45 w A1 ys.length ys) (h : impl_sameTree.f k xs ys = some r) :
 Calls Try.prog 46 #[.agg #[.slice A0 xs.length c0], .agg #[.slice A1 ys.length c1]] w fun e w' => e = .returned (.bool r) ∧ Below w.heap.size w w' := by
 unfold impl_sameTree.f at h
 have HA := Ak h
 have HC := Ak hr0
 have HD := Ak hr1
 clear h hr0 hr1
 go_enter Try.func46, Try.ntmps46
 go_upto_region 1 with (first
  | ((with_reducible refine gate_dst (N := 2) rfl ?_); refine box_event ?hg (N := 2) ?hd (cs := #[.slice A0 xs.length c0]) (t := 29) ?hr ?_; (case hd => rfl); (case hg => rfl); (case hr => first | (go_simp; done) | (go_simp; rfl)); intro ga hg w1 hbox hb; have HX := Ak hbox; have HB1 := Ak hb; clear hbox hb hg)
  | ((with_reducible refine gate_dst (N := 3) rfl ?_); refine box_event ?hg (N := 3) ?hd (cs := #[.slice A1 ys.length c1]) (t := 29) ?hr ?_; (case hd => rfl); (case hg => rfl); (case hr => first | (go_simp; done) | (go_simp; rfl)); intro gb hg w2 hbox hb; have HX2 := Ak (blk_below HX.out hb); have HY := Ak hbox; have HB2 := Ak (below_step HB1.out hb); clear hbox hb hg))
 have eg : ∀ args w, (callFunc 90 args).run Try.prog w = .ok (.enter 90 args) w := enters_of Try.func90 (by kernel_rfl) rfl
 have hca := blk_cell HX2.out 0
 have hcb := blk_cell HY.out 0
 go_wp2_with (first | (go_at_call 89; (with_reducible refine (slices_EqualFunc.calls k A0 c0 xs A1 c1 ys r w2 (Kd.C_below HC.out HB2.out) (Kd.C_below HD.out HB2.out) HA.out).mono ?_); rintro e w3 ⟨rfl, hb⟩; have HB3 := Ak (below_step HB2.out hb); clear hb))
 go_ret
 exact ⟨rfl, HB3.out⟩
mutual
def impl_Tree_below.l0 : Nat → List Int → List Int → List (S45) → Option (List Int)
 | 0, _, _, _ => none
 | k + 1, x5, x6, x1000 => if (x6.length : Int) > 0 then (if 0 ≤ (wrap64 ((x6.length : Int) - 1)) then (if (wrap64 ((x6.length : Int) - 1)) < (x6.length : Int) then (if (wrap64 ((x6.length : Int) - 1)) ≤ (x6.length : Int) then (if x5.length < 17592186044416 then (if 0 ≤ (rd x6 (wrap64 ((x6.length : Int) - 1))) then (if (rd x6 (wrap64 ((x6.length : Int) - 1))) < (x1000.length : Int) then (impl_Tree_below.l1 k (x5 ++ [rd x6 (wrap64 ((x6.length : Int) - 1))]) (x6.take ((wrap64 ((x6.length : Int) - 1)) : Int).toNat) ((rd_T45 x1000 (rd x6 (wrap64 ((x6.length : Int) - 1)))).f5) (wrap64 ((((rd_T45 x1000 (rd x6 (wrap64 ((x6.length : Int) - 1)))).f5).length : Int) - 1)) x1000) else (none)) else (none)) else (none)) else (none)) else (none)) else (none)) else (some x5)
def impl_Tree_below.l1 : Nat → List Int → List Int → List Int → Int → List (S45) → Option (List Int)
 | 0, _, _, _, _, _ => none
 | k + 1, x5, x6, x8, x9, x1000 => if x9 ≥ 0 then (if 0 ≤ x9 then (if x9 < (x8.length : Int) then (if x6.length < 17592186044416 then (impl_Tree_below.l1 k x5 (x6 ++ [rd x8 x9]) x8 (wrap64 (x9 - 1)) x1000) else (none)) else (none)) else (none)) else (impl_Tree_below.l0 k x5 x6 x1000)
end
def impl_Tree_below.f (k : Nat) (s0_0 : List (S45)) (a1 : Int) : Option (List Int) := impl_Tree_below.l0 k ([] : List Int) (([a1] : List Int)) s0_0
theorem impl_Tree_below.mono_l : ∀ k, (∀ y0 y1 y2, LeO (impl_Tree_below.l0 k y0 y1 y2) (impl_Tree_below.l0 (k + 1) y0 y1 y2)) ∧ (∀ y0 y1 y2 y3 y4, LeO (impl_Tree_below.l1 k y0 y1 y2 y3 y4) (impl_Tree_below.l1 (k + 1) y0 y1 y2 y3 y4))
 | 0 => ⟨fun _ _ _ r h => by simp [impl_Tree_below.l0] at h, fun _ _ _ _ _ r h => by simp [impl_Tree_below.l1] at h⟩
 | k + 1 => by
  obtain ⟨ih0, ih1⟩ := impl_Tree_below.mono_l k
  refine ⟨?_, ?_⟩
  ·intro y0 y1 y2
   unfold impl_Tree_below.l0
   repeat' (with_reducible first | exact ih0 _ _ _ | exact ih1 _ _ _ _ _ | exact LeO.refl _ | exact LeO.none _ | refine LeO.ite ?_ ?_ | refine LeO.bind ?_ (fun _ => ?_))
  ·intro y0 y1 y2 y3 y4
   unfold impl_Tree_below.l1
   repeat' (with_reducible first | exact ih0 _ _ _ | exact ih1 _ _ _ _ _ | exact LeO.refl _ | exact LeO.none _ | refine LeO.ite ?_ ?_ | refine LeO.bind ?_ (fun _ => ?_))
theorem impl_Tree_below.mono : ∀ a0 a1 k, LeO (impl_Tree_below.f k a0 a1) (impl_Tree_below.f (k + 1) a0 a1) := by
 intro a0 a1 k
 obtain ⟨ih0, ih1⟩ := impl_Tree_below.mono_l k
 unfold impl_Tree_below.f
 repeat' (with_reducible first | exact ih0 _ _ _ | exact ih1 _ _ _ _ _ | exact LeO.refl _ | exact LeO.none _ | refine LeO.ite ?_ ?_ | refine LeO.bind ?_ (fun _ => ?_))
theorem impl_Tree_below.calls (k : Nat) (g : Nat) (s0_0 : List (S45)) (a1 : Int) (r : List Int) (w0 w : World) (hI : IsS29 w0 w g s0_0) (hB : Below w0.heap.size w0 w) (h : impl_Tree_below.f k s0_0 a1 = some r) :
 Calls Try.prog 65 #[.pointer (some ⟨g, 0, none⟩), .int .i64 a1] w fun e w' => ∃ v0_ : Value, e = .returned (v0_) ∧ Kd.R (Kd.int .i64) 3 w' w.heap.size (fun _ => True) v0_ r ∧ IsS29 w0 w' g s0_0 ∧ Below w0.heap.size w0 w' ∧ KeepBut w w' g none := by
 have HI0 := Ak hI
 have HK := Ak (KeepBut.refl w g none)
 have HL := Ak hB.size
 clear hI
 have HW0 := Ak hB.size
 have HB := Ak hB
 clear hB
 have H : (impl_Tree_below.l0 k ([] : List Int) (([a1] : List Int)) s0_0) = some r := h
 clear h
 obtain ⟨y101, hy101⟩ : ∃ y_ : List Int, y_ = (([a1] : List Int)) := ⟨_, rfl⟩
 replace H : (impl_Tree_below.l0 k ([] : List Int) y101 s0_0) = some r := by rw [hy101]; exact H
 have Ny101 := Ak hy101
 clear hy101
 have H' := Ak H
 clear H
 go_enter Try.func65, Try.ntmps65
 go_wp2_with (first | ((with_reducible refine gate_dst (N := 11) rfl ?_); refine Kd.R_lit (Kd.int .i64) _ 3 ?hg (N := 11) ?hd (xs := ([a1] : List Int)) (inner := [.int .i64 a1]) (ok := fun _ => True) (okp := fun _ => True) ?hr ?hp (fun _ hk => hk) trivial (Below.refl _ _) (Nat.le_refl _) (by simp) ?_; (case hd => rfl); (case hg => rfl); (case hr => first | (go_simp; done) | (go_simp; rfl)); (case hp => exact (Reps.one (show Kd.M (Kd.int .i64) _ _ _ a1 [.int .i64 a1] from rfl) (Reps.none _ _))); intro v102 w3 ho4 hb hg_ hnew_; clear hg_ hnew_; (first | rw [← Ny101.out] at ho4 | (simp only [Int.reduceToNat] at ho4; rw [← Ny101.out] at ho4)); replace HO103 := Ak (Kd.R_lower ho4 (keep_size (w := w) (g := g) (row := none) (HK.out))); replace HI0 := Ak (IsS29.below (HI0.out) hb); replace HK := Ak (KeepBut.trans (HK.out) (KeepBut.of_below hb g none) (.inl rfl)); replace HB := Ak (below_step (by repeat (first | exact HB.out | apply below_alloc | apply pw_below_drewN | apply below_drew1 | refine below_set ?_ (IsS29.ge HI0.out))) hb); clear hb ho4))
 go_loopg [5, 6] k (fun kq v5 v6 w' => ∃ (x5_1 : List Int) (x6_1 : List Int), Aside0 (impl_Tree_below.l0 kq x5_1 x6_1 s0_0 = some r) ∧ Aside0 (kq ≤ k) ∧ Aside0 (Kd.R (Kd.int .i64) 3 w' w.heap.size (fun k_ => some k_ ≠ (v6 : Value).ownBlock) v5 x5_1) ∧ Aside0 (Kd.R (Kd.int .i64) 3 w' w.heap.size (fun k_ => some k_ ≠ (v5 : Value).ownBlock) v6 x6_1) ∧ Aside0 (IsS29 w0 w' g s0_0) ∧ Aside0 (KeepBut w w' g none) ∧ Aside0 (Below w0.heap.size w0 w'))
 case atStart => exact ⟨(([] : List Int)), (y101), H', ⟨Nat.le_refl _⟩, ⟨by first | exact Kd.R_nil _ _ _ _ _ | exact Kd.N_nil _ _ _ _ _ | exact Kd.V_nil _ _ _ _ _ | exact Kd.Q_nil _ _ _ _ _ | exact Kd.S_nil _ _ _ _ _⟩, ⟨by (with_reducible repeat (first | apply Kd.R_alloc | apply Kd.R_drewN | apply Kd.R_drew)); exact Kd.R_mono HO103.out (fun _ hk => (by simp [Value.ownBlock]))⟩, ⟨HI0.out⟩, ⟨HK.out⟩, ⟨by repeat (first | exact HB.out | apply below_alloc | apply pw_below_drewN | apply below_drew1 | refine below_set ?_ (IsS29.ge HI0.out))⟩⟩
 case round =>
  clear H'
  obtain ⟨x5_1, x6_1, HA, HK1, HO_5, HO_6, HI0, HK, HB⟩ := hrel
  cases gk with
  | zero => exact absurd HA.out (by simp [impl_Tree_below.l0])
  | succ k1 =>
   have H := HA.out
   clear HA
   simp only [impl_Tree_below.l0] at H
   by_cases c5 : (x6_1.length : Int) > 0
   ·rw [if_pos c5] at H
    have c5b0 : decide (0 < (x6_1.length : Int)) = true := decide_eq_true c5
    have c5b1 : decide (0 < x6_1.length) = true := decide_eq_true (by omega)
    clear c5
    obtain ⟨ji6, hji6⟩ : ∃ j_ : Int, (wrap64 ((x6_1.length : Int) - 1)) = j_ := ⟨_, rfl⟩
    replace H : (if 0 ≤ (ji6) then (if (ji6) < (x6_1.length : Int) then (if (ji6) ≤ (x6_1.length : Int) then (if x5_1.length < 17592186044416 then (if 0 ≤ (rd x6_1 (ji6)) then (if (rd x6_1 (ji6)) < (s0_0.length : Int) then (impl_Tree_below.l1 k1 (x5_1 ++ [rd x6_1 (ji6)]) (x6_1.take ((ji6) : Int).toNat) ((rd_T45 s0_0 (rd x6_1 (ji6))).f5) (wrap64 ((((rd_T45 s0_0 (rd x6_1 (ji6))).f5).length : Int) - 1)) s0_0) else (none)) else (none)) else (none)) else (none)) else (none)) else (none)) = some r := by first | (rw [hji6] at H; exact H) | (simp only [hji6] at H ⊢; exact H)
    have hji6w : (IntKind.i64.wrap ((x6_1.length : Int) - 1)) = ji6 := (i64_w _).trans hji6
    by_cases c7 : 0 ≤ (ji6)
    ·rw [if_pos c7] at H
     have c7b0 := decide_eq_true c7
     clear c7
     by_cases c8 : (ji6) < (x6_1.length : Int)
     ·rw [if_pos c8] at H
      have c8b0 := decide_eq_true c8
      clear c8
      by_cases c9 : (ji6) ≤ (x6_1.length : Int)
      ·rw [if_pos c9] at H
       have c9b0 := eq_true c9
       have c9b1 := decide_eq_true c9
       clear c9
       obtain ⟨y105, hy105⟩ : ∃ y_ : List Int, y_ = (x6_1.take ((ji6) : Int).toNat) := ⟨_, rfl⟩
       replace H : (if x5_1.length < 17592186044416 then (if 0 ≤ (rd x6_1 (ji6)) then (if (rd x6_1 (ji6)) < (s0_0.length : Int) then (impl_Tree_below.l1 k1 (x5_1 ++ [rd x6_1 (ji6)]) y105 ((rd_T45 s0_0 (rd x6_1 (ji6))).f5) (wrap64 ((((rd_T45 s0_0 (rd x6_1 (ji6))).f5).length : Int) - 1)) s0_0) else (none)) else (none)) else (none)) = some r := by rw [hy105]; exact H
       have Ny105 := Ak hy105
       clear hy105
       by_cases c10 : x5_1.length < 17592186044416
       ·rw [if_pos c10] at H
        have LMc10 := Ak c10
        clear c10
        obtain ⟨y108, hy108⟩ : ∃ y_ : List Int, y_ = (x5_1 ++ [rd x6_1 (ji6)]) := ⟨_, rfl⟩
        replace H : (if 0 ≤ (rd x6_1 (ji6)) then (if (rd x6_1 (ji6)) < (s0_0.length : Int) then (impl_Tree_below.l1 k1 y108 y105 ((rd_T45 s0_0 (rd x6_1 (ji6))).f5) (wrap64 ((((rd_T45 s0_0 (rd x6_1 (ji6))).f5).length : Int) - 1)) s0_0) else (none)) else (none)) = some r := by rw [hy108]; exact H
        have Ny108 := Ak hy108
        clear hy108
        by_cases c11 : 0 ≤ (rd x6_1 (ji6))
        ·rw [if_pos c11] at H
         have c11b0 := decide_eq_true c11
         clear c11
         by_cases c12 : (rd x6_1 (ji6)) < (s0_0.length : Int)
         ·rw [if_pos c12] at H
          have c12b0 := decide_eq_true c12
          clear c12
          have H' := Ak H
          clear H
          obtain ⟨Ao13, co13, eo13⟩ := Kd.R_slice HO_6.out
          subst eo13
          have p104 : 0 ≤ ((ji6) : Int) := of_decide_eq_true (by assumption)
          have q104 : (ji6) < (x6_1.length : Int) := of_decide_eq_true (by assumption)
          obtain ⟨ad104, e104, hx104_0⟩ := Kd.at_int (Kd.R_reads' HO_6.out).2.2 (ji6) p104 q104
          cases e104
          replace p104 := eq_true p104
          replace q104 := eq_true q104
          have q14 : ((ji6) : Int) ≤ ((x6_1.length : Int) : Int) := of_decide_eq_true (by assumption)
          obtain ⟨i014, hi014, _, hsz14, _⟩ := info_parts info3
          have hcut14 := cut_to (P := Try.prog) 37 3 .i64 Try.underlying37 hi014 (some ad104) x6_1.length co13 (ji6) (of_decide_eq_true (by assumption)) q14 (Kd.R_reads' HO_6.out).2.1
          have hr14 := Kd.R_take (m := ((ji6) : Int).toNat) HO_6.out (by omega)
          have hy14 : y105.length = ((ji6) : Int).toNat := (by rw [Ny105.out, List.length_take]; omega)
          rw [← Ny105.out] at hr14
          rw [← hy14] at hr14 hcut14
          clear hy14 hi014 hsz14 HO_6
          have HO107 := Ak hr14
          clear hr14
          replace q14 := eq_true q14
          go_wp2_with (first | ((with_reducible refine gate_builtin (b := .append) (xs := #[.tmp 26, .tmp 28]) rfl ?_); at_builtin; refine Kd.R_append (Kd.int .i64) w.heap.size rfl (.tmp 26) (.tmp 28) 37 3 (.int .i64 0) 8 rfl Try.underlying37 info3 rfl (by decide) (by omega) u5 x5_1 (rd x6_1 (ji6)) [.int .i64 (rd x6_1 (ji6))] (fun k_ => some k_ ≠ (.slice (some ad104) y105.length co13 : Value).ownBlock) (fun _ => False) rfl rfl ?aP (fun _ hk => hk.elim) ?aF ?aO (Below.refl _ _) ?aS ?aL ?_; (case aP => exact rfl); (case aF => exact (fun k_ hk => Kd.fresh' (Kd.R_lt HO107.out) k_ hk)); (case aO => exact HO_5.out); (case aS => exact (keep_size (w := w) (g := g) (row := none) (HK.out))); (case aL => have := LMc10.out; omega); intro v109 w15 ho hb hg hat; rw [← Ny108.out] at ho; replace HO107 := Ak (Kd.R_after (ok := (fun _ => True)) (by (with_reducible repeat (first | apply Kd.R_alloc | apply Kd.R_drewN | apply Kd.R_drew)); exact Kd.R_mono HO107.out (fun _ hk => ⟨trivial, hk⟩)) hg hat); replace HI0 := Ak (IsS29.grown (HI0.out) hg (IsS29.own_ne HI0.out HO_5.out (by decide))); replace HK := Ak (KeepBut.trans (HK.out) (KeepBut.of_grown hg g) (Kd.R_base2 HO_5.out)); replace HO110 := Ak (ho); replace HB := Ak (below_weaken (by repeat (first | exact HB.out | apply below_alloc | apply pw_below_drewN | apply below_drew1 | refine below_set ?_ (IsS29.ge HI0.out))) HL.out hb); clear ho hb hg hat; obtain ⟨ASz16_0, cSz16_0, HGz16, hgz16, HSz16_0⟩ := HI0.out; have hcz16_0 := cellS29_0 HGz16; clear HGz16 hgz16; have p111 : 0 ≤ ((rd x6_1 (ji6)) : Int) := of_decide_eq_true (by assumption); have q111 : (rd x6_1 (ji6)) < (s0_0.length : Int) := of_decide_eq_true (by assumption); obtain ⟨ad111, A111_2, c111_2, A111_5, c111_5, e111, hx111_0, hx111_1, hx111_2, hx111_3, hx111_4, hx111_5, hl111_2, hi111_2, hl111_5, hi111_5⟩ := at_T45 HSz16_0 (rd x6_1 (ji6)) p111 q111; cases e111; replace hx111_0 := pw_cell_below HB.out hx111_0; replace hx111_1 := pw_cell_below HB.out hx111_1; replace hx111_2 := pw_cell_below HB.out hx111_2; replace hx111_3 := pw_cell_below HB.out hx111_3; replace hx111_4 := pw_cell_below HB.out hx111_4; replace hx111_5 := pw_cell_below HB.out hx111_5; have HR111_2 := Ak hi111_2; have HC111_2 := Ak hl111_2; clear hi111_2 hl111_2; have HR111_5 := Ak hi111_5; have HC111_5 := Ak hl111_5; clear hi111_5 hl111_5; replace p111 := eq_true p111; replace q111 := eq_true q111))
          go_loopg [6, 9] k1 (fun kq v6 v9 w' => ∃ (x6_2 : List Int) (x9_2 : Int), v9 = .int .i64 x9_2 ∧ Aside0 (impl_Tree_below.l1 kq y108 x6_2 ((rd_T45 s0_0 (rd x6_1 (ji6))).f5) x9_2 s0_0 = some r) ∧ Aside0 (kq ≤ k1) ∧ Aside0 (Kd.R (Kd.int .i64) 3 w' w.heap.size (fun k_ => some k_ ≠ (v6 : Value).ownBlock) v109 y108) ∧ Aside0 (Kd.R (Kd.int .i64) 3 w' w.heap.size (fun k_ => some k_ ≠ (v109 : Value).ownBlock) v6 x6_2) ∧ Aside0 (IsS29 w0 w' g s0_0) ∧ Aside0 (KeepBut w w' g none) ∧ Aside0 (Below w0.heap.size w0 w'))
          case atStart => exact ⟨(y105), (wrap64 ((((rd_T45 s0_0 (rd x6_1 (ji6))).f5).length : Int) - 1)), (by first | rfl | (simp; done) | (simp only [← hji6] <;> (first | rfl | simp)) | (simp [*]; done)), H', ⟨Nat.le_refl _⟩, ⟨by (with_reducible repeat (first | apply Kd.R_alloc | apply Kd.R_drewN | apply Kd.R_drew)); exact HO110.out⟩, ⟨by (with_reducible repeat (first | apply Kd.R_alloc | apply Kd.R_drewN | apply Kd.R_drew)); exact Kd.R_mono HO107.out (fun _ hk => hk.2)⟩, ⟨HI0.out⟩, ⟨HK.out⟩, ⟨by repeat (first | exact HB.out | apply below_alloc | apply pw_below_drewN | apply below_drew1 | refine below_set ?_ (IsS29.ge HI0.out))⟩⟩
          case round =>
           clear H'
           obtain ⟨x6_2, x9_2, rfl, HA, HK2, HO_5, HO_6, HI0, HK, HB⟩ := hrel
           cases gk with
           | zero => exact absurd HA.out (by simp [impl_Tree_below.l1])
           | succ k2 =>
            have H := HA.out
            clear HA
            simp only [impl_Tree_below.l1] at H
            by_cases c17 : x9_2 ≥ 0
            ·rw [if_pos c17] at H
             have c17b0 : decide (0 ≤ x9_2) = true := decide_eq_true c17
             clear c17
             by_cases c18 : 0 ≤ x9_2
             ·rw [if_pos c18] at H
              have c18b0 := decide_eq_true c18
              clear c18
              by_cases c19 : x9_2 < (((rd_T45 s0_0 (rd x6_1 (ji6))).f5).length : Int)
              ·rw [if_pos c19] at H
               have c19b0 := decide_eq_true c19
               clear c19
               by_cases c20 : x6_2.length < 17592186044416
               ·rw [if_pos c20] at H
                have LMc20 := Ak c20
                clear c20
                obtain ⟨y113, hy113⟩ : ∃ y_ : List Int, y_ = (x6_2 ++ [rd ((rd_T45 s0_0 (rd x6_1 (ji6))).f5) x9_2]) := ⟨_, rfl⟩
                replace H : (impl_Tree_below.l1 k2 y108 y113 ((rd_T45 s0_0 (rd x6_1 (ji6))).f5) (wrap64 (x9_2 - 1)) s0_0) = some r := by rw [hy113]; exact H
                have Ny113 := Ak hy113
                clear hy113
                have H' := Ak H
                clear H
                have p112 : 0 ≤ (x9_2 : Int) := of_decide_eq_true (by assumption)
                have q112 : x9_2 < (((rd_T45 s0_0 (rd x6_1 (ji6))).f5).length : Int) := of_decide_eq_true (by assumption)
                obtain ⟨ad112, e112, hx112_0⟩ := Kd.at_int HR111_5.out x9_2 p112 q112
                cases e112
                replace hx112_0 := pw_cell_below HB.out hx112_0
                replace p112 := eq_true p112
                replace q112 := eq_true q112
                go_wp2_with (first | ((with_reducible refine gate_builtin (b := .append) (xs := #[.tmp 45, .tmp 50]) rfl ?_); at_builtin; refine Kd.R_append (Kd.int .i64) w.heap.size rfl (.tmp 45) (.tmp 50) 37 3 (.int .i64 0) 8 rfl Try.underlying37 info3 rfl (by decide) (by omega) u6 x6_2 (rd ((rd_T45 s0_0 (rd x6_1 (ji6))).f5) x9_2) [.int .i64 (rd ((rd_T45 s0_0 (rd x6_1 (ji6))).f5) x9_2)] (fun k_ => some k_ ≠ (v109 : Value).ownBlock) (fun _ => False) rfl rfl ?aP (fun _ hk => hk.elim) ?aF ?aO (Below.refl _ _) ?aS ?aL ?_; (case aP => exact rfl); (case aF => exact (fun k_ hk => Kd.fresh' (Kd.R_lt HO_5.out) k_ hk)); (case aO => exact HO_6.out); (case aS => exact (keep_size (w := w) (g := g) (row := none) (HK.out))); (case aL => have := LMc20.out; omega); intro v114 w21 ho hb hg hat; rw [← Ny113.out] at ho; replace HO_5 := Ak (Kd.R_after (ok := (fun _ => True)) (by (with_reducible repeat (first | apply Kd.R_alloc | apply Kd.R_drewN | apply Kd.R_drew)); exact Kd.R_mono HO_5.out (fun _ hk => ⟨trivial, hk⟩)) hg hat); replace HI0 := Ak (IsS29.grown (HI0.out) hg (IsS29.own_ne HI0.out HO_6.out (by decide))); replace HK := Ak (KeepBut.trans (HK.out) (KeepBut.of_grown hg g) (Kd.R_base2 HO_6.out)); replace HO115 := Ak (ho); replace HB := Ak (below_weaken (by repeat (first | exact HB.out | apply below_alloc | apply pw_below_drewN | apply below_drew1 | refine below_set ?_ (IsS29.ge HI0.out))) HL.out hb); clear ho hb hg hat))
                go_roundg k2
                case measure => have := HK1.out; have := HK2.out; omega
                case rel => exact ⟨(y113), (wrap64 (x9_2 - 1)), rfl, H', ⟨by have := HK1.out; have := HK2.out; omega⟩, ⟨by (with_reducible repeat (first | apply Kd.R_alloc | apply Kd.R_drewN | apply Kd.R_drew)); exact Kd.R_mono HO_5.out (fun _ hk => hk.2)⟩, ⟨by (with_reducible repeat (first | apply Kd.R_alloc | apply Kd.R_drewN | apply Kd.R_drew)); exact HO115.out⟩, ⟨HI0.out⟩, ⟨HK.out⟩, ⟨by repeat (first | exact HB.out | apply below_alloc | apply pw_below_drewN | apply below_drew1 | refine below_set ?_ (IsS29.ge HI0.out))⟩⟩
               ·rw [if_neg c20] at H
                exact absurd H (by simp)
              ·rw [if_neg c19] at H
               exact absurd H (by simp)
             ·rw [if_neg c18] at H
              exact absurd H (by simp)
            ·rw [if_neg c17] at H
             have c17b0 : decide (0 ≤ x9_2) = false := decide_eq_false c17
             clear c17
             have H' := Ak H
             clear H
             go_wp2
             go_roundg k2
             case measure => have := HK1.out; have := HK2.out; omega
             case rel => exact ⟨(y108), (x6_2), H', ⟨by have := HK1.out; have := HK2.out; omega⟩, ⟨by (with_reducible repeat (first | apply Kd.R_alloc | apply Kd.R_drewN | apply Kd.R_drew)); exact HO_5.out⟩, ⟨by (with_reducible repeat (first | apply Kd.R_alloc | apply Kd.R_drewN | apply Kd.R_drew)); exact HO_6.out⟩, ⟨HI0.out⟩, ⟨HK.out⟩, ⟨by repeat (first | exact HB.out | apply below_alloc | apply pw_below_drewN | apply below_drew1 | refine below_set ?_ (IsS29.ge HI0.out))⟩⟩
         ·rw [if_neg c12] at H
          exact absurd H (by simp)
        ·rw [if_neg c11] at H
         exact absurd H (by simp)
       ·rw [if_neg c10] at H
        exact absurd H (by simp)
      ·rw [if_neg c9] at H
       exact absurd H (by simp)
     ·rw [if_neg c8] at H
      exact absurd H (by simp)
    ·rw [if_neg c7] at H
     exact absurd H (by simp)
   ·rw [if_neg c5] at H
    have c5b0 : decide (0 < (x6_1.length : Int)) = false := decide_eq_false c5
    have c5b1 : decide (0 < x6_1.length) = false := decide_eq_false (by omega)
    clear c5
    obtain rfl := Oi H
    obtain ⟨Ao22, co22, eo22⟩ := Kd.R_slice HO_6.out
    subst eo22
    go_wp2
    go_ret
    exact ⟨_, rfl, by (with_reducible repeat (first | apply Kd.R_alloc | apply Kd.R_drewN | apply Kd.R_drew)); exact Kd.R_mono HO_5.out (fun _ hk => trivial), HI0.out, by repeat (first | exact HB.out | apply below_alloc | apply pw_below_drewN | apply below_drew1 | refine below_set ?_ (IsS29.ge HI0.out)), HK.out⟩
def impl_Attr_97.f (l0 : List S98) : Option (List S98) := if l0.length < 4398046511104 then some l0 else none
theorem impl_Attr_97.calls (A0 : Option Addr) (c0 : Nat) (l0 : List S98) (r : List S98) (w : World) (hr0 : Kd.C k98 w A0 l0.length l0) (hc0 : l0.length ≤ c0) (h : impl_Attr_97.f l0 = some r) :
 Calls Try.prog 97 #[.slice A0 l0.length c0] w fun e w' => ∃ v0_ : Value, e = .returned (v0_) ∧ Kd.R k98 98 w' w.heap.size (fun _ => True) v0_ r ∧ Below w.heap.size w w' := by
 have HR0 := Ak hr0
 have HC0 := Ak hc0
 clear hr0 hc0
 unfold impl_Attr_97.f at h
 have hl : l0.length < 4398046511104 := by
  by_cases g : l0.length < 4398046511104
  ·exact g
  ·rw [if_neg g] at h; cases h
 rw [if_pos hl] at h
 have e_ := Oi h
 clear h
 subst e_
 have LM := Ak hl
 clear hl
 have HB := Ak (Below.refl w.heap.size w)
 have q22 : ∀ (W : World) (a : Option Addr) (n c n' c' : Nat), (binOp .eql 43 (.slice a n c) (.slice none n' c')).run Try.prog W = .ok (.bool a.isNone) W := fun W a n c n' c' => Lib.run_eql_slice_nil W _ _ a n c n' c' Try.underlying43
 cases A0 with
 | none =>
  have h0 : l0 = [] := by
   cases l0 with
   | nil => rfl
   | cons x xs =>
    obtain ⟨ad, h1, _⟩ := HR0.out.2.2 (by simp)
    cases h1
  subst h0
  go_enter Try.func97, Try.ntmps97
  go_wp2
  go_ret
  exact ⟨_, rfl, Kd.R_nil _ _ _ _ _, Below.refl _ _⟩
 | some ad =>
  go_enter Try.func97, Try.ntmps97
  go_wp2_with (first | ((with_reducible refine gate_dst (N := 5) rfl ?_); refine Kd.R_lit k98 w.heap.size 98 ?hg (N := 5) ?hd (xs := ([] : List S98)) (inner := []) (ok := fun _ => True) (okp := fun _ => True) ?hr ?hp (fun _ hk => hk) trivial HB.out (Nat.le_refl _) (by simp) ?_; (case hd => rfl); (case hg => rfl); (case hr => first | (go_simp; done) | (go_simp; rfl)); (case hp => exact (Reps.none _ _)); intro v1 w1 ho1 hb1 hg1 hn1; have HO1 := Ak ho1; have n_ := Ak hb1; clear HB; have HB := n_; clear n_ ho1 hb1 hg1 hn1) | (at_builtin; refine Kd.R_append_rows k98 (w0 := w) w.heap.size rfl (.tmp 5) (.tmp 6) 43 98 (.agg #[(.string ⟨#[]⟩), (.string ⟨#[]⟩)]) 32 rfl Try.underlying43 info98 rfl (by decide) (by omega) v1 ([] : List S98) l0 _ _ _ (fun _ => True) (fun _ => False) rfl rfl ?aO ?aR (fun _ _ h => h) (fun _ h => h.elim) ?aF ?aB ?aS ?aL ?_; (case aR => repeat (first | exact (Kd.C_below HR0.out HB.out) | (with_reducible refine Kd.C_alloc ?_ _) | (with_reducible refine Kd.C_drewN ?_ _) | (with_reducible refine Kd.C_drew ?_))); (case aB => exact HB.out); (case aF => exact (fun _ _ => trivial)); (case aO => exact HO1.out); (case aS => exact (below_size HB.out)); (case aL => have := LM.out; simp only [List.length_nil]; omega); intro v2 w2 ho2 hb2 hg2 hat2; have HO2 := Ak ho2; have n_ := Ak hb2; clear HB; have HB := n_; clear n_ ho2 hb2 hg2 hat2))
  go_ret
  exact ⟨_, rfl, by simpa using HO2.out, HB.out⟩
def slices_Clone_int_int.f (l0 : List Int) : Option (List Int) := if l0.length < 17592186044416 then some l0 else none
theorem slices_Clone_int_int.calls (A0 : Option Addr) (c0 : Nat) (l0 : List Int) (r : List Int) (w : World) (hr0 : Kd.C (Kd.int .i64) w A0 l0.length l0) (hc0 : l0.length ≤ c0) (h : slices_Clone_int_int.f l0 = some r) :
 Calls Try.prog 116 #[.slice A0 l0.length c0] w fun e w' => ∃ v0_ : Value, e = .returned (v0_) ∧ Kd.R (Kd.int .i64) 3 w' w.heap.size (fun _ => True) v0_ r ∧ Below w.heap.size w w' := by
 have HR0 := Ak hr0
 have HC0 := Ak hc0
 clear hr0 hc0
 unfold slices_Clone_int_int.f at h
 have hl : l0.length < 17592186044416 := by
  by_cases g : l0.length < 17592186044416
  ·exact g
  ·rw [if_neg g] at h; cases h
 rw [if_pos hl] at h
 have e_ := Oi h
 clear h
 subst e_
 have LM := Ak hl
 clear hl
 have HB := Ak (Below.refl w.heap.size w)
 have q22 : ∀ (W : World) (a : Option Addr) (n c n' c' : Nat), (binOp .eql 37 (.slice a n c) (.slice none n' c')).run Try.prog W = .ok (.bool a.isNone) W := fun W a n c n' c' => Lib.run_eql_slice_nil W _ _ a n c n' c' Try.underlying37
 cases A0 with
 | none =>
  have h0 : l0 = [] := by
   cases l0 with
   | nil => rfl
   | cons x xs =>
    obtain ⟨ad, h1, _⟩ := HR0.out.2.2 (by simp)
    cases h1
  subst h0
  go_enter Try.func116, Try.ntmps116
  go_wp2
  go_ret
  exact ⟨_, rfl, Kd.R_nil _ _ _ _ _, Below.refl _ _⟩
 | some ad =>
  go_enter Try.func116, Try.ntmps116
  go_wp2_with (first | ((with_reducible refine gate_dst (N := 5) rfl ?_); refine Kd.R_lit (Kd.int .i64) w.heap.size 3 ?hg (N := 5) ?hd (xs := ([] : List Int)) (inner := []) (ok := fun _ => True) (okp := fun _ => True) ?hr ?hp (fun _ hk => hk) trivial HB.out (Nat.le_refl _) (by simp) ?_; (case hd => rfl); (case hg => rfl); (case hr => first | (go_simp; done) | (go_simp; rfl)); (case hp => exact (Reps.none _ _)); intro v1 w1 ho1 hb1 hg1 hn1; have HO1 := Ak ho1; have n_ := Ak hb1; clear HB; have HB := n_; clear n_ ho1 hb1 hg1 hn1) | (at_builtin; refine Kd.R_append_rows (Kd.int .i64) (w0 := w) w.heap.size rfl (.tmp 5) (.tmp 6) 37 3 (.int .i64 0) 8 rfl Try.underlying37 info3 rfl (by decide) (by omega) v1 ([] : List Int) l0 _ _ _ (fun _ => True) (fun _ => False) rfl rfl ?aO ?aR (fun _ _ h => h) (fun _ h => h.elim) ?aF ?aB ?aS ?aL ?_; (case aR => repeat (first | exact (Kd.C_below HR0.out HB.out) | (with_reducible refine Kd.C_alloc ?_ _) | (with_reducible refine Kd.C_drewN ?_ _) | (with_reducible refine Kd.C_drew ?_))); (case aB => exact HB.out); (case aF => exact (fun _ _ => trivial)); (case aO => exact HO1.out); (case aS => exact (below_size HB.out)); (case aL => have := LM.out; simp only [List.length_nil]; omega); intro v2 w2 ho2 hb2 hg2 hat2; have HO2 := Ak ho2; have n_ := Ak hb2; clear HB; have HB := n_; clear n_ ho2 hb2 hg2 hat2))
  go_ret
  exact ⟨_, rfl, by simpa using HO2.out, HB.out⟩
def impl_copyNode.f (a0_0 : Int) (a0_1 : ByteArray) (l0_2 : List (S98)) (a0_3 : ByteArray) (a0_4 : Int) (l0_5 : List Int) : Option (Int × ByteArray × (List (S98)) × ByteArray × Int × List Int) := (impl_Attr_97.f l0_2).bind fun t103 => ((slices_Clone_int_int.f l0_5).bind fun t106 => (some (a0_0, a0_1, t103, a0_3, a0_4, t106)))
theorem impl_copyNode.calls (a0_0 : Int) (a0_1 : ByteArray) (A0_2 : Option Addr) (c0_2 : Nat) (l0_2 : List (S98)) (a0_3 : ByteArray) (a0_4 : Int) (A0_5 : Option Addr) (c0_5 : Nat) (l0_5 : List Int) (r1 : Int) (r2 : ByteArray) (r3 : List (S98)) (r4 : ByteArray) (r5 : Int) (r6 : List Int) (w : World) (hr0_2 : Kd.C k98 w A0_2 l0_2.length l0_2) (hc0_2 : l0_2.length ≤ c0_2) (hr0_5 : Kd.C (Kd.int .i64) w A0_5 l0_5.length l0_5) (hc0_5 : l0_5.length ≤ c0_5) (h : impl_copyNode.f a0_0 a0_1 l0_2 a0_3 a0_4 l0_5 = some (r1, r2, r3, r4, r5, r6)) :
 Calls Try.prog 91 #[.agg #[.int .i64 a0_0, .string a0_1, .slice A0_2 l0_2.length c0_2, .string a0_3, .int .i64 a0_4, .slice A0_5 l0_5.length c0_5]] w fun e w' => ∃ v2_ v5_ : Value, e = .returned (.agg #[.int .i64 r1, .string r2, v2_, .string r4, .int .i64 r5, v5_]) ∧ Kd.R k98 98 w' w.heap.size (fun _ => True) v2_ r3 ∧ Kd.R (Kd.int .i64) 3 w' w.heap.size (fun _ => True) v5_ r6 ∧ Below w.heap.size w w' := by
 have hu45 := Try.underlying45
 have HR0_2 := Ak hr0_2
 have HC0_2 := Ak hc0_2
 clear hr0_2 hc0_2
 have HR0_5 := Ak hr0_5
 have HC0_5 := Ak hc0_5
 clear hr0_5 hc0_5
 have HB := Ak (Below.refl w.heap.size w)
 have H : ((impl_Attr_97.f l0_2).bind fun t103 => ((slices_Clone_int_int.f l0_5).bind fun t106 => (some (a0_0, a0_1, t103, a0_3, a0_4, t106)))) = some (r1, r2, r3, r4, r5, r6) := h
 clear h
 replace H := Ob H
 obtain ⟨t103, A20, H⟩ := H
 replace H : ((slices_Clone_int_int.f l0_5).bind fun t106 => (some (a0_0, a0_1, t103, a0_3, a0_4, t106))) = some (r1, r2, r3, r4, r5, r6) := H
 have A2 := Ak A20
 clear A20
 replace H := Ob H
 obtain ⟨t106, A30, H⟩ := H
 replace H : (some (a0_0, a0_1, t103, a0_3, a0_4, t106)) = some (r1, r2, r3, r4, r5, r6) := H
 have A3 := Ak A30
 clear A30
 simp only [Option.some.injEq, Prod.mk.injEq] at H
 obtain ⟨rfl, rfl, rfl, rfl, rfl, rfl⟩ := H
 go_enter Try.func91, Try.ntmps91
 go_wp2_with (first | ((with_reducible refine gate_dst (N := 1) rfl ?_); refine box_event ?hg (N := 1) ?hd (cs := #[.int .i64 a0_0, .string a0_1, .slice A0_2 l0_2.length c0_2, .string a0_3, .int .i64 a0_4, .slice A0_5 l0_5.length c0_5]) (t := 45) ?hr ?_; (case hd => rfl); (case hg => rfl); (case hr => go_simp); intro gb101 hg w4 hbox hb; have n0_ := Ak (below_step (by repeat (first | (with_reducible first | exact HB.out | apply below_alloc | apply pw_below_drewN | apply below_drew1) | exact HB.out)) hb); have n1_ := Ak (hbox); have n2_ := Ak ((by rw [hg]; exact (below_size (by repeat (first | (with_reducible first | exact HB.out | apply below_alloc | apply pw_below_drewN | apply below_drew1) | exact HB.out))) : w.heap.size ≤ gb101)); have n3_ := n2_; clear HB; have HB := n0_; have BK101 := n1_; have GW101 := n2_; have GE101 := n3_; clear n0_ n1_ n2_ n3_; clear hb hbox hg) | ((with_reducible refine gate_dst (N := 2) rfl ?_); refine box_event ?hg (N := 2) ?hd (cs := #[.int .i64 0, .string (⟨#[]⟩ : ByteArray), .slice none 0 0, .string (⟨#[]⟩ : ByteArray), .int .i64 0, .slice none 0 0]) (t := 45) ?hr ?_; (case hd => rfl); (case hg => rfl); (case hr => go_simp); intro gb102 hg w5 hbox hb; have n0_ := Ak (blk_below BK101.out hb); have n1_ := Ak (below_step (by repeat (first | (with_reducible first | exact HB.out | apply below_alloc | apply pw_below_drewN | apply below_drew1 | refine below_set ?_ GE101.out) | exact HB.out)) hb); have n2_ := Ak (hbox); have n3_ := Ak ((by rw [hg]; exact (below_size (by repeat (first | (with_reducible first | exact HB.out | apply below_alloc | apply pw_below_drewN | apply below_drew1 | refine below_set ?_ GE101.out) | exact HB.out))) : w.heap.size ≤ gb102)); have n4_ := n3_; have n5_ := Ak ((by rw [hg]; exact Nat.ne_of_lt (blk_lt BK101.out) : gb101 ≠ gb102)); have n6_ := Ak (Ne.symm n5_.out); clear BK101; clear HB; have BK101 := n0_; have HB := n1_; have BK102 := n2_; have GW102 := n3_; have GE102 := n4_; have NB101_102 := n5_; have NB102_101 := n6_; clear n0_ n1_ n2_ n3_ n4_ n5_ n6_; clear hb hbox hg; have hnb6 := NB101_102.out; have hnc6 := NB102_101.out; have hcz7_0 := blk_cell BK101.out 0; have hcz7_1 := blk_cell BK101.out 1; have hcz7_2 := blk_cell BK101.out 2; have hcz7_3 := blk_cell BK101.out 3; have hcz7_4 := blk_cell BK101.out 4; have hcz7_5 := blk_cell BK101.out 5; have hfz7_0 := blk_frozen BK101.out 0; have hfz7_1 := blk_frozen BK101.out 1; have hfz7_2 := blk_frozen BK101.out 2; have hfz7_3 := blk_frozen BK101.out 3; have hfz7_4 := blk_frozen BK101.out 4; have hfz7_5 := blk_frozen BK101.out 5) | (go_at_call 97; (with_reducible refine (impl_Attr_97.calls _ _ l0_2 t103 _ ?side1 ?side2 A2.out).mono ?_); (case side1 => exact (Kd.C_below HR0_2.out HB.out)); (case side2 => exact HC0_2.out); rintro e w8 ⟨v104, rfl, ho0, hb⟩; replace HO105 := Ak (Kd.R_lower ho0 (below_size (by repeat (first | (with_reducible first | exact HB.out | apply below_alloc | apply pw_below_drewN | apply below_drew1 | refine below_set ?_ GE101.out | refine below_set ?_ GE102.out) | exact HB.out)))); replace BK101 := Ak (blk_below BK101.out hb); replace BK102 := Ak (blk_below BK102.out hb); replace HB := Ak (below_step (by repeat (first | (with_reducible first | exact HB.out | apply below_alloc | apply pw_below_drewN | apply below_drew1 | refine below_set ?_ GE101.out | refine below_set ?_ GE102.out) | exact HB.out)) hb); (try clear hb); (try clear ho0); obtain ⟨Ao9, co9, eo9⟩ := Kd.R_slice HO105.out; subst eo9; have hcz10_0 := blk_cell BK101.out 0; have hcz10_1 := blk_cell BK101.out 1; have hcz10_2 := blk_cell BK101.out 2; have hcz10_3 := blk_cell BK101.out 3; have hcz10_4 := blk_cell BK101.out 4; have hcz10_5 := blk_cell BK101.out 5; have hfz10_0 := blk_frozen BK101.out 0; have hfz10_1 := blk_frozen BK101.out 1; have hfz10_2 := blk_frozen BK101.out 2; have hfz10_3 := blk_frozen BK101.out 3; have hfz10_4 := blk_frozen BK101.out 4; have hfz10_5 := blk_frozen BK101.out 5) | (go_at_call 116; (with_reducible refine (slices_Clone_int_int.calls _ _ l0_5 t106 _ ?side1 ?side2 A3.out).mono ?_); (case side1 => exact Kd.C_below HR0_5.out (by repeat (first | (with_reducible first | exact HB.out | apply below_alloc | apply pw_below_drewN | apply below_drew1 | refine below_set ?_ GE101.out | refine below_set ?_ GE102.out) | exact HB.out))); (case side2 => exact HC0_5.out); rintro e w11 ⟨v107, rfl, ho0, hb⟩; replace HO105 := Ak (Kd.R_below (by (with_reducible repeat (first | apply Kd.R_alloc | apply Kd.R_drewN | apply Kd.R_drew)); exact (Kd.R_mono (Kd.R_far (p := ⟨gb101, 2, none⟩) (Kd.R_types HO105.out BK101.out (by decide)) (fun _ hk => hk.2) (.slice Ao9 t103.length co9)) (fun _ h_ => h_.1))) hb); replace HO108 := Ak (Kd.R_lower ho0 (below_size (by repeat (first | (with_reducible first | exact HB.out | apply below_alloc | apply pw_below_drewN | apply below_drew1 | refine below_set ?_ GE101.out | refine below_set ?_ GE102.out) | exact HB.out)))); replace BK101 := Ak (blk_below (g := gb101) (o := .cells #[.int .i64 a0_0, .string a0_1, .slice Ao9 t103.length co9, .string a0_3, .int .i64 a0_4, .slice A0_5 l0_5.length c0_5] 45 (0, 0)) (by (with_reducible repeat (first | refine blk_drewN ?_ _ | refine blk_drew ?_ | refine blk_alloc ?_ _)); refine blk_put (cs := #[.int .i64 a0_0, .string a0_1, .slice A0_2 l0_2.length c0_2, .string a0_3, .int .i64 a0_4, .slice A0_5 l0_5.length c0_5]) ?_ 2 _ rfl; (with_reducible repeat (first | refine blk_drewN ?_ _ | refine blk_drew ?_ | refine blk_alloc ?_ _)); exact BK101.out) hb); replace BK102 := Ak (blk_below (g := gb102) (o := .cells #[.int .i64 0, .string (⟨#[]⟩ : ByteArray), .slice none 0 0, .string (⟨#[]⟩ : ByteArray), .int .i64 0, .slice none 0 0] 45 (0, 0)) (by (with_reducible repeat (first | refine blk_drewN ?_ _ | refine blk_drew ?_ | refine blk_alloc ?_ _)); refine blk_far ?_ NB102_101.out _; (with_reducible repeat (first | refine blk_drewN ?_ _ | refine blk_drew ?_ | refine blk_alloc ?_ _)); exact BK102.out) hb); replace HB := Ak (below_step (by repeat (first | (with_reducible first | exact HB.out | apply below_alloc | apply pw_below_drewN | apply below_drew1 | refine below_set ?_ GE101.out | refine below_set ?_ GE102.out) | exact HB.out)) hb); (try clear hb); (try clear ho0); obtain ⟨Ao12, co12, eo12⟩ := Kd.R_slice HO108.out; subst eo12; have hcz13_0 := blk_cell BK101.out 0; have hcz13_1 := blk_cell BK101.out 1; have hcz13_2 := blk_cell BK101.out 2; have hcz13_3 := blk_cell BK101.out 3; have hcz13_4 := blk_cell BK101.out 4; have hcz13_5 := blk_cell BK101.out 5; have hfz13_0 := blk_frozen BK101.out 0; have hfz13_1 := blk_frozen BK101.out 1; have hfz13_2 := blk_frozen BK101.out 2; have hfz13_3 := blk_frozen BK101.out 3; have hfz13_4 := blk_frozen BK101.out 4; have hfz13_5 := blk_frozen BK101.out 5; have hcz14_0 := blk_cell BK102.out 0; have hcz14_1 := blk_cell BK102.out 1; have hcz14_2 := blk_cell BK102.out 2; have hcz14_3 := blk_cell BK102.out 3; have hcz14_4 := blk_cell BK102.out 4; have hcz14_5 := blk_cell BK102.out 5; have hfz14_0 := blk_frozen BK102.out 0; have hfz14_1 := blk_frozen BK102.out 1; have hfz14_2 := blk_frozen BK102.out 2; have hfz14_3 := blk_frozen BK102.out 3; have hfz14_4 := blk_frozen BK102.out 4; have hfz14_5 := blk_frozen BK102.out 5))
 refine bodyPost_ret (results_cell_row rfl _ _ gb102 45 #[.int .i64 a0_0, .string a0_1, .slice Ao9 t103.length co9, .string a0_3, .int .i64 a0_4, .slice Ao12 t106.length co12] (0, 0) _ rfl (by (with_reducible repeat (first | refine blk_drewN ?_ _ | refine blk_drew ?_ | refine blk_alloc ?_ _)); refine blk_put (cs := #[.int .i64 a0_0, .string a0_1, .slice Ao9 t103.length co9, .string a0_3, .int .i64 a0_4, .slice none 0 0]) ?_ 5 _ rfl; (with_reducible repeat (first | refine blk_drewN ?_ _ | refine blk_drew ?_ | refine blk_alloc ?_ _)); refine blk_put (cs := #[.int .i64 a0_0, .string a0_1, .slice Ao9 t103.length co9, .string a0_3, .int .i64 0, .slice none 0 0]) ?_ 4 _ rfl; (with_reducible repeat (first | refine blk_drewN ?_ _ | refine blk_drew ?_ | refine blk_alloc ?_ _)); refine blk_put (cs := #[.int .i64 a0_0, .string a0_1, .slice Ao9 t103.length co9, .string (⟨#[]⟩ : ByteArray), .int .i64 0, .slice none 0 0]) ?_ 3 _ rfl; (with_reducible repeat (first | refine blk_drewN ?_ _ | refine blk_drew ?_ | refine blk_alloc ?_ _)); refine blk_put (cs := #[.int .i64 a0_0, .string a0_1, .slice none 0 0, .string (⟨#[]⟩ : ByteArray), .int .i64 0, .slice none 0 0]) ?_ 2 _ rfl; (with_reducible repeat (first | refine blk_drewN ?_ _ | refine blk_drew ?_ | refine blk_alloc ?_ _)); refine blk_put (cs := #[.int .i64 a0_0, .string (⟨#[]⟩ : ByteArray), .slice none 0 0, .string (⟨#[]⟩ : ByteArray), .int .i64 0, .slice none 0 0]) ?_ 1 _ rfl; (with_reducible repeat (first | refine blk_drewN ?_ _ | refine blk_drew ?_ | refine blk_alloc ?_ _)); refine blk_put (cs := #[.int .i64 0, .string (⟨#[]⟩ : ByteArray), .slice none 0 0, .string (⟨#[]⟩ : ByteArray), .int .i64 0, .slice none 0 0]) ?_ 0 _ rfl; (with_reducible repeat (first | refine blk_drewN ?_ _ | refine blk_drew ?_ | refine blk_alloc ?_ _)); refine blk_far ?_ NB102_101.out _; (with_reducible repeat (first | refine blk_drewN ?_ _ | refine blk_drew ?_ | refine blk_alloc ?_ _)); exact BK102.out) Try.underlying45 rfl (by kernel_rfl)) rfl ?_
 exact ⟨_, _, by first | rfl | (simp [*] <;> rfl), by (with_reducible repeat (first | apply Kd.R_alloc | apply Kd.R_drewN | apply Kd.R_drew)); exact Kd.R_mono (Kd.R_far (p := ⟨gb102, 5, none⟩) (Kd.R_far (p := ⟨gb102, 4, none⟩) (Kd.R_far (p := ⟨gb102, 3, none⟩) (Kd.R_far (p := ⟨gb102, 2, none⟩) (Kd.R_far (p := ⟨gb102, 1, none⟩) (Kd.R_far (p := ⟨gb102, 0, none⟩) (Kd.R_far (p := ⟨gb101, 5, none⟩) (Kd.R_types (Kd.R_types HO105.out BK101.out (by decide)) BK102.out (by decide)) (fun _ hk => hk.1.2) (.slice Ao12 t106.length co12)) (fun _ hk => hk.2) (.int .i64 a0_0)) (fun _ hk => hk.2) (.string a0_1)) (fun _ hk => hk.2) (.slice Ao9 t103.length co9)) (fun _ hk => hk.2) (.string a0_3)) (fun _ hk => hk.2) (.int .i64 a0_4)) (fun _ hk => hk.2) (.slice Ao12 t106.length co12)) (fun _ hk => trivial), by (with_reducible repeat (first | apply Kd.R_alloc | apply Kd.R_drewN | apply Kd.R_drew)); exact Kd.R_mono (Kd.R_far (p := ⟨gb102, 5, none⟩) (Kd.R_far (p := ⟨gb102, 4, none⟩) (Kd.R_far (p := ⟨gb102, 3, none⟩) (Kd.R_far (p := ⟨gb102, 2, none⟩) (Kd.R_far (p := ⟨gb102, 1, none⟩) (Kd.R_far (p := ⟨gb102, 0, none⟩) (Kd.R_far (p := ⟨gb101, 5, none⟩) (Kd.R_types (Kd.R_types HO108.out BK101.out (by decide)) BK102.out (by decide)) (fun _ hk => hk.1.2) (.slice Ao12 t106.length co12)) (fun _ hk => hk.2) (.int .i64 a0_0)) (fun _ hk => hk.2) (.string a0_1)) (fun _ hk => hk.2) (.slice Ao9 t103.length co9)) (fun _ hk => hk.2) (.string a0_3)) (fun _ hk => hk.2) (.int .i64 a0_4)) (fun _ hk => hk.2) (.slice Ao12 t106.length co12)) (fun _ hk => trivial), by repeat (first | (with_reducible first | exact HB.out | apply below_alloc | apply pw_below_drewN | apply below_drew1 | refine below_set ?_ GE101.out | refine below_set ?_ GE102.out) | exact HB.out)⟩
def impl_Tree_tidy.l0 : Nat → Int → List Int → List Int → Option (List Int)
 | 0, _, _, _ => none
 | k + 1, j, order, s => if j < (order.length : Int) then (if 0 ≤ j then (if 0 ≤ rd order j then (if rd order j < (s.length : Int) then impl_Tree_tidy.l0 k (wrap64 (j + 1)) order (s.set (rd order j).toNat j) else none) else none) else none) else some s
mutual
def impl_Tree_tidy.l1 : Nat → Int → List Int → List Int → List S45 → List S45 → Option (List S45)
 | 0, _, _, _, _, _ => none
 | k + 1, j, order, s, xs, outs => if j < (order.length : Int) then (if 0 ≤ j then (if 0 ≤ rd order j then (if rd order j < (xs.length : Int) then ((impl_copyNode.f (rd_T45 xs (rd order j)).f0 (rd_T45 xs (rd order j)).f1 (rd_T45 xs (rd order j)).f2 (rd_T45 xs (rd order j)).f3 (rd_T45 xs (rd order j)).f4 (rd_T45 xs (rd order j)).f5).bind fun b => impl_Tree_tidy.l2 k 0 j order s xs outs ⟨b.1, b.2.1, b.2.2.1, b.2.2.2.1, b.2.2.2.2.1, b.2.2.2.2.2⟩) else none) else none) else none) else some outs
def impl_Tree_tidy.l2 : Nat → Int → Int → List Int → List Int → List S45 → List S45 → S45 → Option (List S45)
 | 0, _, _, _, _, _, _, _ => none
 | k + 1, i, j, order, s, xs, outs, x => if i < (x.f5.length : Int) then (if 0 ≤ i then (if 0 ≤ rd x.f5 i then (if rd x.f5 i < (s.length : Int) then impl_Tree_tidy.l2 k (wrap64 (i + 1)) j order s xs outs ⟨x.f0, x.f1, x.f2, x.f3, x.f4, x.f5.set i.toNat (rd s (rd x.f5 i))⟩ else none) else none) else none) else (if outs.length < 1000000 then (if j = 0 then impl_Tree_tidy.l1 k (wrap64 (j + 1)) order s xs (outs ++ [⟨x.f0, x.f1, x.f2, x.f3, -1, x.f5⟩]) else (if 0 ≤ x.f4 then (if x.f4 < (s.length : Int) then impl_Tree_tidy.l1 k (wrap64 (j + 1)) order s xs (outs ++ [⟨x.f0, x.f1, x.f2, x.f3, rd s x.f4, x.f5⟩]) else none) else none)) else none)
end
def impl_Tree_tidy.f (k : Nat) (xs : List S45) : Option (List S45) := (impl_Tree_below.f k xs 0).bind fun order => if 0 < order.length then (if 0 < xs.length then (if xs.length ≤ 1000000 then ((impl_Tree_tidy.l0 k 0 order (List.replicate xs.length 0)).bind fun s => impl_Tree_tidy.l1 k 0 order s xs []) else none) else none) else none
theorem impl_Tree_tidy.mono_0 : ∀ k, (∀ y0 y1 y2, LeO (impl_Tree_tidy.l0 k y0 y1 y2) (impl_Tree_tidy.l0 (k + 1) y0 y1 y2))
 | 0 => fun _ _ _ r h => by simp [impl_Tree_tidy.l0] at h
 | k + 1 => by
  have ih := impl_Tree_tidy.mono_0 k
  intro y0 y1 y2
  rw [impl_Tree_tidy.l0, impl_Tree_tidy.l0]
  exact LeO.ite (LeO.ite (LeO.ite (LeO.ite (ih _ _ _) (LeO.refl _)) (LeO.refl _)) (LeO.refl _)) (LeO.refl _)
theorem impl_Tree_tidy.mono_l : ∀ k, (∀ y0 y1 y2 y3 y4, LeO (impl_Tree_tidy.l1 k y0 y1 y2 y3 y4) (impl_Tree_tidy.l1 (k + 1) y0 y1 y2 y3 y4)) ∧ (∀ y0 y1 y2 y3 y4 y5 y6, LeO (impl_Tree_tidy.l2 k y0 y1 y2 y3 y4 y5 y6) (impl_Tree_tidy.l2 (k + 1) y0 y1 y2 y3 y4 y5 y6))
 | 0 => ⟨fun _ _ _ _ _ r h => by simp [impl_Tree_tidy.l1] at h, fun _ _ _ _ _ _ _ r h => by simp [impl_Tree_tidy.l2] at h⟩
 | k + 1 => by
  obtain ⟨ih1, ih2⟩ := impl_Tree_tidy.mono_l k
  constructor
  ·intro y0 y1 y2 y3 y4
   rw [impl_Tree_tidy.l1, impl_Tree_tidy.l1]
   exact LeO.ite (LeO.ite (LeO.ite (LeO.ite (LeO.bind (LeO.refl _) (fun _ => ih2 _ _ _ _ _ _ _)) (LeO.refl _)) (LeO.refl _)) (LeO.refl _)) (LeO.refl _)
  ·intro y0 y1 y2 y3 y4 y5 y6
   rw [impl_Tree_tidy.l2, impl_Tree_tidy.l2]
   exact LeO.ite (LeO.ite (LeO.ite (LeO.ite (ih2 _ _ _ _ _ _ _) (LeO.refl _)) (LeO.refl _)) (LeO.refl _)) (LeO.ite (LeO.ite (ih1 _ _ _ _ _) (LeO.ite (LeO.ite (ih1 _ _ _ _ _) (LeO.refl _)) (LeO.refl _))) (LeO.refl _))
theorem impl_Tree_tidy.mono : ∀ a0 k, LeO (impl_Tree_tidy.f k a0) (impl_Tree_tidy.f (k + 1) a0) := fun a0 k => LeO.bind (impl_Tree_below.mono _ _ _) (fun _ => LeO.ite (LeO.ite (LeO.ite (LeO.bind (impl_Tree_tidy.mono_0 k _ _ _) (fun _ => (impl_Tree_tidy.mono_l k).1 _ _ _ _ _)) (LeO.refl _)) (LeO.refl _)) (LeO.refl _))
theorem impl_Tree_tidy.calls (k : Nat) (g : Nat) (xs : List S45) (r : List S45) (w0 w : World) (hI : IsS29 w0 w g xs) (hB : Below w0.heap.size w0 w) (h : impl_Tree_tidy.f k xs = some r) :
 Calls Try.prog 47 #[.pointer (some ⟨g, 0, none⟩)] w fun e w' => ∃ v0_ : Value, e = .returned (.agg #[v0_]) ∧ Kd.S k45 45 w' w.heap.size (fun _ => True) v0_ r ∧ IsS29 w0 w' g xs ∧ Below w0.heap.size w0 w' ∧ KeepBut w w' g none := by
 unfold impl_Tree_tidy.f at h
 obtain ⟨order, A1, h⟩ := Ob h
 by_cases ho : 0 < order.length
 ·rw [if_pos ho] at h
  by_cases hx1 : 0 < xs.length
  ·rw [if_pos hx1] at h
   by_cases hx2 : xs.length ≤ 1000000
   ·rw [if_pos hx2] at h
    obtain ⟨s0, AL, AH⟩ := Ob h
    replace A1 := Ak A1
    replace AL := Ak AL
    replace AH := Ak AH
    have HO := Ak ho
    have HX1 := Ak hx1
    have HX2' := Ak hx2
    have HGW := Ak (show g < w.heap.size by obtain ⟨_, _, hb, _⟩ := hI; exact blk_lt hb)
    clear h ho hx1 hx2
    have HI := Ak hI
    have HB := Ak hB
    have HB0 := Ak hB
    clear hI hB
    go_enter Try.func47, Try.ntmps47
    go_wp2_with (first
     | ((with_reducible refine gate_dst (N := 2) rfl ?_); refine box_event ?hg (N := 2) ?hd (cs := #[.slice none 0 0]) (t := 29) ?hr ?_; (case hd => rfl); (case hg => rfl); (case hr => first | (go_simp; done) | (go_simp; rfl)); intro g2 hg w1 hbox hb; have HI1 := Ak (IsS29.below HI.out hb); have HB1 := Ak (below_step HB.out hb); have HW1 := Ak hb; have HX := Ak hbox; have HG2 := Ak (Nat.le_of_eq hg.symm); have HNE := Ak (show g2 ≠ g by have := HGW.out; omega); clear hbox hb hg HI HB)
     | (go_at_call 65; (with_reducible refine (impl_Tree_below.calls k g xs 0 order w0 _ HI1.out HB1.out A1.out).mono ?_); rintro e w2 ⟨vo, rfl, hr, hi, hb, hk⟩; have HX2 := Ak (hk.blk HX.out HNE.out (by simp)); have HB2 := Ak hb; have HKB := Ak hk; have HI2 := Ak hi; obtain ⟨A, c, hgb, hge, hC⟩ := hi; have hcg := cellS29_0 hgb; have HCG := Ak hcg; have HC := Ak (Kd.C_below hC hb); obtain ⟨go, co, evo, _, _, _⟩ := Kd.R_form hr HO.out; subst evo; have HR := Ak (Kd.R_reads' hr).2.2; clear hr hb hk HX hgb hge hC)
     | ((with_reducible refine gate_dst (N := 20) rfl ?_); refine Kd.R_make (w0 := w2) (Kd.int .i64) w2.heap.size 3 rfl (N := 20) rfl 37 _ _ rfl (xs.length : Int) rfl rfl Try.underlying37 (.int .i64 0) 8 info3 rfl (by decide) (by omega) 0 (ok := fun _ => True) (okp := fun _ => True) rfl (fun _ hk => hk) trivial (by omega) (by have := HX2'.out; omega) (Below.refl _ _) (Nat.le_refl _) ?_; intro vs w3 ho hb hg_ hnew_; clear hg_ hnew_; rw [Int.toNat_natCast] at ho; obtain ⟨gs, cap, ev, hrow⟩ := RowW.of ho hb (by have := HX1.out; rw [List.length_replicate]; exact this); rw [List.length_replicate] at ev hrow; subst ev; have HS := Ak hrow; clear ho hb hrow))
    go_loopg [23] k (fun kq v23 w' => ∃ (j : Int) (s : List Int), v23 = .int .i64 j ∧ Aside0 (impl_Tree_tidy.l0 kq j order s = some s0) ∧ Aside0 (kq ≤ k) ∧ Aside0 (RowW w2 w' gs xs.length cap s))
    case atStart => exact ⟨0, _, rfl, AL, ⟨Nat.le_refl _⟩, HS⟩
    case round =>
     clear AL HS hcg
     obtain ⟨j, s, rfl, HA, HK, HS⟩ := hrel
     cases gk with
     | zero => exact absurd HA.out (by simp [impl_Tree_tidy.l0])
     | succ k1 =>
      have H := HA.out
      clear HA
      simp only [impl_Tree_tidy.l0] at H
      by_cases c1 : j < (order.length : Int)
      ·rw [if_pos c1] at H
       by_cases c2 : 0 ≤ j
       ·rw [if_pos c2] at H
        by_cases c3 : 0 ≤ rd order j
        ·rw [if_pos c3] at H
         by_cases c4 : rd order j < (s.length : Int)
         ·rw [if_pos c4] at H
          have HA := Ak H
          clear H
          have c4' : rd order j < (xs.length : Int) := by have := HS.out.len; omega
          clear c4
          have c1b : decide (j < (order.length : Int)) = true := decide_eq_true c1
          obtain ⟨ak, e2, hy0⟩ := Kd.at_int HR.out j c2 c1
          injection e2 with e2
          subst e2
          replace hy0 := pw_cell_below HS.out.low hy0
          rw [add_plain] at hy0
          obtain ⟨hs, hsf⟩ := HS.out.at_ (rd order j) c3 c4'
          replace c1 := eq_true c1
          replace c2 := eq_true c2
          replace c3 := eq_true c3
          replace c4' := eq_true c4'
          go_wp2
          go_roundg k1
          case measure => have := HK.out; omega
          case rel => exact ⟨_, _, rfl, HA, ⟨by have := HK.out; omega⟩, ⟨HS.out.put (rd order j) j⟩⟩
         ·rw [if_neg c4] at H; cases H
        ·rw [if_neg c3] at H; cases H
       ·rw [if_neg c2] at H; cases H
      ·rw [if_neg c1] at H
       obtain rfl := Oi H
       clear H
       have c1b : decide (j < (order.length : Int)) = false := decide_eq_false c1
       clear c1
       have HS5 := Ak (HS.out)
       have HC5 := Ak (Kd.C_below HC.out HS.out.low)
       have HR5 := Ak (Kd.C_below HR.out HS.out.low)
       have HP5 := Ak (Kd.R_reads' HS.out.row).2.2
       have HX5 := Ak (blk_below HX2.out HS.out.low)
       have HI5 := Ak (IsS29.below HI2.out HS.out.low)
       have hcg5 := pw_cell_below HS.out.low HCG.out
       have HCG5 := Ak hcg5
       clear HS
       generalize hwr : wr = w5 at HS5 HC5 HR5 HP5 HX5 HI5 hcg5 HCG5 ⊢
       clear hwr
       have hlen := HS5.out.len
       go_wp2_with (first | ((with_reducible refine gate_dst (N := 7) rfl ?_); refine box_event ?hg (N := 7) ?hd (cs := #[.slice none 0 0]) (t := 29) ?hr ?_; (case hd => rfl); (case hg => rfl); (case hr => first | (go_simp; done) | (go_simp; rfl)); intro gq hg w6 hbox hb; have HQ := Ak (show OutW w5 w6 gq (.slice none 0 0) [] from ⟨hbox, Kd.S_nil _ _ _ _ _, hb, Nat.le_of_eq hg.symm⟩); clear hbox hb hg))
       have HLEN := Ak hlen
       clear hlen
       go_loopg [35] k (fun kq v35 w' => ∃ (j : Int) (outs : List S45) (vo : Value), v35 = .int .i64 j ∧ Aside0 (impl_Tree_tidy.l1 kq j order s xs outs = some r) ∧ Aside0 (kq ≤ k) ∧ Aside0 (OutW w5 w' gq vo outs))
       case atStart => exact ⟨0, _, _, rfl, AH, ⟨Nat.le_refl _⟩, HQ⟩
       case round =>
        clear HQ hcg5
        obtain ⟨j, outs, vo, rfl, HA, HKJ, HQ⟩ := hrel
        cases gk with
        | zero => exact absurd HA.out (by simp [impl_Tree_tidy.l1])
        | succ k2 =>
         have H := HA.out
         clear HA
         simp only [impl_Tree_tidy.l1] at H
         have hcg := pw_cell_below HQ.out.low HCG5.out
         by_cases c1 : j < (order.length : Int)
         ·rw [if_pos c1] at H
          by_cases c2 : 0 ≤ j
          ·rw [if_pos c2] at H
           by_cases c3 : 0 ≤ rd order j
           ·rw [if_pos c3] at H
            by_cases c4 : rd order j < (xs.length : Int)
            ·rw [if_pos c4] at H
             obtain ⟨⟨b0, b1, b2, b3, b4, b5⟩, AC, H⟩ := Ob H
             replace AC := Ak AC
             have HA := Ak H
             clear H
             have c1b : decide (j < (order.length : Int)) = true := decide_eq_true c1
             obtain ⟨ak, e2, hy0⟩ := Kd.at_int HR5.out j c2 c1
             injection e2 with e2
             subst e2
             replace hy0 := pw_cell_below HQ.out.low hy0
             rw [add_plain] at hy0
             obtain ⟨ad, A_2, c_2, A_5, c_5, e1, hx0, hx1, hx2, hx3, hx4, hx5, hl2, hi2, hl5, hi5⟩ := at_T45 HC5.out (rd order j) c3 c4
             subst e1
             replace hx0 := pw_cell_below HQ.out.low hx0
             replace hx1 := pw_cell_below HQ.out.low hx1
             replace hx2 := pw_cell_below HQ.out.low hx2
             replace hx3 := pw_cell_below HQ.out.low hx3
             replace hx4 := pw_cell_below HQ.out.low hx4
             replace hx5 := pw_cell_below HQ.out.low hx5
             have HI2' := Ak (Kd.C_below hi2 HQ.out.low)
             have HI5' := Ak (Kd.C_below hi5 HQ.out.low)
             have HL2 := Ak hl2
             have HL5 := Ak hl5
             clear hl2 hi2 hl5 hi5
             replace c1 := eq_true c1
             replace c2 := eq_true c2
             replace c3 := eq_true c3
             replace c4 := eq_true c4
             generalize hwB : wr = wB at HQ hcg hy0 hx0 hx1 hx2 hx3 hx4 hx5 HI2' HI5' ⊢
             clear hwB
             go_upto_region 13 with (first | (go_at_call 91; (with_reducible refine (impl_copyNode.calls _ _ _ _ _ _ _ _ _ _ b0 b1 b2 b3 b4 b5 _ HI2'.out HL2.out HI5'.out HL5.out AC.out).mono ?_); rintro e w7 ⟨v2, v5, rfl, hr2, hr5, hb⟩; obtain ⟨B2, d2, rfl⟩ := Kd.R_slice hr2; obtain ⟨B5, d5, rfl⟩ := Kd.R_slice hr5; have HR2 := Ak hr2; have HR5 := Ak hr5; have HB7 := Ak hb; clear hr2 hr5 hb) | ((with_reducible refine gate_dst (N := 10) rfl ?_); refine box_event ?hg (N := 10) ?hd (cs := #[.int .i64 0, .string (⟨#[]⟩ : ByteArray), .slice none 0 0, .string (⟨#[]⟩ : ByteArray), .int .i64 0, .slice none 0 0]) (t := 45) ?hr ?_; (case hd => rfl); (case hg => rfl); (case hr => first | (go_simp; done) | (go_simp; rfl)); intro gb hg w8 hbox hb; have HND := Ak (NodW.new (x := ⟨b0, b1, b2, b3, b4, b5⟩) HR2.out HR5.out HB7.out hb hg hbox); have hz0 := blk_cell hbox 0; have hz1 := blk_cell hbox 1; have hz2 := blk_cell hbox 2; have hz3 := blk_cell hbox 3; have hz4 := blk_cell hbox 4; have hz5 := blk_cell hbox 5; have hf := blk_frozen hbox; clear hbox hb hg))
             show Code.wp _ _ _ _ (fillN w8 gb ⟨b0, b1, b2, b3, b4, b5⟩ (.slice B2 b2.length d2) (.slice B5 b5.length d5))
             generalize fillN w8 gb ⟨b0, b1, b2, b3, b4, b5⟩ (.slice B2 b2.length d2) (.slice B5 b5.length d5) = wD at HND ⊢
             clear hx0 hx1 hx2 hx3 hx4 hx5 hy0 hcg
             obtain ⟨hq0, hq1, hq2, hq3, hq4, hq5⟩ := HND.out.cells
             clear hz0 hz1 hz2 hz3 hz4 hz5 hf
             go_wp2
             go_loopg [51] k2 (fun kq v51 w' => ∃ (i : Int) (ks : List Int), v51 = .int .i64 i ∧ Aside0 (impl_Tree_tidy.l2 kq i j order s xs outs ⟨b0, b1, b2, b3, b4, ks⟩ = some r) ∧ Aside0 (kq ≤ k2) ∧ Aside0 (ks.length = b5.length) ∧ Aside0 (NodW wB w' gb ⟨b0, b1, b2, b3, b4, ks⟩ (.slice B2 b2.length d2) (.slice B5 b5.length d5)))
             case atStart => exact ⟨0, _, rfl, HA, ⟨Nat.le_refl _⟩, ⟨rfl⟩, HND⟩
             case round =>
              clear HA HND hq0 hq1 hq2 hq3 hq4 hq5
              obtain ⟨i, ks, rfl, HA, HK3, HLK, HND⟩ := hrel
              cases gk with
              | zero => exact absurd HA.out (by simp [impl_Tree_tidy.l2])
              | succ k3 =>
               have H := HA.out
               clear HA
               simp only [impl_Tree_tidy.l2] at H
               obtain ⟨hq0, hq1, hq2, hq3, hq4, hq5⟩ := HND.out.cells
               have HLOW := Ak (below_step HQ.out.low HND.out.low)
               by_cases c5 : i < (ks.length : Int)
               ·rw [if_pos c5] at H
                by_cases c6 : 0 ≤ i
                ·rw [if_pos c6] at H
                 by_cases c7 : 0 ≤ rd ks i
                 ·rw [if_pos c7] at H
                  by_cases c8 : rd ks i < (s.length : Int)
                  ·rw [if_pos c8] at H
                   have HA := Ak H
                   clear H
                   have c5l : i < (b5.length : Int) := by have := HLK.out; omega
                   have c5b : decide (i < (b5.length : Int)) = true := decide_eq_true c5l
                   obtain ⟨gk, cap5, ev5, _, _, _⟩ := Kd.R_form HND.out.r5 (by show 0 < ks.length; omega)
                   injection ev5 with ea5 en5 ec5
                   clear en5
                   subst ea5
                   subst ec5
                   obtain ⟨hk0, hkf⟩ := Kd.R_celln 0 HND.out.r5 i c6 c5l
                   replace hk0 : wr.cell? ⟨gk, i.toNat, none⟩ = some (.int .i64 (rd ks i)) := hk0
                   obtain ⟨as_, e9, hs0⟩ := Kd.at_int HP5.out (rd ks i) c7 c8
                   injection e9 with e9
                   subst e9
                   replace hs0 := pw_cell_below HLOW.out hs0
                   rw [add_plain] at hs0
                   have c8x : rd ks i < (xs.length : Int) := by have := HLEN.out; omega
                   clear c5
                   replace c8 := eq_true c8
                   replace c5l := eq_true c5l
                   replace c6 := eq_true c6
                   replace c7 := eq_true c7
                   replace c8x := eq_true c8x
                   go_wp2
                   go_region
                   all_goals go_wp2
                   go_roundg k3
                   case measure => have := HK.out; have := HKJ.out; have := HK3.out; omega
                   case rel => exact ⟨_, _, rfl, HA, ⟨by have := HK3.out; omega⟩, ⟨by rw [List.length_set]; exact HLK.out⟩, ⟨NodW.drewN (NodW.kid HND.out i (rd s (rd ks i))) 1⟩⟩
                  ·rw [if_neg c8] at H; cases H
                 ·rw [if_neg c7] at H; cases H
                ·rw [if_neg c6] at H; cases H
               ·rw [if_neg c5] at H
                have c5b : decide (i < (b5.length : Int)) = false := decide_eq_false (by have := HLK.out; omega)
                clear c5
                have HE := Ak H
                clear H
                by_cases cN : outs.length < 1000000
                ·have HLN := Ak cN
                 by_cases cj : j = 0
                 ·have H := HE.out
                  rw [if_pos cN, if_pos cj] at H
                  have HA := Ak H
                  clear H HE cN
                  have cjb : (j == 0) = true := beq_iff_eq.mpr cj
                  clear cj
                  have hfb := blk_frozen HND.out.blk
                  go_upto_region 21 with (fail)
                  have HNE2 := Ak (NodW.par HND.out (-1))
                  generalize wr.setCell ⟨gb, 4, none⟩ (.int .i64 (-1)) = wE at HNE2 ⊢
                  clear hq0 hq1 hq2 hq3 hq4 hq5 hfb
                  obtain ⟨hq0, hq1, hq2, hq3, hq4, hq5⟩ := HNE2.out.cells
                  have hqo := pw_cell_below HNE2.out.low HQ.out.cell
                  go_wp2_with (first | ((with_reducible refine gate_builtin (b := .append) (xs := #[.tmp 75, .tmp 77]) rfl ?_); at_builtin; refine Kd.S_append (w0 := w5) k45 w5.heap.size rfl (.tmp 75) (.tmp 77) 27 45 (.agg #[(.int .i64 0), (.string ⟨#[]⟩), (.slice none 0 0), (.string ⟨#[]⟩), (.int .i64 0), (.slice none 0 0)]) 96 rfl Try.underlying27 info45 rfl (by decide) (by omega) vo outs _ _ (fun k_ => k_ ≠ gq) (fun k_ => wB.heap.size ≤ k_ ∧ k_ < wE.heap.size) rfl rfl (NodW.elem HNE2.out HQ.out.low) (HQ.out.okp) (fun k_ hk => by have := HQ.out.lt; have := HNE2.out.low.size; omega) (HQ.out.apart HNE2.out.low) (below_step HQ.out.low HNE2.out.low) (below_step HQ.out.low HNE2.out.low).size (by have := HLN.out; omega) ?_; intro v1 w9 hS hlow hgw hat; obtain ⟨A1, c1', ev1⟩ := Kd.S_slice hS; rw [List.length_append, List.length_singleton] at ev1; subst ev1; have HQ2 := Ak (HQ.out.put HNE2.out.low hS hlow hgw); have hcq2 := (blk_cell (blk_grown (blk_below HQ.out.blk HNE2.out.low) hgw (fun e_ => (HQ.out.row |> Kd.S_R).1 gq e_.symm rfl)) 0).trans (show (#[vo] : Array Value)[0]? = some vo from rfl); have hfq2 := blk_frozen (blk_grown (blk_below HQ.out.blk HNE2.out.low) hgw (fun e_ => (HQ.out.row |> Kd.S_R).1 gq e_.symm rfl)); clear hS hlow hgw hat))
                  go_roundg k3
                  case measure => have := HK.out; have := HKJ.out; have := HK3.out; omega
                  case rel => exact ⟨_, _, _, rfl, HA, ⟨by have := HKJ.out; have := HK3.out; omega⟩, HQ2⟩
                 ·have H := HE.out
                  rw [if_pos cN, if_neg cj] at H
                  by_cases cp0 : 0 ≤ b4
                  ·rw [if_pos cp0] at H
                   by_cases cp1 : b4 < (s.length : Int)
                   ·rw [if_pos cp1] at H
                    have HA := Ak H
                    clear H HE cN
                    have cjb : (j == 0) = false := beq_eq_false_iff_ne.mpr cj
                    clear cj
                    have hfb := blk_frozen HND.out.blk
                    obtain ⟨as_, e9, hs0⟩ := Kd.at_int HP5.out b4 cp0 cp1
                    injection e9 with e9
                    subst e9
                    replace hs0 := pw_cell_below HLOW.out hs0
                    rw [add_plain] at hs0
                    replace cp0 := eq_true cp0
                    replace cp1 := eq_true cp1
                    go_upto_region 21 with (fail)
                    have HNE2 := Ak (NodW.par HND.out (rd s b4))
                    generalize wr.setCell ⟨gb, 4, none⟩ (.int .i64 (rd s b4)) = wE at HNE2 ⊢
                    clear hq0 hq1 hq2 hq3 hq4 hq5 hfb hs0
                    obtain ⟨hq0, hq1, hq2, hq3, hq4, hq5⟩ := HNE2.out.cells
                    have hqo := pw_cell_below HNE2.out.low HQ.out.cell
                    go_wp2_with (first | ((with_reducible refine gate_builtin (b := .append) (xs := #[.tmp 75, .tmp 77]) rfl ?_); at_builtin; refine Kd.S_append (w0 := w5) k45 w5.heap.size rfl (.tmp 75) (.tmp 77) 27 45 (.agg #[(.int .i64 0), (.string ⟨#[]⟩), (.slice none 0 0), (.string ⟨#[]⟩), (.int .i64 0), (.slice none 0 0)]) 96 rfl Try.underlying27 info45 rfl (by decide) (by omega) vo outs _ _ (fun k_ => k_ ≠ gq) (fun k_ => wB.heap.size ≤ k_ ∧ k_ < wE.heap.size) rfl rfl (NodW.elem HNE2.out HQ.out.low) (HQ.out.okp) (fun k_ hk => by have := HQ.out.lt; have := HNE2.out.low.size; omega) (HQ.out.apart HNE2.out.low) (below_step HQ.out.low HNE2.out.low) (below_step HQ.out.low HNE2.out.low).size (by have := HLN.out; omega) ?_; intro v1 w9 hS hlow hgw hat; obtain ⟨A1, c1', ev1⟩ := Kd.S_slice hS; rw [List.length_append, List.length_singleton] at ev1; subst ev1; have HQ2 := Ak (HQ.out.put HNE2.out.low hS hlow hgw); have hcq2 := (blk_cell (blk_grown (blk_below HQ.out.blk HNE2.out.low) hgw (fun e_ => (HQ.out.row |> Kd.S_R).1 gq e_.symm rfl)) 0).trans (show (#[vo] : Array Value)[0]? = some vo from rfl); have hfq2 := blk_frozen (blk_grown (blk_below HQ.out.blk HNE2.out.low) hgw (fun e_ => (HQ.out.row |> Kd.S_R).1 gq e_.symm rfl)); clear hS hlow hgw hat))
                    go_roundg k3
                    case measure => have := HK.out; have := HKJ.out; have := HK3.out; omega
                    case rel => exact ⟨_, _, _, rfl, HA, ⟨by have := HKJ.out; have := HK3.out; omega⟩, HQ2⟩
                   ·rw [if_neg cp1] at H; cases H
                  ·rw [if_neg cp0] at H; cases H
                ·have H := HE.out
                 rw [if_neg cN] at H; cases H
            ·rw [if_neg c4] at H; cases H
           ·rw [if_neg c3] at H; cases H
          ·rw [if_neg c2] at H; cases H
         ·rw [if_neg c1] at H
          obtain rfl := Oi H
          clear H
          have c1b : decide (j < (order.length : Int)) = false := decide_eq_false c1
          clear c1
          have HQL := Ak HQ.out.low
          obtain ⟨Aq, cq, rfl⟩ := Kd.S_slice HQ.out.row
          have hcq := HQ.out.cell
          have hb2 := blk_below HX5.out HQL.out
          have hc2 := blk_cell hb2 0
          have hf2 := blk_frozen hb2
          have HBB := Ak hb2
          clear hb2
          go_wp2
          have HGE2 := HG2.out
          refine bodyPost_ret (results_cell_row rfl _ _ g2 29 #[.slice Aq outs.length cq] (0, 0) _ rfl (blk_put (cs := #[.slice none 0 0]) HBB.out 0 _ rfl) Try.underlying29 rfl (by kernel_rfl)) rfl ?_
          have hg5 : g2 < w5.heap.size := blk_lt HX5.out
          have hlow5 : Below w0.heap.size w0 w5 := below_step HB2.out HS5.out.low
          have hk5 : KeepBut w w5 g none := (KeepBut.trans (KeepBut.of_below HW1.out g none) HKB.out (.inl rfl)).trans (KeepBut.of_below HS5.out.low g none) (.inl rfl)
          refine ⟨_, rfl, ?_, ?_, ?_, ?_⟩
          ·exact Kd.S_lower (Kd.S_mono (Kd.S_far (p := ⟨g2, 0, none⟩) (Kd.S_mono (Kd.S_bound HQ.out.row) (ok' := fun k_ => k_ ≠ g2) (fun k_ hk => by have := hk.2.1; omega)) (fun _ hk => hk) _) (fun _ _ => trivial)) hk5.1
          ·exact IsS29.far (IsS29.below HI5.out HQL.out) (Ne.symm HNE.out) _
          ·exact below_set (below_step hlow5 HQL.out) (Nat.le_trans (by have := HB1.out.size; have := HW1.out.size; have := HGW.out; exact Nat.le_trans (below_size (show Below w0.heap.size w0 w from HB0.out)) HGE2) (Nat.le_refl _))
          ·exact keep_far (hk5.trans (KeepBut.of_below HQL.out g none) (.inl rfl)) HGE2 _
   ·rw [if_neg hx2] at h; cases h
  ·rw [if_neg hx1] at h; cases h
 ·rw [if_neg ho] at h; cases h
def slices_Index_string_string.l0 : Nat → List ByteArray → ByteArray → Int → Int → Option (Int)
 | 0, _, _, _, _ => none
 | k + 1, x0, x1, x7, x8 => if x8 < x7 then (if 0 ≤ x8 then (if x8 < (x0.length : Int) then (if x1.toList = (rdOf ByteArray.empty x0 x8).toList then (some x8) else (slices_Index_string_string.l0 k x0 x1 x7 (wrap64 (x8 + 1)))) else (none)) else (none)) else (some (-1))
def slices_Index_string_string.f (k : Nat) (l0 : List ByteArray) (a1 : ByteArray) : Option (Int) := slices_Index_string_string.l0 k l0 a1 (l0.length : Int) 0
theorem slices_Index_string_string.mono_l : ∀ k, (∀ y0 y1 y2 y3, LeO (slices_Index_string_string.l0 k y0 y1 y2 y3) (slices_Index_string_string.l0 (k + 1) y0 y1 y2 y3))
 | 0 => fun _ _ _ _ r h => by simp [slices_Index_string_string.l0] at h
 | k + 1 => by
  have ih0 := slices_Index_string_string.mono_l k
  ·intro y0 y1 y2 y3
   unfold slices_Index_string_string.l0
   repeat' (with_reducible first | exact ih0 _ _ _ _ | exact LeO.refl _ | exact LeO.none _ | refine LeO.ite ?_ ?_ | refine LeO.bind ?_ (fun _ => ?_))
theorem slices_Index_string_string.mono : ∀ a0 a1 k, LeO (slices_Index_string_string.f k a0 a1) (slices_Index_string_string.f (k + 1) a0 a1) := by
 intro a0 a1 k
 have ih0 := slices_Index_string_string.mono_l k
 unfold slices_Index_string_string.f
 repeat' (with_reducible first | exact ih0 _ _ _ _ | exact LeO.refl _ | exact LeO.none _ | refine LeO.ite ?_ ?_ | refine LeO.bind ?_ (fun _ => ?_))
theorem slices_Index_string_string.calls (k : Nat) (A0 : Option Addr) (c0 : Nat) (l0 : List ByteArray) (a1 : ByteArray) (r : Int) (w : World) (hr0 : Kd.C Kd.string w A0 l0.length l0) (hc0 : l0.length ≤ c0) (h : slices_Index_string_string.f k l0 a1 = some r) :
 Calls Try.prog 106 #[.slice A0 l0.length c0, .string a1] w fun e w' => e = .returned (.int .i64 r) ∧ Drawn0 w w' := by
 have HR0 := Ak hr0
 have HC0 := Ak hc0
 clear hr0 hc0
 have H : (slices_Index_string_string.l0 k l0 a1 (l0.length : Int) 0) = some r := h
 clear h
 have H' := Ak H
 clear H
 go_enter Try.func106, Try.ntmps106
 go_wp2
 go_loopg [8] k (fun kq v8 w' => ∃ (x8_1 : Int), v8 = .int .i64 x8_1 ∧ Aside0 (slices_Index_string_string.l0 kq l0 a1 (l0.length : Int) x8_1 = some r) ∧ Aside0 (kq ≤ k) ∧ Drawn0 w w')
 case atStart => exact ⟨(0), rfl, H', ⟨Nat.le_refl _⟩, by repeat (first | exact Drawn0.refl _ | apply Drawn0.step)⟩
 case round =>
  clear H'
  try clear c1
  try clear p2
  obtain ⟨x8_1, rfl, HA, HK1, ⟨m1, rfl⟩⟩ := hrel
  cases gk with
  | zero => exact absurd HA.out (by simp [slices_Index_string_string.l0])
  | succ k1 =>
   have H := HA.out
   clear HA
   simp only [slices_Index_string_string.l0] at H
   by_cases c3 : x8_1 < (l0.length : Int)
   ·rw [if_pos c3] at H
    have c3b0 := decide_eq_true c3
    clear c3
    by_cases c4 : 0 ≤ x8_1
    ·rw [if_pos c4] at H
     have c4b0 := decide_eq_true c4
     clear c4
     by_cases c5 : x8_1 < (l0.length : Int)
     ·rw [if_pos c5] at H
      have c5b0 := decide_eq_true c5
      clear c5
      by_cases c6 : a1.toList = (rdOf ByteArray.empty l0 x8_1).toList
      ·rw [if_pos c6] at H
       have c6b0 := beq_iff_eq.mpr c6
       have c6b1 := bne_eq_false_iff_eq.mpr c6
       clear c6
       obtain rfl := Oi H
       have p101 : 0 ≤ (x8_1 : Int) := of_decide_eq_true (by assumption)
       have q101 : x8_1 < (l0.length : Int) := of_decide_eq_true (by assumption)
       obtain ⟨ad101, e101, hx101_0⟩ := Kd.at_string HR0.out x8_1 p101 q101
       cases e101
       replace p101 := eq_true p101
       replace q101 := eq_true q101
       go_wp2
       go_ret
       exact ⟨rfl, by repeat (first | exact Drawn0.refl _ | apply Drawn0.step)⟩
      ·rw [if_neg c6] at H
       have c6b0 := beq_eq_false_iff_ne.mpr c6
       have c6b1 := bne_iff_ne.mpr c6
       have H' := Ak H
       clear H
       have p101 : 0 ≤ (x8_1 : Int) := of_decide_eq_true (by assumption)
       have q101 : x8_1 < (l0.length : Int) := of_decide_eq_true (by assumption)
       obtain ⟨ad101, e101, hx101_0⟩ := Kd.at_string HR0.out x8_1 p101 q101
       cases e101
       replace p101 := eq_true p101
       replace q101 := eq_true q101
       go_wp2
       go_roundg k1
       case measure => have := HK1.out; omega
       case rel => exact ⟨(wrap64 (x8_1 + 1)), rfl, H', ⟨by have := HK1.out; omega⟩, by repeat (first | exact Drawn0.refl _ | apply Drawn0.step)⟩
     ·rw [if_neg c5] at H
      exact absurd H (by simp)
    ·rw [if_neg c4] at H
     exact absurd H (by simp)
   ·rw [if_neg c3] at H
    have c3b0 := decide_eq_false c3
    clear c3
    obtain rfl := Oi H
    go_wp2
    go_ret
    exact ⟨rfl, by repeat (first | exact Drawn0.refl _ | apply Drawn0.step)⟩
def slices_Contains_s.f (k : Nat) (l : List ByteArray) (s : ByteArray) : Option Bool := (slices_Index_string_string.f k l s).bind fun t => some (decide (0 ≤ t))
theorem slices_Contains_s.mono : ∀ a0 a1 k, LeO (slices_Contains_s.f k a0 a1) (slices_Contains_s.f (k + 1) a0 a1) := fun _ _ k => LeO.bind (slices_Index_string_string.mono _ _ k) (fun _ => LeO.refl _)
theorem slices_Contains_s.calls (k : Nat) (A0 : Option Addr) (c0 : Nat) (l0 : List ByteArray) (a1 : ByteArray) (r : Bool) (w : World) (hr0 : Kd.C Kd.string w A0 l0.length l0) (hc0 : l0.length ≤ c0) (h : slices_Contains_s.f k l0 a1 = some r) :
 Calls Try.prog 104 #[.slice A0 l0.length c0, .string a1] w fun e w' => e = .returned (.bool r) ∧ Drawn0 w w' := by
 unfold slices_Contains_s.f at h
 obtain ⟨t, h1, h⟩ := Ob h
 injection h with h
 subst h
 have HR := Ak hr0
 have HC := Ak hc0
 have HA := Ak h1
 clear hr0 hc0 h1
 go_enter Try.func104, Try.ntmps104
 go_wp2_with (first | (go_at_call 106; (with_reducible refine (slices_Index_string_string.calls k A0 c0 l0 a1 t _ HR.out HC.out HA.out).mono ?_); rintro e w' ⟨rfl, ⟨nd, rfl⟩⟩))
 go_ret
 exact ⟨rfl, by repeat (first | exact Drawn0.refl _ | apply Drawn0.step)⟩
def impl_namesOf_1.f (k : Nat) (l : List ByteArray) (s : ByteArray) : Option (List ByteArray) := (slices_Contains_s.f k l s).bind fun t => if t = true then some l else if l.length < 8796093022208 then some (l ++ [s]) else none
theorem impl_namesOf_1.mono : ∀ a0 a1 k, LeO (impl_namesOf_1.f k a0 a1) (impl_namesOf_1.f (k + 1) a0 a1) := fun _ _ k => LeO.bind (slices_Contains_s.mono _ _ k) (fun _ => LeO.refl _)
structure NamW (w W : World) (go : Nat) (v : Value) (ns : List ByteArray) : Prop where
 box : W.heap[go]? = some (.cells #[v] 92 (0, 0))
 row : Kd.R Kd.string 9 W w.heap.size (fun _ => True) v ns
 low : Below w.heap.size w W
 ge : w.heap.size ≤ go
section
variable {w W W2 : World} {go : Nat} {v : Value} {ns : List ByteArray}
theorem NamW.below (h : NamW w W go v ns) (hb : Below W.heap.size W W2) : NamW w W2 go v ns := ⟨blk_below h.box hb, Kd.R_below h.row hb, below_step h.low hb, h.ge⟩
theorem NamW.cell (h : NamW w W go v ns) : W.cell? ⟨go, 0, none⟩ = some v := (blk_cell h.box 0).trans rfl
end
theorem impl_namesOf_1.calls (k : Nat) (go : Nat) (v : Value) (ns : List ByteArray) (s : ByteArray) (r : List ByteArray) (w0 w : World) (hN : NamW w0 w go v ns) (h : impl_namesOf_1.f k ns s = some r) :
 Calls Try.prog 103 #[.string s, .pointer (some ⟨go, 0, none⟩)] w fun e w' => e = .returned (.tuple #[]) ∧ ∃ v', NamW w0 w' go v' r ∧ Kept w w' (fun k_ => k_ = go ∨ some k_ = v.ownBlock) := by
 unfold impl_namesOf_1.f at h
 obtain ⟨b, h1, h⟩ := Ob h
 have HN := Ak hN
 have HA := Ak h1
 clear hN h1
 obtain ⟨A0, c0, rfl⟩ := Kd.R_slice HN.out.row
 have HD := Ak (Kd.R_reads' HN.out.row)
 have hcell := HN.out.cell
 have hfz := blk_frozen HN.out.box 0
 cases b with
 | true =>
  rw [if_pos rfl] at h
  obtain rfl := Oi h
  clear h
  go_enter Try.func103, Try.ntmps103
  go_wp2_with (first | (go_at_call 104; (with_reducible refine (slices_Contains_s.calls k A0 c0 ns s true _ HD.out.2.2 HD.out.2.1 HA.out).mono ?_); rintro e w' ⟨rfl, ⟨nd, rfl⟩⟩))
  (try simp only [Exit.inBlock, Exit.then])
  refine bodyPost_end (results_list (rs := []) rfl (by simp) .nil) rfl ?_
  exact ⟨rfl, _, HN.out.below (pw_below_drewN (Below.refl _ _) _), Kept.drewN (Kept.refl _ _) _⟩
 | false =>
  rw [if_neg (by decide)] at h
  by_cases c1 : ns.length < 8796093022208
  ·rw [if_pos c1] at h
   obtain rfl := Oi h
   clear h
   have HL := Ak c1
   clear c1
   go_enter Try.func103, Try.ntmps103
   go_wp2_with (first | (go_at_call 104; (with_reducible refine (slices_Contains_s.calls k A0 c0 ns s false _ HD.out.2.2 HD.out.2.1 HA.out).mono ?_); rintro e w' ⟨rfl, ⟨nd, rfl⟩⟩) | ((with_reducible refine gate_builtin (b := .append) (xs := #[.tmp 7, .tmp 9]) rfl ?_); at_builtin; refine Kd.R_append Kd.string (w0 := w0) w0.heap.size rfl (.tmp 7) (.tmp 9) 92 9 (.string ⟨#[]⟩) 16 rfl Try.underlying92 info9 rfl (by decide) (by omega) (.slice A0 ns.length c0) ns s [.string s] (fun _ => True) (fun _ => False) rfl rfl ?aP (fun _ hk => hk.elim) (fun _ _ => trivial) ?aO ?aB ?aS ?aL ?_; (case aP => exact rfl); (case aO => exact (by (with_reducible repeat (first | apply Kd.R_alloc | apply Kd.R_drewN | apply Kd.R_drew)); exact HN.out.row)); (case aB => exact (by repeat (first | (with_reducible first | exact HN.out.low | apply below_alloc | apply pw_below_drewN | apply below_drew1) | exact HN.out.low))); (case aS => exact (below_size (by repeat (first | (with_reducible first | exact HN.out.low | apply below_alloc | apply pw_below_drewN | apply below_drew1) | exact HN.out.low)))); (case aL => have := HL.out; omega); intro v1 w1 ho hb hg hat; have HK := Ak (Kept.of_grown (w := w) (S := fun k_ => some k_ = (.slice A0 ns.length c0 : Value).ownBlock) hg (by repeat (first | (with_reducible first | exact Kept.refl _ _ | apply Kept.alloc | apply Kept.drewN | apply Kept.drew) | exact Kept.refl _ _)) (fun k_ e_ => .inl e_.symm)); have HX := Ak (blk_kept HN.out.box HK.out (Kd.R_ne HN.out.row HN.out.box (by decide))); obtain ⟨A1, c1, rfl⟩ := Kd.R_slice ho; rw [List.length_append, List.length_singleton] at ho; have HR1 := Ak ho; have HB1 := Ak hb; have hcell1 := blk_cell HX.out 0; have hfz1 := blk_frozen HX.out 0; clear ho hb hg hat))
   (try simp only [Exit.inBlock, Exit.then])
   refine bodyPost_end (results_list (rs := []) rfl (by simp) .nil) rfl ?_
   exact ⟨rfl, _, ⟨blk_set HX.out 0 _, Kd.R_mono (Kd.R_far (p := ⟨go, 0, none⟩) (Kd.R_types HR1.out HX.out (by decide)) (fun _ h_ => h_.2) _) (fun _ _ => trivial), below_set HB1.out HN.out.ge, HN.out.ge⟩, Kept.setCell (HK.out.mono (fun _ h_ => .inr h_)) (.inl (.inl rfl)) _⟩
  ·rw [if_neg c1] at h; cases h
def impl_isNamed.f (a0 : Int) : Option (Bool) := if a0 = 2 then (some true) else (some (a0 == 3))
theorem impl_isNamed.calls (a0 : Int) (r : Bool) (w : World) (h : impl_isNamed.f a0 = some r) :
 Calls Try.prog 105 #[.int .i64 a0] w fun e w' => e = .returned (.bool r) ∧ Drawn0 w w' := by
 have H : (if a0 = 2 then (some true) else (some (a0 == 3))) = some r := h
 clear h
 by_cases c2 : a0 = 2
 ·rw [if_pos c2] at H
  have c2b0 := beq_iff_eq.mpr c2
  have c2b1 := bne_eq_false_iff_eq.mpr c2
  clear c2
  obtain rfl := Oi H
  go_enter Try.func105, Try.ntmps105
  go_wp2
  go_ret
  exact ⟨rfl, by repeat (first | exact Drawn0.refl _ | apply Drawn0.step)⟩
 ·rw [if_neg c2] at H
  have c2b0 := beq_eq_false_iff_ne.mpr c2
  have c2b1 := bne_iff_ne.mpr c2
  obtain rfl := Oi H
  go_enter Try.func105, Try.ntmps105
  go_wp2
  go_ret
  exact ⟨rfl, by repeat (first | exact Drawn0.refl _ | apply Drawn0.step)⟩
def impl_namesOf.l1 : Nat → List ByteArray → List S98 → Int → Option (List ByteArray)
 | 0, _, _, _ => none
 | k + 1, ns, al, j => if j < (al.length : Int) then (if 0 ≤ j then (impl_namesOf_1.f k ns (rd_T98 al j).f0).bind fun y => impl_namesOf.l1 k y al (wrap64 (j + 1)) else none) else some ns
def impl_namesOf.l0 : Nat → List ByteArray → List S45 → Int → Option (List ByteArray)
 | 0, _, _, _ => none
 | k + 1, ns, xs, i => if i < (xs.length : Int) then (if 0 ≤ i then (impl_isNamed.f (rd_T45 xs i).f0).bind fun b => (if b = true then impl_namesOf_1.f k ns (rd_T45 xs i).f1 else some ns).bind fun y => (impl_namesOf.l1 k y (rd_T45 xs i).f2 0).bind fun z => impl_namesOf.l0 k z xs (wrap64 (i + 1)) else none) else some ns
def impl_namesOf.f (k : Nat) (xs : List S45) : Option (List ByteArray) := impl_namesOf.l0 k [] xs 0
theorem impl_namesOf.mono1 : ∀ k a b c, LeO (impl_namesOf.l1 k a b c) (impl_namesOf.l1 (k + 1) a b c)
 | 0 => fun _ _ _ r h => by simp [impl_namesOf.l1] at h
 | k + 1 => fun a b c => by
  rw [impl_namesOf.l1, impl_namesOf.l1]
  exact LeO.ite (LeO.ite (LeO.bind (impl_namesOf_1.mono _ _ k) (fun _ => impl_namesOf.mono1 k _ _ _)) (LeO.refl _)) (LeO.refl _)
theorem impl_namesOf.mono0 : ∀ k a b c, LeO (impl_namesOf.l0 k a b c) (impl_namesOf.l0 (k + 1) a b c)
 | 0 => fun _ _ _ r h => by simp [impl_namesOf.l0] at h
 | k + 1 => fun a b c => by
  rw [impl_namesOf.l0, impl_namesOf.l0]
  exact LeO.ite (LeO.ite (LeO.bind (LeO.refl _) (fun _ => LeO.bind (LeO.ite (impl_namesOf_1.mono _ _ k) (LeO.refl _)) (fun _ => LeO.bind (impl_namesOf.mono1 k _ _ _) (fun _ => impl_namesOf.mono0 k _ _ _)))) (LeO.refl _)) (LeO.refl _)
theorem impl_namesOf.mono : ∀ a0 k, LeO (impl_namesOf.f k a0) (impl_namesOf.f (k + 1) a0) := fun _ k => impl_namesOf.mono0 k _ _ _
structure NmiW (w W : World) (go : Nat) (v : Value) (ns : List ByteArray) (gn : Nat) (x : S45) (A2 : Option Addr) (c2 : Nat) (v5 : Value) : Prop where
 nam : NamW w W go v ns
 bn : W.heap[gn]? = some (.cells #[.int .i64 x.f0, .string x.f1, .slice A2 x.f2.length c2, .string x.f3, .int .i64 x.f4, v5] 45 (0, 0))
section
variable {w W W2 : World} {go gn c2 : Nat} {v v' v5 : Value} {ns ns' : List ByteArray} {x : S45} {A2 : Option Addr}
theorem NmiW.below (h : NmiW w W go v ns gn x A2 c2 v5) (hb : Below W.heap.size W W2) : NmiW w W2 go v ns gn x A2 c2 v5 := ⟨h.nam.below hb, blk_below h.bn hb⟩
theorem NmiW.step (h : NmiW w W go v ns gn x A2 c2 v5) (hN : NamW w W2 go v' ns') (hK : Kept W W2 (fun k_ => k_ = go ∨ some k_ = v.ownBlock)) : NmiW w W2 go v' ns' gn x A2 c2 v5 :=
 ⟨hN, blk_kept h.bn hK (fun e => e.elim (fun e => by subst e; have := h.bn.symm.trans h.nam.box; simp at this) (Kd.R_ne h.nam.row h.bn (by decide)))⟩
end
theorem impl_namesOf.calls (k : Nat) (A0_0 : Option Addr) (c0_0 : Nat) (xs : List S45) (r : List ByteArray) (w : World) (hr0_0 : Kd.C k45 w A0_0 xs.length xs) (h : impl_namesOf.f k xs = some r) :
 Calls Try.prog 75 #[.agg #[.slice A0_0 xs.length c0_0]] w fun e w' => ∃ v0_ : Value, e = .returned v0_ ∧ Kd.R Kd.string 9 w' w.heap.size (fun _ => True) v0_ r ∧ Below w.heap.size w w' := by
 have HA := Ak (show impl_namesOf.l0 k [] xs 0 = some r from h)
 have HC := Ak hr0_0
 clear h hr0_0
 have eg : ∀ args w, (callFunc 103 args).run Try.prog w = .ok (.enter 103 args) w := enters_of Try.func103 (by kernel_rfl) rfl
 go_enter Try.func75, Try.ntmps75
 go_wp2_with (first | ((with_reducible refine gate_dst (N := 1) rfl ?_); refine box_event ?hg (N := 1) ?hd (cs := #[.slice A0_0 xs.length c0_0]) (t := 29) ?hr ?_; (case hd => rfl); (case hg => rfl); (case hr => first | (go_simp; done) | (go_simp; rfl)); intro gt hg w1 hbox hb; have HT := Ak hbox; have HL := Ak hb; clear hbox hb hg) | ((with_reducible refine gate_dst (N := 3) rfl ?_); refine box_event ?hg (N := 3) ?hd (cs := #[.slice none 0 0]) (t := 92) ?hr ?_; (case hd => rfl); (case hg => rfl); (case hr => first | (go_simp; done) | (go_simp; rfl)); intro go hg w2 hbox hb; have HN := Ak (show NamW w w2 go (.slice none 0 0) [] from ⟨hbox, Kd.R_nil _ _ _ _ _, below_step HL.out hb, by rw [hg]; exact HL.out.size⟩); have hct := blk_cell (blk_below HT.out hb) 0; clear hbox hb hg HT HL))
 go_loopg [13] k (fun kq v13 w' => ∃ (ns : List ByteArray) (i : Int) (v : Value), v13 = .int .i64 i ∧ Aside0 (impl_namesOf.l0 kq ns xs i = some r) ∧ Aside0 (kq ≤ k) ∧ Aside0 (NamW w w' go v ns))
 case atStart => exact ⟨_, _, _, rfl, HA, ⟨Nat.le_refl _⟩, HN⟩
 case round =>
  clear HA HN hct
  obtain ⟨ns, i, v, rfl, HA, HK, HN⟩ := hrel
  cases gk with
  | zero => exact absurd HA.out (by simp [impl_namesOf.l0])
  | succ k1 =>
   have H := HA.out
   clear HA
   simp only [impl_namesOf.l0] at H
   by_cases c1 : i < (xs.length : Int)
   ·rw [if_pos c1] at H
    by_cases c2 : 0 ≤ i
    ·rw [if_pos c2] at H
     obtain ⟨b, A1, H⟩ := Ob H
     have HA1 := Ak A1
     have HA := Ak H
     clear A1 H
     have c1b : decide (i < (xs.length : Int)) = true := decide_eq_true c1
     obtain ⟨ad, A_2, c_2, A_5, c_5, e1, hx0, hx1, hx2, hx3, hx4, hx5, hl2, hi2, hl5, hi5⟩ := at_T45 HC.out i c2 c1
     subst e1
     have HI2 := Ak hi2
     clear hl2 hi2 hl5 hi5
     have hx0 := pw_cell_below HN.out.low hx0
     have hx1 := pw_cell_below HN.out.low hx1
     have hx2 := pw_cell_below HN.out.low hx2
     have hx3 := pw_cell_below HN.out.low hx3
     have hx4 := pw_cell_below HN.out.low hx4
     have hx5 := pw_cell_below HN.out.low hx5
     replace c1 := eq_true c1
     replace c2 := eq_true c2
     generalize hxx : rd_T45 xs i = x at *
     clear hxx
     go_upto_region 6 with (fail)
     have hX := blk_new wr (.cells #[.int .i64 x.f0, .string x.f1, .slice A_2 x.f2.length c_2, .string x.f3, .int .i64 x.f4, .slice A_5 x.f5.length c_5] 45)
     have hl := below_alloc (Below.refl wr.heap.size wr) (.cells #[.int .i64 x.f0, .string x.f1, .slice A_2 x.f2.length c_2, .string x.f3, .int .i64 x.f4, .slice A_5 x.f5.length c_5] 45)
     generalize wr.alloc (.cells #[.int .i64 x.f0, .string x.f1, .slice A_2 x.f2.length c_2, .string x.f3, .int .i64 x.f4, .slice A_5 x.f5.length c_5] 45) = w3 at hX hl ⊢
     have HX := Ak (show NmiW w w3 go v ns wr.heap.size x A_2 c_2 (.slice A_5 x.f5.length c_5) from ⟨HN.out.below hl, hX⟩)
     clear hl hX hx0 hx1 hx2 hx3 hx4 hx5 HN
     generalize wr.heap.size = gn at HX ⊢
     have hn0 := blk_cell HX.out.bn 0
     have hn1 := blk_cell HX.out.bn 1
     go_upto_if 19 with (first | (go_at_call 105; (with_reducible refine (impl_isNamed.calls x.f0 b _ HA1.out).mono ?_); rintro e w4 ⟨rfl, ⟨nd, rfl⟩⟩; have HX4 := Ak (HX.out.below (pw_below_drewN (Below.refl _ _) nd))))
     go_cut [] (fun wc => ∃ (y : List ByteArray) (vy : Value), Aside0 ((impl_namesOf.l1 k1 y x.f2 0).bind (fun z => impl_namesOf.l0 k1 z xs (wrap64 (i + 1))) = some r) ∧ Aside0 (NmiW w wc go vy y gn x A_2 c_2 (.slice A_5 x.f5.length c_5)))
     case first =>
      have H := HA.out
      cases b with
      | true =>
       rw [if_pos rfl] at H
       obtain ⟨y, A2, H⟩ := Ob H
       have HA2 := Ak A2
       have HA3 := Ak H
       clear A2 H HA
       go_wp2_with (first | (go_at_fn 103; (with_reducible refine (impl_namesOf_1.calls k1 go v ns x.f1 y w _ HX4.out.nam HA2.out).mono ?_); rintro e w5 ⟨rfl, vy, hN, hK⟩; have HX5 := Ak (HX4.out.step hN hK); clear hN hK))
       go_meet
       case rel => exact ⟨_, _, HA3, HX5⟩
      | false =>
       rw [if_neg (by decide)] at H
       have HA3 := Ak (show (impl_namesOf.l1 k1 ns x.f2 0).bind (fun z => impl_namesOf.l0 k1 z xs (wrap64 (i + 1))) = some r from H)
       clear H HA
       go_wp2
       go_meet
       case rel => exact ⟨_, _, HA3, HX4⟩
     case rest =>
      clear HX4 HX hn0 hn1 HA HA1
      obtain ⟨y, vy, HA, HX⟩ := hcut
      have hn2 := blk_cell HX.out.bn 2
      go_wp2
      go_loopg [27] k1 (fun kq v27 w' => ∃ (y : List ByteArray) (j : Int) (vy : Value), v27 = .int .i64 j ∧ Aside0 ((impl_namesOf.l1 kq y x.f2 j).bind (fun z => impl_namesOf.l0 k1 z xs (wrap64 (i + 1))) = some r) ∧ Aside0 (kq ≤ k1) ∧ Aside0 (NmiW w w' go vy y gn x A_2 c_2 (.slice A_5 x.f5.length c_5)))
      case atStart => exact ⟨_, _, _, rfl, HA, ⟨Nat.le_refl _⟩, HX⟩
      case round =>
       clear HA HX hn2
       obtain ⟨y, j, vy, rfl, HA, HJ, HX⟩ := hrel
       cases gk with
       | zero => exact absurd HA.out (by simp [impl_namesOf.l1])
       | succ k2 =>
        have H := HA.out
        clear HA
        simp only [impl_namesOf.l1] at H
        by_cases q1 : j < (x.f2.length : Int)
        ·rw [if_pos q1] at H
         by_cases q2 : 0 ≤ j
         ·rw [if_pos q2] at H
          rw [Option.bind_assoc] at H
          obtain ⟨z, A2, H⟩ := Ob H
          have HA2 := Ak A2
          have HA := Ak H
          clear A2 H
          have q1b : decide (j < (x.f2.length : Int)) = true := decide_eq_true q1
          obtain ⟨ad2, e2, hy0, hy1⟩ := at_T98 HI2.out j q2 q1
          subst e2
          have hy0 := pw_cell_below HX.out.nam.low hy0
          have hy1 := pw_cell_below HX.out.nam.low hy1
          replace q1 := eq_true q1
          replace q2 := eq_true q2
          generalize hzz : rd_T98 x.f2 j = a at *
          clear hzz
          go_upto_region 11 with (fail)
          have hX := blk_new wr (.cells #[.string a.f0, .string a.f1] 98)
          have hl := below_alloc (Below.refl wr.heap.size wr) (.cells #[.string a.f0, .string a.f1] 98)
          generalize wr.alloc (.cells #[.string a.f0, .string a.f1] 98) = w6 at hX hl ⊢
          have HX6 := Ak (HX.out.below hl)
          clear hl hy0 hy1 HX
          generalize wr.heap.size = ga at hX ⊢
          have ha0 := blk_cell hX 0
          clear hX
          go_wp2_with (first | (go_at_fn 103; (with_reducible refine (impl_namesOf_1.calls k2 go vy y a.f0 z w _ HX6.out.nam HA2.out).mono ?_); rintro e w7 ⟨rfl, vz, hN, hK⟩; have HX7 := Ak (HX6.out.step hN hK); clear hN hK))
          go_roundg k2
          case measure => have := HJ.out; omega
          case rel => exact ⟨_, _, _, rfl, HA, ⟨by have := HJ.out; omega⟩, HX7⟩
         ·rw [if_neg q2] at H; cases H
        ·rw [if_neg q1] at H
         have HA := Ak (show impl_namesOf.l0 k1 y xs (wrap64 (i + 1)) = some r from H)
         clear H
         have q1b : decide (j < (x.f2.length : Int)) = false := decide_eq_false q1
         clear q1
         go_wp2
         go_roundg k1
         case measure => have := HK.out; omega
         case rel => exact ⟨_, _, _, rfl, HA, ⟨by have := HK.out; omega⟩, ⟨HX.out.nam⟩⟩
    ·rw [if_neg c2] at H; cases H
   ·rw [if_neg c1] at H
    obtain rfl := Oi H
    clear H
    have c1b : decide (i < (xs.length : Int)) = false := decide_eq_false c1
    clear c1
    have hcg := HN.out.cell
    go_wp2
    go_ret
    exact ⟨_, rfl, HN.out.row, HN.out.low⟩
def impl_putNum.l0 : Nat → List Int → Int → Option (List Int)
 | 0, _, _ => none
 | k + 1, x0, x1 => if x1 > 127 then (if x0.length < 140737488355328 then (impl_putNum.l0 k (x0 ++ [(Go.bits .or .i64 128 (Go.bits .and .i64 x1 127)) % 256]) (x1 / 128)) else (none)) else (if x0.length < 140737488355328 then (some (x0 ++ [(x1) % 256])) else (none))
def impl_putNum.f (k : Nat) (l0 : List Int) (a1 : Int) : Option (List Int) := impl_putNum.l0 k l0 a1
theorem impl_putNum.mono_l : ∀ k, (∀ y0 y1, LeO (impl_putNum.l0 k y0 y1) (impl_putNum.l0 (k + 1) y0 y1))
 | 0 => fun _ _ r h => by simp [impl_putNum.l0] at h
 | k + 1 => by
  have ih0 := impl_putNum.mono_l k
  ·intro y0 y1
   unfold impl_putNum.l0
   repeat' (with_reducible first | exact ih0 _ _ | exact LeO.refl _ | exact LeO.none _ | refine LeO.ite ?_ ?_ | refine LeO.bind ?_ (fun _ => ?_))
theorem impl_putNum.mono : ∀ a0 a1 k, LeO (impl_putNum.f k a0 a1) (impl_putNum.f (k + 1) a0 a1) := by
 intro a0 a1 k
 have ih0 := impl_putNum.mono_l k
 unfold impl_putNum.f
 repeat' (with_reducible first | exact ih0 _ _ | exact LeO.refl _ | exact LeO.none _ | refine LeO.ite ?_ ?_ | refine LeO.bind ?_ (fun _ => ?_))
theorem impl_putNum.calls (k : Nat) (P0_ : Nat → Prop) (u9000_ : Value) (l0 : List Int) (a1 : Int) (r : List Int) (w0 w : World) (hB : Below w0.heap.size w0 w) (ho0 : Kd.R (Kd.int .u8) 5 w w0.heap.size P0_ u9000_ l0) (h : impl_putNum.f k l0 a1 = some r) :
 Calls Try.prog 76 #[u9000_, .int .i64 a1] w fun e w' => ∃ v0_ : Value, e = .returned (v0_) ∧ Kd.R (Kd.int .u8) 5 w' w0.heap.size (fun k_ => (P0_ k_ ∨ w.heap.size ≤ k_)) v0_ r ∧ Below w0.heap.size w0 w' ∧ Kept w w' (fun k_ => P0_ k_) := by
 have HO0 := Ak (show Kd.R (Kd.int .u8) 5 w w0.heap.size (fun k_ => (P0_ k_ ∨ w.heap.size ≤ k_)) u9000_ l0 from Kd.R_mono ho0 (fun k_ hk => (.inl hk)))
 have HK := Ak (Kept.refl w (fun k_ => P0_ k_))
 have HW0 := Ak hB.size
 have HB := Ak hB
 clear hB
 have H : (impl_putNum.l0 k l0 a1) = some r := h
 clear h
 have H' := Ak H
 clear H
 go_enter Try.func76, Try.ntmps76
 go_wp2
 go_loopg [0, 1] k (fun kq v0 v1 w' => ∃ (x0_1 : List Int) (x1_1 : Int), v1 = .int .i64 x1_1 ∧ Aside0 (impl_putNum.l0 kq x0_1 x1_1 = some r) ∧ Aside0 (kq ≤ k) ∧ Aside0 (Kd.R (Kd.int .u8) 5 w' w0.heap.size (fun k_ => (P0_ k_ ∨ w.heap.size ≤ k_)) v0 x0_1) ∧ Aside0 (Kept w w' (fun k_ => P0_ k_)) ∧ Aside0 (Below w0.heap.size w0 w'))
 case atStart => exact ⟨(l0), (a1), rfl, H', ⟨Nat.le_refl _⟩, ⟨by (with_reducible repeat (first | apply Kd.R_alloc | apply Kd.R_drewN | apply Kd.R_drew)); exact HO0.out⟩, ⟨HK.out⟩, ⟨HB.out⟩⟩
 case round =>
  clear H'
  try clear p2
  obtain ⟨x0_1, x1_1, rfl, HA, HK1, HO_0, HK, HB⟩ := hrel
  cases gk with
  | zero => exact absurd HA.out (by simp [impl_putNum.l0])
  | succ k1 =>
   have H := HA.out
   clear HA
   simp only [impl_putNum.l0] at H
   by_cases c3 : x1_1 > 127
   ·rw [if_pos c3] at H
    have c3b0 : decide (127 < x1_1) = true := decide_eq_true c3
    clear c3
    by_cases c4 : x0_1.length < 140737488355328
    ·rw [if_pos c4] at H
     have LMc4 := Ak c4
     clear c4
     obtain ⟨y101, hy101⟩ : ∃ y_ : List Int, y_ = (x0_1 ++ [(Go.bits .or .i64 128 (Go.bits .and .i64 x1_1 127)) % 256]) := ⟨_, rfl⟩
     replace H : (impl_putNum.l0 k1 y101 (x1_1 / 128)) = some r := by rw [hy101]; exact H
     have Ny101 := Ak hy101
     clear hy101
     have H' := Ak H
     clear H
     go_wp2_with (first | ((with_reducible refine gate_builtin (b := .append) (xs := #[.tmp 7, .tmp 12]) rfl ?_); at_builtin; refine Kd.R_append (Kd.int .u8) (w0 := w0) w0.heap.size rfl (.tmp 7) (.tmp 12) 52 5 (.int .u8 0) 1 rfl Try.underlying52 info5 rfl (by decide) (by omega) u0 x0_1 ((Go.bits .or .i64 128 (Go.bits .and .i64 x1_1 127)) % 256) [.int .u8 ((Go.bits .or .i64 128 (Go.bits .and .i64 x1_1 127)) % 256)] (fun k_ => (P0_ k_ ∨ w.heap.size ≤ k_)) (fun _ => False) rfl rfl ?aP (fun _ hk => hk.elim) ?aF ?aO ?aB ?aS ?aL ?_; (case aP => exact rfl); (case aB => exact (HB.out)); (case aF => exact (fun k_ hk => (.inr (Nat.le_trans (by first | exact HK.out.1 | exact (show Kept w _ (fun k_ => P0_ k_) from HK.out).1) hk)))); (case aO => exact HO_0.out); (case aS => exact (below_size (HB.out))); (case aL => have := LMc4.out; omega); intro v102 w5 ho hb hg hat; rw [← Ny101.out] at ho; replace HK := Ak (Kept.of_grown (S := (fun k_ => P0_ k_)) hg (HK.out) (fun k_ e_ => (HO_0.out.1 k_ e_))); replace HO103 := Ak (ho); replace HB := Ak (hb); clear ho hb hg hat))
     go_roundg k1
     case measure => have := HK1.out; omega
     case rel => exact ⟨(y101), (x1_1 / 128), rfl, H', ⟨by have := HK1.out; omega⟩, ⟨by (with_reducible repeat (first | apply Kd.R_alloc | apply Kd.R_drewN | apply Kd.R_drew)); exact HO103.out⟩, ⟨HK.out⟩, ⟨HB.out⟩⟩
    ·rw [if_neg c4] at H
     exact absurd H (by simp)
   ·rw [if_neg c3] at H
    have c3b0 : decide (127 < x1_1) = false := decide_eq_false c3
    clear c3
    by_cases c6 : x0_1.length < 140737488355328
    ·rw [if_pos c6] at H
     have LMc6 := Ak c6
     clear c6
     obtain ⟨y104, hy104⟩ : ∃ y_ : List Int, y_ = (x0_1 ++ [(x1_1) % 256]) := ⟨_, rfl⟩
     replace H : (some y104) = some r := by rw [hy104]; exact H
     have Ny104 := Ak hy104
     clear hy104
     obtain rfl := Oi H
     go_wp2_with (first | ((with_reducible refine gate_builtin (b := .append) (xs := #[.tmp 16, .tmp 19]) rfl ?_); at_builtin; refine Kd.R_append (Kd.int .u8) (w0 := w0) w0.heap.size rfl (.tmp 16) (.tmp 19) 52 5 (.int .u8 0) 1 rfl Try.underlying52 info5 rfl (by decide) (by omega) u0 x0_1 ((x1_1) % 256) [.int .u8 ((x1_1) % 256)] (fun k_ => (P0_ k_ ∨ w.heap.size ≤ k_)) (fun _ => False) rfl rfl ?aP (fun _ hk => hk.elim) ?aF ?aO ?aB ?aS ?aL ?_; (case aP => exact rfl); (case aB => exact (HB.out)); (case aF => exact (fun k_ hk => (.inr (Nat.le_trans (by first | exact HK.out.1 | exact (show Kept w _ (fun k_ => P0_ k_) from HK.out).1) hk)))); (case aO => exact HO_0.out); (case aS => exact (below_size (HB.out))); (case aL => have := LMc6.out; omega); intro v105 w7 ho hb hg hat; rw [← Ny104.out] at ho; replace HK := Ak (Kept.of_grown (S := (fun k_ => P0_ k_)) hg (HK.out) (fun k_ e_ => (HO_0.out.1 k_ e_))); replace HO106 := Ak (ho); replace HB := Ak (hb); clear ho hb hg hat))
     go_ret
     exact ⟨_, rfl, by (with_reducible repeat (first | apply Kd.R_alloc | apply Kd.R_drewN | apply Kd.R_drew)); exact HO106.out, HB.out, HK.out⟩
    ·rw [if_neg c6] at H
     exact absurd H (by simp)
def impl_putText.f (k : Nat) (l0 : List Int) (a1 : ByteArray) : Option (List Int) := (impl_putNum.f k l0 (a1.size : Int)).bind fun t101 => (if t101.length + a1.size < 140737488355328 then (some (t101 ++ bytesOf a1)) else (none))
theorem impl_putText.mono : ∀ a0 a1 k, LeO (impl_putText.f k a0 a1) (impl_putText.f (k + 1) a0 a1) := by
 intro a0 a1 k
 unfold impl_putText.f
 repeat' (with_reducible first | exact impl_putNum.mono _ _ _ | exact LeO.refl _ | exact LeO.none _ | refine LeO.ite ?_ ?_ | refine LeO.bind ?_ (fun _ => ?_))
theorem impl_putText.calls (k : Nat) (P0_ : Nat → Prop) (u9000_ : Value) (l0 : List Int) (a1 : ByteArray) (r : List Int) (w0 w : World) (hB : Below w0.heap.size w0 w) (ho0 : Kd.R (Kd.int .u8) 5 w w0.heap.size P0_ u9000_ l0) (h : impl_putText.f k l0 a1 = some r) :
 Calls Try.prog 77 #[u9000_, .string a1] w fun e w' => ∃ v0_ : Value, e = .returned (v0_) ∧ Kd.R (Kd.int .u8) 5 w' w0.heap.size (fun k_ => (P0_ k_ ∨ w.heap.size ≤ k_)) v0_ r ∧ Below w0.heap.size w0 w' ∧ Kept w w' (fun k_ => P0_ k_) := by
 have HO0 := Ak (show Kd.R (Kd.int .u8) 5 w w0.heap.size (fun k_ => (P0_ k_ ∨ w.heap.size ≤ k_)) u9000_ l0 from Kd.R_mono ho0 (fun k_ hk => (.inl hk)))
 have HK := Ak (Kept.refl w (fun k_ => P0_ k_))
 have HW0 := Ak hB.size
 have HB := Ak hB
 clear hB
 have H : ((impl_putNum.f k l0 (a1.size : Int)).bind fun t101 => (if t101.length + a1.size < 140737488355328 then (some (t101 ++ bytesOf a1)) else (none))) = some r := h
 clear h
 replace H := Ob H
 obtain ⟨t101, A30, H⟩ := H
 replace H : (if t101.length + a1.size < 140737488355328 then (some (t101 ++ bytesOf a1)) else (none)) = some r := H
 have A3 := Ak A30
 clear A30
 by_cases c4 : t101.length + a1.size < 140737488355328
 ·rw [if_pos c4] at H
  have LMc4 := Ak c4
  clear c4
  obtain ⟨y104, hy104⟩ : ∃ y_ : List Int, y_ = (t101 ++ bytesOf a1) := ⟨_, rfl⟩
  replace H : (some y104) = some r := by rw [hy104]; exact H
  have Ny104 := Ak hy104
  clear hy104
  obtain rfl := Oi H
  obtain ⟨Ao5, co5, eo5⟩ := Kd.R_slice HO0.out
  subst eo5
  go_enter Try.func77, Try.ntmps77
  go_wp2_with (first | (go_at_call 76; (with_reducible refine (impl_putNum.calls k (fun k_ => some k_ = (.slice Ao5 l0.length co5 : Value).ownBlock) (.slice Ao5 l0.length co5) l0 (a1.size : Int) t101 w0 _ ?side1 ?side2 A3.out).mono ?_); (case side1 => repeat (first | (with_reducible first | exact HB.out | apply below_alloc | apply pw_below_drewN | apply below_drew1) | exact HB.out)); (case side2 => exact Kd.R_tight rfl HO0.out); rintro e w6 ⟨v102, rfl, ho0, hb, hkp⟩; replace HO103 := Ak (Kd.R_mono (ok' := fun k_ => (P0_ k_ ∨ w.heap.size ≤ k_)) ho0 (fun k_ hk_ => Or.elim hk_ (fun hs_ => (HO0.out.1 k_ (hs_).symm)) (fun hn_ => (.inr (Nat.le_trans (by first | exact HK.out.1 | exact (show Kept w _ (fun k_ => P0_ k_) from HK.out).1) hn_))))); replace HK := Ak (Kept.then_ (S := (fun k_ => P0_ k_)) (HK.out) hkp (fun k_ hs_ => (fun e_ => (HO0.out.1 k_ e_.symm)) hs_)); replace HB := Ak (hb); (try clear hb); (try clear hkp); (try clear ho0)) | (at_builtin; refine append_str (w0 := w0) w0.heap.size rfl (.tmp 8) _ 52 9 5 rfl Try.underlying52 Try.underlying9 info5 v102 t101 a1 (fun k_ => (P0_ k_ ∨ w.heap.size ≤ k_)) ?aF rfl rfl ?aO ?aB ?aS ?aL ?_; (case aB => exact (HB.out)); (case aF => exact (fun k_ hk => (.inr (Nat.le_trans (by first | exact HK.out.1 | exact (show Kept w _ (fun k_ => P0_ k_) from HK.out).1) hk)))); (case aO => exact HO103.out); (case aS => exact (below_size (HB.out))); (case aL => have := LMc4.out; omega); intro v105 w7 ho hb hg hat; rw [← Ny104.out] at ho; replace HK := Ak (Kept.of_grown (S := (fun k_ => P0_ k_)) hg (HK.out) (fun k_ e_ => (HO103.out.1 k_ e_))); replace HO106 := Ak (ho); replace HB := Ak (hb); clear ho hb hg hat))
  go_ret
  exact ⟨_, by first | rfl | (simp [*] <;> rfl), by (with_reducible repeat (first | apply Kd.R_alloc | apply Kd.R_drewN | apply Kd.R_drew)); exact HO106.out, HB.out, HK.out⟩
 ·rw [if_neg c4] at H
  exact absurd H (by simp)
def impl_packNode.l0 : Nat → List Int → List ByteArray → List S98 → Int → Option (List Int)
 | 0, _, _, _, _ => none
 | k + 1, o, ns, al, j => if j < (al.length : Int) then (if 0 ≤ j then (slices_Index_string_string.f k ns (rd_T98 al j).f0).bind fun q => (impl_putNum.f k o q).bind fun o1 => (impl_putText.f k o1 (rd_T98 al j).f1).bind fun o2 => impl_packNode.l0 k o2 ns al (wrap64 (j + 1)) else none) else some o
def impl_packNode.tail (k : Nat) (o : List Int) (ns : List ByteArray) (x : S45) : Option (List Int) := if x.f0 = 3 then (impl_putNum.f k o (x.f2.length : Int)).bind fun o1 => impl_packNode.l0 k o1 ns x.f2 0 else if x.f0 = 4 ∨ x.f0 = 5 then impl_putText.f k o x.f3 else some o
def impl_packNode.f (k : Nat) (o : List Int) (ns : List ByteArray) (x : S45) : Option (List Int) := (impl_putNum.f k o x.f0).bind fun o1 => (impl_putNum.f k o1 (x.f5.length : Int)).bind fun o2 => (impl_isNamed.f x.f0).bind fun b => (if b = true then (slices_Index_string_string.f k ns x.f1).bind fun q => impl_putNum.f k o2 q else some o2).bind fun o3 => impl_packNode.tail k o3 ns x
theorem impl_packNode.mono0 : ∀ k a b c d, LeO (impl_packNode.l0 k a b c d) (impl_packNode.l0 (k + 1) a b c d)
 | 0 => fun _ _ _ _ r h => by simp [impl_packNode.l0] at h
 | k + 1 => fun a b c d => by
  rw [impl_packNode.l0, impl_packNode.l0]
  exact LeO.ite (LeO.ite (LeO.bind (slices_Index_string_string.mono _ _ k) (fun _ => LeO.bind (impl_putNum.mono _ _ k) (fun _ => LeO.bind (impl_putText.mono _ _ k) (fun _ => impl_packNode.mono0 k _ _ _ _)))) (LeO.refl _)) (LeO.refl _)
theorem impl_packNode.mono (o : List Int) (ns : List ByteArray) (x : S45) (k : Nat) : LeO (impl_packNode.f k o ns x) (impl_packNode.f (k + 1) o ns x) :=
 LeO.bind (impl_putNum.mono _ _ k) (fun _ => LeO.bind (impl_putNum.mono _ _ k) (fun _ => LeO.bind (LeO.refl _) (fun _ => LeO.bind (LeO.ite (LeO.bind (slices_Index_string_string.mono _ _ k) (fun _ => impl_putNum.mono _ _ k)) (LeO.refl _)) (fun _ => LeO.ite (LeO.bind (impl_putNum.mono _ _ k) (fun _ => impl_packNode.mono0 k _ _ _ _)) (LeO.ite (impl_putText.mono _ _ k) (LeO.refl _))))))
theorem dr_below {w w' : World} (h : Drawn0 w w') : Below w.heap.size w w' := by
 obtain ⟨n, rfl⟩ := h
 exact pw_below_drewN (Below.refl _ _) n
structure PbW (w W : World) (An : Option Addr) (cn : Nat) (ns : List ByteArray) (v : Value) (o : List Int) : Prop where
 names : Kd.R Kd.string 9 W w.heap.size (fun _ => True) (.slice An ns.length cn) ns
 row : Kd.R (Kd.int .u8) 5 W w.heap.size (fun _ => True) v o
 low : Below w.heap.size w W
theorem PbW.tight {w W : World} {An : Option Addr} {cn : Nat} {ns : List ByteArray} {v : Value} {o : List Int} {P : Nat → Prop} (hn : Kd.R Kd.string 9 W w.heap.size (fun _ => True) (.slice An ns.length cn) ns) (hr : Kd.R (Kd.int .u8) 5 W w.heap.size P v o) : Kd.R Kd.string 9 W w.heap.size (fun k_ => ¬ some k_ = v.ownBlock) (.slice An ns.length cn) ns := by
 refine Kd.R_mono (Kd.R_bound hn) (fun k hk1 e => ?_)
 obtain ⟨_, _, _, q, hq, cs, hc⟩ := hk1
 obtain rfl : q = 9 := List.mem_singleton.1 (show q ∈ [9] from hq)
 exact Kd.R_ne hr hc (by decide) e
structure PbN (w0 w W : World) (An : Option Addr) (cn : Nat) (ns : List ByteArray) (v0 v : Value) (o : List Int) (gn : Nat) (x : S45) (A2 A5 : Option Addr) (c2 c5 : Nat) : Prop where
 bn : W.heap[gn]? = some (.cells #[.int .i64 x.f0, .string x.f1, .slice A2 x.f2.length c2, .string x.f3, .int .i64 x.f4, .slice A5 x.f5.length c5] 45 (0, 0))
 names : Kd.R Kd.string 9 W w0.heap.size (fun _ => True) (.slice An ns.length cn) ns
 row : Kd.R (Kd.int .u8) 5 W w0.heap.size (fun k_ => some k_ = v0.ownBlock ∨ w.heap.size ≤ k_) v o
 low : Below w0.heap.size w0 W
 kept : Kept w W (fun k_ => some k_ = v0.ownBlock)
section
variable {w0 w W W2 : World} {An A2 A5 : Option Addr} {cn c2 c5 gn : Nat} {ns : List ByteArray} {v0 v v2 : Value} {o o2 : List Int} {x : S45}
theorem PbN.below (h : PbN w0 w W An cn ns v0 v o gn x A2 A5 c2 c5) (hb : Below W.heap.size W W2) : PbN w0 w W2 An cn ns v0 v o gn x A2 A5 c2 c5 := ⟨blk_below h.bn hb, Kd.R_below h.names hb, Kd.R_below h.row hb, below_step h.low hb, h.kept.below hb⟩
theorem PbN.step (h : PbN w0 w W An cn ns v0 v o gn x A2 A5 c2 c5) (hr : Kd.R (Kd.int .u8) 5 W2 w0.heap.size (fun k_ => some k_ = v.ownBlock ∨ W.heap.size ≤ k_) v2 o2) (hb : Below w0.heap.size w0 W2) (hk : Kept W W2 (fun k_ => some k_ = v.ownBlock)) : PbN w0 w W2 An cn ns v0 v2 o2 gn x A2 A5 c2 c5 :=
 ⟨blk_kept h.bn hk (Kd.R_ne h.row h.bn (by decide)), Kd.R_mono (Kd.R_kept (PbW.tight h.names h.row) hk (fun _ h_ => h_)) (fun _ _ => trivial), Kd.R_mono hr (fun k_ e => e.elim (fun e => h.row.1 k_ e.symm) (fun e => .inr (Nat.le_trans h.kept.1 e))), hb, h.kept.then_ hk (fun k_ e => h.row.1 k_ e.symm)⟩
end
theorem impl_packNode.calls (k : Nat) (v : Value) (o : List Int) (x : S45) (A2 A5 : Option Addr) (c2 c5 : Nat) (An : Option Addr) (cn : Nat) (ns : List ByteArray) (r : List Int) (w0 w : World) (hP : PbW w0 w An cn ns v o) (h2 : Kd.C k98 w0 A2 x.f2.length x.f2) (h : impl_packNode.f k o ns x = some r) :
 Calls Try.prog 78 #[v, .agg #[.int .i64 x.f0, .string x.f1, .slice A2 x.f2.length c2, .string x.f3, .int .i64 x.f4, .slice A5 x.f5.length c5], .slice An ns.length cn] w fun e w' => ∃ v0_ : Value, e = .returned v0_ ∧ Kd.R (Kd.int .u8) 5 w' w0.heap.size (fun k_ => some k_ = v.ownBlock ∨ w.heap.size ≤ k_) v0_ r ∧ Below w0.heap.size w0 w' ∧ Kept w w' (fun k_ => some k_ = v.ownBlock) := by
 unfold impl_packNode.f at h
 obtain ⟨o1, A1, h⟩ := Ob h
 obtain ⟨o2, A2_, h⟩ := Ob h
 obtain ⟨b, A3, h⟩ := Ob h
 obtain ⟨o3, A4, h⟩ := Ob h
 have HA1 := Ak A1
 have HA2 := Ak A2_
 have HA3 := Ak A3
 have HA4 := Ak A4
 have HA := Ak h
 have H2 := Ak h2
 have HP0 := Ak hP
 clear h A1 A2_ A3 A4 h2 hP
 go_enter Try.func78, Try.ntmps78
 go_upto_region 1 with (first | ((with_reducible refine gate_dst (N := 4) rfl ?_); refine box_event ?hg (N := 4) ?hd (cs := #[.int .i64 x.f0, .string x.f1, .slice A2 x.f2.length c2, .string x.f3, .int .i64 x.f4, .slice A5 x.f5.length c5]) (t := 45) ?hr ?_; (case hd => rfl); (case hg => rfl); (case hr => first | (go_simp; done) | (go_simp; rfl)); intro gn hg w1 hbox hb; have HP := Ak (show PbN w0 w w1 An cn ns v v o gn x A2 A5 c2 c5 from ⟨hbox, Kd.R_below HP0.out.names hb, Kd.R_mono (Kd.R_tight rfl (Kd.R_below HP0.out.row hb)) (fun _ e => .inl e), below_step HP0.out.low hb, Kept.of_below hb _⟩); clear hbox hb hg))
 have HPD := Ak (HP.out.below (pw_below_drewN (Below.refl _ _) 1))
 change Aside0 (PbN w0 w w1.drew _ _ _ _ _ _ _ _ _ _ _ _) at HPD
 have hn0 := blk_cell HP.out.bn 0
 have hn5 := blk_cell HP.out.bn 5
 go_region_held3 (fun w' => w'.cell? ⟨gn, 0, none⟩ = some (.int .i64 x.f0) ∧ w'.cell? ⟨gn, 5, none⟩ = some (.slice A5 x.f5.length c5)) (first | exact ⟨hn0, hn5⟩ | exact ⟨hn0A, hn5A⟩ | exact ⟨hn0B, hn5B⟩) (first | (go_at_call 76; (with_reducible refine (impl_putNum.calls k (fun k_ => some k_ = (v : Value).ownBlock) v o x.f0 o1 w0 _ HPD.out.low (Kd.R_tight rfl HPD.out.row) HA1.out).mono ?_); rintro e wA ⟨vA, rfl, hr, hb, hk⟩; have HPA := Ak (HPD.out.step hr hb hk); have hn0A := blk_cell HPA.out.bn 0; have hn5A := blk_cell HPA.out.bn 5; clear hr hb hk) | (go_at_call 76; (with_reducible refine (impl_putNum.calls k (fun k_ => some k_ = (vA : Value).ownBlock) vA o1 (x.f5.length : Int) o2 w0 _ HPA.out.low (Kd.R_tight rfl HPA.out.row) HA2.out).mono ?_); rintro e wB ⟨vB, rfl, hr, hb, hk⟩; have HPB := Ak (HPA.out.step hr hb hk); have hn0B := blk_cell HPB.out.bn 0; have hn5B := blk_cell HPB.out.bn 5; clear hr hb hk))
 clear hn0 hn5 hn0A hn5A hn5B HP HPD HPA HA1 HA2 HP0
 go_upto_if 19 with (first | (go_at_call 105; (with_reducible refine (impl_isNamed.calls x.f0 b _ HA3.out).mono ?_); rintro e w4 ⟨rfl, hd⟩; have HP4 := Ak (HPB.out.below (dr_below hd)); have hn1 := blk_cell HP4.out.bn 1; clear hd))
 go_cut [0] (fun s0 wc => Aside0 (PbN w0 w wc An cn ns v s0 o3 gn x A2 A5 c2 c5))
 case first =>
  have H := HA4.out
  cases b with
  | true =>
   rw [if_pos rfl] at H
   obtain ⟨q, A1, H⟩ := Ob H
   have HQ := Ak A1
   have HN := Ak H
   clear A1 H
   go_wp2_with (first | (go_at_call 106; (with_reducible refine (slices_Index_string_string.calls k An cn ns x.f1 q _ (Kd.R_reads' HP4.out.names).2.2 (Kd.R_reads' HP4.out.names).2.1 HQ.out).mono ?_); rintro e wfC ⟨rfl, hd⟩; have HPfC := Ak (HP4.out.below (dr_below hd)); clear hd) | (go_at_call 76; (with_reducible refine (impl_putNum.calls k (fun k_ => some k_ = (vB : Value).ownBlock) vB o2 q o3 w0 _ HPfC.out.low (Kd.R_tight rfl HPfC.out.row) HN.out).mono ?_); rintro e wC ⟨vC, rfl, hr, hb, hk⟩; have HPC := Ak (HPfC.out.step hr hb hk); clear hr hb hk))
   go_meet
   case rel => exact HPC
  | false =>
   rw [if_neg (by decide)] at H
   obtain rfl := Oi H
   clear H
   go_wp2
   go_meet
   case rel => exact HP4
 case rest =>
  clear HP4 HPB hn0B hn1 HA3 HA4
  have HP := hcut
  clear hcut
  have H := HA.out
  clear HA
  unfold impl_packNode.tail at H
  have hn0 := blk_cell HP.out.bn 0
  by_cases e3 : x.f0 = 3
  ·rw [if_pos e3] at H
   have e3b : (x.f0 == 3) = true := beq_iff_eq.2 e3
   clear e3
   obtain ⟨o4, A1, H⟩ := Ob H
   have HA1 := Ak A1
   have HA := Ak H
   clear A1 H
   have hn2 := blk_cell HP.out.bn 2
   go_wp2_with (first | (go_at_call 76; (with_reducible refine (impl_putNum.calls k (fun k_ => some k_ = (u0 : Value).ownBlock) u0 o3 (x.f2.length : Int) o4 w0 _ HP.out.low (Kd.R_tight rfl HP.out.row) HA1.out).mono ?_); rintro e wD ⟨vD, rfl, hr, hb, hk⟩; have HPD := Ak (HP.out.step hr hb hk); have hn2D := blk_cell HPD.out.bn 2; clear hr hb hk))
   clear hn0 hn2 HP HA1
   go_loopg [0, 38] k (fun kq v0 v38 w' => ∃ (o : List Int) (j : Int), v38 = .int .i64 j ∧ Aside0 (impl_packNode.l0 kq o ns x.f2 j = some r) ∧ Aside0 (kq ≤ k) ∧ Aside0 (PbN w0 w w' An cn ns v v0 o gn x A2 A5 c2 c5))
   case atStart => exact ⟨_, _, rfl, HA, ⟨Nat.le_refl _⟩, HPD⟩
   case round =>
    clear HA HPD hn2D
    obtain ⟨o, j, rfl, HA, HJ, HP⟩ := hrel
    cases gk with
    | zero => exact absurd HA.out (by simp [impl_packNode.l0])
    | succ k2 =>
     have H := HA.out
     clear HA
     simp only [impl_packNode.l0] at H
     by_cases q1 : j < (x.f2.length : Int)
     ·rw [if_pos q1] at H
      by_cases q2 : 0 ≤ j
      ·rw [if_pos q2] at H
       obtain ⟨q, A1, H⟩ := Ob H
       obtain ⟨o5, A3, H⟩ := Ob H
       obtain ⟨o6, A4, H⟩ := Ob H
       have HQ := Ak A1
       have HA3 := Ak A3
       have HA4 := Ak A4
       have HA := Ak H
       clear A1 A3 A4 H
       have q1b : decide (j < (x.f2.length : Int)) = true := decide_eq_true q1
       obtain ⟨ad2, e2, hy0, hy1⟩ := at_T98 H2.out j q2 q1
       subst e2
       have hy0 := pw_cell_below HP.out.low hy0
       have hy1 := pw_cell_below HP.out.low hy1
       replace q1 := eq_true q1
       replace q2 := eq_true q2
       generalize hzz : rd_T98 x.f2 j = a at *
       clear hzz
       go_upto_region 10 with (fail)
       have hX := blk_new wr (.cells #[.string a.f0, .string a.f1] 98)
       have hl := below_alloc (Below.refl wr.heap.size wr) (.cells #[.string a.f0, .string a.f1] 98)
       generalize wr.alloc (.cells #[.string a.f0, .string a.f1] 98) = w6 at hX hl ⊢
       have HP6 := Ak (show PbN w0 w w6.drew An cn ns v _ o gn x _ A5 c2 c5 from (HP.out.below hl).below (pw_below_drewN (Below.refl _ _) 1))
       have HX := Ak (show w6.drew.heap[wr.heap.size]? = some (.cells #[.string a.f0, .string a.f1] 98 (0, 0)) from hX)
       clear hl hy0 hy1 HP
       generalize wr.heap.size = ga at hX HX ⊢
       have ha0 := blk_cell hX 0
       have ha1 := blk_cell hX 1
       clear hX
       go_region_held3 (fun w' => w'.cell? ⟨ga, 0, none⟩ = some (.string a.f0) ∧ w'.cell? ⟨ga, 1, none⟩ = some (.string a.f1)) (first | exact ⟨ha0, ha1⟩ | exact ⟨ha0F, ha1F⟩ | exact ⟨ha0E, ha1E⟩ | exact ⟨ha0G, ha1G⟩) (first | (go_at_call 106; (with_reducible refine (slices_Index_string_string.calls k2 An cn ns a.f0 q _ (Kd.R_reads' HP6.out.names).2.2 (Kd.R_reads' HP6.out.names).2.1 HQ.out).mono ?_); rintro e wfF ⟨rfl, hd⟩; have HPfF := Ak (HP6.out.below (dr_below hd)); have HXF := Ak (blk_below HX.out (dr_below hd)); have ha0F := blk_cell HXF.out 0; have ha1F := blk_cell HXF.out 1; clear hd) | (go_at_call 76; (with_reducible refine (impl_putNum.calls k2 (fun k_ => some k_ = (u0 : Value).ownBlock) u0 o q o5 w0 _ HPfF.out.low (Kd.R_tight rfl HPfF.out.row) HA3.out).mono ?_); rintro e wE ⟨vE, rfl, hr, hb, hk⟩; have HPE := Ak (HPfF.out.step hr hb hk); have HXE := Ak (blk_kept HXF.out hk (Kd.R_ne HPfF.out.row HXF.out (by decide))); have ha0E := blk_cell HXE.out 0; have ha1E := blk_cell HXE.out 1; clear hr hb hk) | (go_at_call 77; (with_reducible refine (impl_putText.calls k2 (fun k_ => some k_ = (vE : Value).ownBlock) vE o5 a.f1 o6 w0 _ HPE.out.low (Kd.R_tight rfl HPE.out.row) HA4.out).mono ?_); rintro e wG ⟨vG, rfl, hr, hb, hk⟩; have HPG := Ak (HPE.out.step hr hb hk); have HXG := Ak (blk_kept HXE.out hk (Kd.R_ne HPE.out.row HXE.out (by decide))); have ha0G := blk_cell HXG.out 0; have ha1G := blk_cell HXG.out 1; clear hr hb hk))
       go_wp2
       go_roundg k2
       case measure => have := HJ.out; omega
       case rel => exact ⟨_, _, rfl, HA, ⟨by have := HJ.out; omega⟩, HPG⟩
      ·rw [if_neg q2] at H; cases H
     ·rw [if_neg q1] at H
      obtain rfl := Oi H
      clear H
      have q1b : decide (j < (x.f2.length : Int)) = false := decide_eq_false q1
      clear q1
      go_wp2
      go_ret
      exact ⟨_, rfl, HP.out.row, HP.out.low, HP.out.kept⟩
  ·rw [if_neg e3] at H
   have e3b : (x.f0 == 3) = false := beq_eq_false_iff_ne.2 e3
   clear e3
   have hn3 := blk_cell HP.out.bn 3
   by_cases e4 : x.f0 = 4
   ·rw [if_pos (.inl e4)] at H
    have e4b : (x.f0 == 4) = true := beq_iff_eq.2 e4
    have HA1 := Ak H
    clear e4 H
    go_wp2_with (first | (go_at_call 77; (with_reducible refine (impl_putText.calls k (fun k_ => some k_ = (u0 : Value).ownBlock) u0 o3 x.f3 r w0 _ HP.out.low (Kd.R_tight rfl HP.out.row) HA1.out).mono ?_); rintro e wD ⟨vD, rfl, hr, hb, hk⟩; have HPD := Ak (HP.out.step hr hb hk); clear hr hb hk))
    go_ret
    exact ⟨_, rfl, HPD.out.row, HPD.out.low, HPD.out.kept⟩
   ·have e4b : (x.f0 == 4) = false := beq_eq_false_iff_ne.2 e4
    by_cases e5 : x.f0 = 5
    ·rw [if_pos (.inr e5)] at H
     have e5b : (x.f0 == 5) = true := beq_iff_eq.2 e5
     have HA1 := Ak H
     clear e4 e5 H
     go_wp2_with (first | (go_at_call 77; (with_reducible refine (impl_putText.calls k (fun k_ => some k_ = (u0 : Value).ownBlock) u0 o3 x.f3 r w0 _ HP.out.low (Kd.R_tight rfl HP.out.row) HA1.out).mono ?_); rintro e wD ⟨vD, rfl, hr, hb, hk⟩; have HPD := Ak (HP.out.step hr hb hk); clear hr hb hk))
     go_ret
     exact ⟨_, rfl, HPD.out.row, HPD.out.low, HPD.out.kept⟩
    ·rw [if_neg (fun e => e.elim e4 e5)] at H
     have e5b : (x.f0 == 5) = false := beq_eq_false_iff_ne.2 e5
     obtain rfl := Oi H
     clear e4 e5 H
     go_wp2
     go_ret
     exact ⟨_, rfl, HP.out.row, HP.out.low, HP.out.kept⟩
def impl_TreePack.l0 : Nat → List Int → List ByteArray → Int → Option (List Int)
 | 0, _, _, _ => none
 | k + 1, o, ns, i => if i < (ns.length : Int) then (if 0 ≤ i then (impl_putText.f k o (rdOf ByteArray.empty ns i)).bind fun o1 => impl_TreePack.l0 k o1 ns (wrap64 (i + 1)) else none) else some o
def impl_TreePack.l1 : Nat → List Int → List ByteArray → List S45 → Int → Option (List Int)
 | 0, _, _, _, _ => none
 | k + 1, o, ns, xs, i => if i < (xs.length : Int) then (if 0 ≤ i then (impl_packNode.f k o ns (rd_T45 xs i)).bind fun o1 => impl_TreePack.l1 k o1 ns xs (wrap64 (i + 1)) else none) else some o
def impl_TreePack.fin (o : List Int) : Option (List Int × Bool) := if 20000 < (o.length : Int) then some ([], false) else some (o, true)
def impl_TreePack.rest (k : Nat) (ns : List ByteArray) (xs : List S45) (o1 : List Int) : Option (List Int × Bool) := (impl_putNum.f k o1 (xs.length : Int)).bind fun o2 => (impl_TreePack.l1 k o2 ns xs 0).bind impl_TreePack.fin
def impl_TreePack.f (k : Nat) (xs : List S45) : Option (List Int × Bool) := (impl_TreeOk.f k xs).bind fun b => if b = true then (impl_Tree_tidy.f k xs).bind fun ys => (impl_sameTree.f k xs ys).bind fun e => if e = true then (impl_namesOf.f k xs).bind fun ns => (impl_putNum.f k [] (ns.length : Int)).bind fun o0 => (impl_TreePack.l0 k o0 ns 0).bind fun o1 => impl_TreePack.rest k ns xs o1 else some ([], false) else some ([], false)
theorem impl_TreePack.mono0 : ∀ k a b c, LeO (impl_TreePack.l0 k a b c) (impl_TreePack.l0 (k + 1) a b c)
 | 0 => fun _ _ _ r h => by simp [impl_TreePack.l0] at h
 | k + 1 => fun a b c => by
  rw [impl_TreePack.l0, impl_TreePack.l0]
  exact LeO.ite (LeO.ite (LeO.bind (impl_putText.mono _ _ k) (fun _ => impl_TreePack.mono0 k _ _ _)) (LeO.refl _)) (LeO.refl _)
theorem impl_TreePack.mono1 : ∀ k a b c d, LeO (impl_TreePack.l1 k a b c d) (impl_TreePack.l1 (k + 1) a b c d)
 | 0 => fun _ _ _ _ r h => by simp [impl_TreePack.l1] at h
 | k + 1 => fun a b c d => by
  rw [impl_TreePack.l1, impl_TreePack.l1]
  exact LeO.ite (LeO.ite (LeO.bind (impl_packNode.mono _ _ _ k) (fun _ => impl_TreePack.mono1 k _ _ _ _)) (LeO.refl _)) (LeO.refl _)
theorem impl_TreePack.mono : ∀ a0 k, LeO (impl_TreePack.f k a0) (impl_TreePack.f (k + 1) a0) := fun _ k => LeO.bind (impl_TreeOk.mono _ k) (fun _ => LeO.ite (LeO.bind (impl_Tree_tidy.mono _ k) (fun _ => LeO.bind (impl_sameTree.mono _ _ k) (fun _ => LeO.ite (LeO.bind (impl_namesOf.mono _ k) (fun _ => LeO.bind (impl_putNum.mono _ _ k) (fun _ => LeO.bind (impl_TreePack.mono0 k _ _ _) (fun _ => LeO.bind (impl_putNum.mono _ _ k) (fun _ => LeO.bind (impl_TreePack.mono1 k _ _ _ _) (fun _ => LeO.refl _)))))) (LeO.refl _)))) (LeO.refl _))
structure PiT (w W : World) (gt : Nat) (A0 : Option Addr) (n0 c0 : Nat) : Prop where
 bt : W.heap[gt]? = some (.cells #[.slice A0 n0 c0] 29 (0, 0))
 low : Below w.heap.size w W
 ge : w.heap.size ≤ gt
structure PiW (w W : World) (gt : Nat) (A0 : Option Addr) (n0 c0 : Nat) (An : Option Addr) (cn : Nat) (ns : List ByteArray) (v : Value) (o : List Int) : Prop where
 t : PiT w W gt A0 n0 c0
 names : Kd.R Kd.string 9 W w.heap.size (fun _ => True) (.slice An ns.length cn) ns
 row : Kd.R (Kd.int .u8) 5 W w.heap.size (fun _ => True) v o
section
variable {w W W2 : World} {gt n0 c0 cn gn c2 c5 : Nat} {A0 An A2 A5 : Option Addr} {v v2 : Value} {ns : List ByteArray} {o o2 : List Int} {x : S45}
theorem PiT.below (h : PiT w W gt A0 n0 c0) (hb : Below W.heap.size W W2) : PiT w W2 gt A0 n0 c0 := ⟨blk_below h.bt hb, below_step h.low hb, h.ge⟩
theorem PiW.below (h : PiW w W gt A0 n0 c0 An cn ns v o) (hb : Below W.heap.size W W2) : PiW w W2 gt A0 n0 c0 An cn ns v o := ⟨h.t.below hb, Kd.R_below h.names hb, Kd.R_below h.row hb⟩
theorem PiW.own (h : PiW w W gt A0 n0 c0 An cn ns v o) : ∀ k_, some k_ = v.ownBlock → w.heap.size ≤ k_ := fun k_ e => ((Kd.R_bound h.row).1 k_ e.symm).2.1
theorem PiW.tight (h : PiW w W gt A0 n0 c0 An cn ns v o) : Kd.R Kd.string 9 W w.heap.size (fun k_ => ¬ some k_ = v.ownBlock) (.slice An ns.length cn) ns := by
 refine Kd.R_mono (Kd.R_bound h.names) (fun k hk1 e => ?_)
 obtain ⟨_, _, _, q, hq, cs, hc⟩ := hk1
 obtain rfl : q = 9 := List.mem_singleton.1 (show q ∈ [9] from hq)
 exact Kd.R_ne h.row hc (by decide) e
theorem PiW.step (h : PiW w W gt A0 n0 c0 An cn ns v o) (hr : Kd.R (Kd.int .u8) 5 W2 w.heap.size (fun k_ => some k_ = v.ownBlock ∨ W.heap.size ≤ k_) v2 o2) (hb : Below w.heap.size w W2) (hk : Kept W W2 (fun k_ => some k_ = v.ownBlock)) : PiW w W2 gt A0 n0 c0 An cn ns v2 o2 :=
 ⟨⟨blk_kept h.t.bt hk (Kd.R_ne h.row h.t.bt (by decide)), hb, h.t.ge⟩, Kd.R_mono (Kd.R_kept h.tight hk (fun _ h_ => h_)) (fun _ _ => trivial), Kd.R_mono hr (fun _ _ => trivial)⟩
end
theorem impl_TreePack.calls (k : Nat) (A0 : Option Addr) (c0 : Nat) (xs : List S45) (r1 : List Int) (r2 : Bool) (w : World) (hr0 : Kd.C k45 w A0 xs.length xs) (hc0 : xs.length ≤ c0) (h : impl_TreePack.f k xs = some (r1, r2)) :
 Calls Try.prog 32 #[.agg #[.slice A0 xs.length c0]] w fun e w' => ∃ v0_ : Value, e = .returned (.tuple #[v0_, .bool r2]) ∧ Kd.R (Kd.int .u8) 5 w' w.heap.size (fun _ => True) v0_ r1 ∧ Below w.heap.size w w' := by
 unfold impl_TreePack.f at h
 obtain ⟨b, A1, h⟩ := Ob h
 have HA1 := Ak A1
 have HA := Ak h
 have HC := Ak hr0
 have HCC := Ak hc0
 clear h hr0 hc0 A1
 go_enter Try.func32, Try.ntmps32
 go_upto_region 1 with (first | ((with_reducible refine gate_dst (N := 1) rfl ?_); refine box_event ?hg (N := 1) ?hd (cs := #[.slice A0 xs.length c0]) (t := 29) ?hr ?_; (case hd => rfl); (case hg => rfl); (case hr => first | (go_simp; done) | (go_simp; rfl)); intro gt hg w1 hbox hb; have HS := Ak (show PiT w w1 gt A0 xs.length c0 from ⟨hbox, hb, by rw [hg]; exact Nat.le_refl _⟩); have HSD := Ak (show PiT w w1.drew gt A0 xs.length c0 from HS.out.below (pw_below_drewN (Below.refl _ _) 1)); clear hbox hb hg))
 have hct := blk_cell HS.out.bt 0
 cases b with
 | false =>
  have H := HA.out
  rw [if_neg (by decide)] at H
  injection H with H
  injection H with e1 e2
  subst e1 e2
  clear HA
  go_cut [18] from 10 to 17 (fun v18 wc => ∃ (Ab : Option Addr) (cb : Nat), v18 = .bool true ∧ Aside0 (PiT w wc gt Ab xs.length cb) ∧ Aside0 (Kd.C k45 w Ab xs.length xs))
  case first =>
   go_region_with (first | (go_at_call 13; (with_reducible refine (impl_TreeOk.calls k A0 c0 xs false _ (Kd.C_below HC.out HSD.out.low) HCC.out HA1.out).mono ?_); rintro e w3 ⟨rfl, hb⟩; have HS3 := Ak (HSD.out.below hb); have HI3 := Ak (show IsS29 w w3 gt xs from ⟨A0, c0, HS3.out.bt, HS3.out.ge, HC.out⟩); have hct3 := blk_cell HS3.out.bt 0; clear hb))
   all_goals (go_wp2; go_meet; exact ⟨_, _, rfl, HS3, HC⟩)
  case rest =>
   obtain ⟨Ab, cb, rfl, HS, HCB⟩ := hcut
   clear hct HSD
   go_wp2
   refine bodyPost_ret (results_list (rs := [.tmp 2, .tmp 3]) rfl (by simp) (.tmp (.tmp .nil))) rfl ?_
   exact ⟨_, rfl, Kd.R_nil _ _ _ _ _, HS.out.low⟩
 | true =>
  have H := HA.out
  rw [if_pos rfl] at H
  obtain ⟨ys, A2, H⟩ := Ob H
  obtain ⟨e, A3, H⟩ := Ob H
  have HA2 := Ak A2
  have HA3 := Ak A3
  have HA4 := Ak H
  clear H HA A2 A3
  cases e with
  | false =>
   have H := HA4.out
   rw [if_neg (by decide)] at H
   injection H with H
   injection H with e1 e2
   subst e1 e2
   clear HA4
   go_cut [18] from 10 to 17 (fun v18 wc => ∃ (Ab : Option Addr) (cb : Nat), v18 = .bool true ∧ Aside0 (PiT w wc gt Ab xs.length cb) ∧ Aside0 (Kd.C k45 w Ab xs.length xs))
   case first =>
    go_region_with (first | (go_at_call 13; (with_reducible refine (impl_TreeOk.calls k A0 c0 xs true _ (Kd.C_below HC.out HSD.out.low) HCC.out HA1.out).mono ?_); rintro e w3 ⟨rfl, hb⟩; have HS3 := Ak (HSD.out.below hb); have HI3 := Ak (show IsS29 w w3 gt xs from ⟨A0, c0, HS3.out.bt, HS3.out.ge, HC.out⟩); have hct3 := blk_cell HS3.out.bt 0; clear hb) | (go_at_call 47; (with_reducible refine (impl_Tree_tidy.calls k gt xs ys w w3 HI3.out HS3.out.low HA2.out).mono ?_); rintro e w4 ⟨vy, rfl, hS, hI, hl, hk⟩; obtain ⟨Ay, cy, rfl⟩ := Kd.S_slice hS; obtain ⟨Ab, cb, hbt, hge, hCb⟩ := hI; have HY := Ak (Kd.R_reads' (Kd.S_R hS)).2; have HS4 := Ak (show PiT w w4 gt Ab xs.length cb from ⟨hbt, hl, hge⟩); have HCB := Ak hCb; have hct4 := blk_cell HS4.out.bt 0; clear hS hl hk hbt hge hCb) | (go_at_call 46; (with_reducible refine (impl_sameTree.calls k A0 c0 xs Ay cy ys false _ (Kd.C_below HC.out HS4.out.low) HY.out.2 HA3.out).mono ?_); rintro e w5 ⟨rfl, hb⟩; have HS5 := Ak (HS4.out.below hb); have hct5 := blk_cell HS5.out.bt 0; clear hb) | (go_at_call 46; (with_reducible refine (impl_sameTree.calls k Ab cb xs Ay cy ys false _ (Kd.C_below HCB.out HS4.out.low) HY.out.2 HA3.out).mono ?_); rintro e w5 ⟨rfl, hb⟩; have HS5 := Ak (HS4.out.below hb); have hct5 := blk_cell HS5.out.bt 0; clear hb))
    all_goals (go_wp2; go_meet; exact ⟨_, _, rfl, HS5, HCB⟩)
   case rest =>
    obtain ⟨Ab, cb, rfl, HS, HCB⟩ := hcut
    clear hct HSD
    go_wp2
    refine bodyPost_ret (results_list (rs := [.tmp 2, .tmp 3]) rfl (by simp) (.tmp (.tmp .nil))) rfl ?_
    exact ⟨_, rfl, Kd.R_nil _ _ _ _ _, HS.out.low⟩
  | true =>
   have H := HA4.out
   rw [if_pos rfl] at H
   obtain ⟨ns, A5, H⟩ := Ob H
   obtain ⟨o0, A6, H⟩ := Ob H
   have HA5 := Ak A5
   have HA6 := Ak A6
   have HA := Ak H
   clear H HA4 A5 A6
   go_cut [18] from 10 to 17 (fun v18 wc => ∃ (Ab : Option Addr) (cb : Nat), v18 = .bool false ∧ Aside0 (PiT w wc gt Ab xs.length cb) ∧ Aside0 (Kd.C k45 w Ab xs.length xs))
   case first =>
    go_region_with (first | (go_at_call 13; (with_reducible refine (impl_TreeOk.calls k A0 c0 xs true _ (Kd.C_below HC.out HSD.out.low) HCC.out HA1.out).mono ?_); rintro e w3 ⟨rfl, hb⟩; have HS3 := Ak (HSD.out.below hb); have HI3 := Ak (show IsS29 w w3 gt xs from ⟨A0, c0, HS3.out.bt, HS3.out.ge, HC.out⟩); have hct3 := blk_cell HS3.out.bt 0; clear hb) | (go_at_call 47; (with_reducible refine (impl_Tree_tidy.calls k gt xs ys w w3 HI3.out HS3.out.low HA2.out).mono ?_); rintro e w4 ⟨vy, rfl, hS, hI, hl, hk⟩; obtain ⟨Ay, cy, rfl⟩ := Kd.S_slice hS; obtain ⟨Ab, cb, hbt, hge, hCb⟩ := hI; have HY := Ak (Kd.R_reads' (Kd.S_R hS)).2; have HS4 := Ak (show PiT w w4 gt Ab xs.length cb from ⟨hbt, hl, hge⟩); have HCB := Ak hCb; have hct4 := blk_cell HS4.out.bt 0; clear hS hl hk hbt hge hCb) | (go_at_call 46; (with_reducible refine (impl_sameTree.calls k A0 c0 xs Ay cy ys true _ (Kd.C_below HC.out HS4.out.low) HY.out.2 HA3.out).mono ?_); rintro e w5 ⟨rfl, hb⟩; have HS5 := Ak (HS4.out.below hb); have hct5 := blk_cell HS5.out.bt 0; clear hb) | (go_at_call 46; (with_reducible refine (impl_sameTree.calls k Ab cb xs Ay cy ys true _ (Kd.C_below HCB.out HS4.out.low) HY.out.2 HA3.out).mono ?_); rintro e w5 ⟨rfl, hb⟩; have HS5 := Ak (HS4.out.below hb); have hct5 := blk_cell HS5.out.bt 0; clear hb))
    all_goals (go_wp2; go_meet; exact ⟨_, _, rfl, HS5, HCB⟩)
   case rest =>
    obtain ⟨Ab, cb, rfl, HS, HCB⟩ := hcut
    clear hct HSD HA1 HA2 HA3
    have hct := blk_cell HS.out.bt 0
    go_wp2_with (first | (go_at_call 75; (with_reducible refine (impl_namesOf.calls k Ab cb xs ns wc (Kd.C_below HCB.out HS.out.low) HA5.out).mono ?_); rintro e w6 ⟨vn, rfl, hr, hb⟩; obtain ⟨An, cn, rfl⟩ := Kd.R_slice hr; have HS6 := Ak (HS.out.below hb); have HN6 := Ak (Kd.R_lower hr HS.out.low.size); clear hr hb) | (go_at_call 76; (with_reducible refine (impl_putNum.calls k (fun _ => False) (.slice none 0 0) [] (ns.length : Int) o0 w w6 HS6.out.low (Kd.R_nil _ _ _ _ _) HA6.out).mono ?_); rintro e w7 ⟨v5, rfl, hr, hb, hk⟩; have HP := Ak (show PiW w w7 gt Ab xs.length cb An cn ns v5 o0 from ⟨⟨blk_kept HS6.out.bt hk (fun h_ => h_), hb, HS6.out.ge⟩, Kd.R_kept HN6.out hk (fun _ _ h_ => h_), Kd.R_mono hr (fun _ _ => trivial)⟩); clear hr hb hk HS6 HN6))
    clear hct HS HA5 HA6
    go_loopg [5, 26] k (fun kq v5 v26 w' => ∃ (o : List Int) (i : Int), v26 = .int .i64 i ∧ Aside0 ((impl_TreePack.l0 kq o ns i).bind (fun o1 => impl_TreePack.rest k ns xs o1) = some (r1, r2)) ∧ Aside0 (kq ≤ k) ∧ Aside0 (PiW w w' gt Ab xs.length cb An cn ns v5 o))
    case atStart => exact ⟨_, _, rfl, HA, ⟨Nat.le_refl _⟩, HP⟩
    case round =>
     clear HA HP
     obtain ⟨o, i, rfl, HA, HK, HP⟩ := hrel
     cases gk with
     | zero => exact absurd HA.out (by simp [impl_TreePack.l0])
     | succ k1 =>
      have H := HA.out
      clear HA
      simp only [impl_TreePack.l0] at H
      by_cases c1 : i < (ns.length : Int)
      ·rw [if_pos c1] at H
       by_cases c2 : 0 ≤ i
       ·rw [if_pos c2, Option.bind_assoc] at H
        obtain ⟨o1, A2, H⟩ := Ob H
        have HA := Ak H
        have HA2 := Ak A2
        clear H A2
        have c1b : decide (i < (ns.length : Int)) = true := decide_eq_true c1
        obtain ⟨ad, e1, hx⟩ := Kd.at_string (Kd.R_reads' HP.out.names).2.2 i c2 c1
        subst e1
        replace c1 := eq_true c1
        replace c2 := eq_true c2
        go_wp2_with (first | (go_at_call 77; (with_reducible refine (impl_putText.calls k1 (fun k_ => some k_ = (u5 : Value).ownBlock) u5 o _ o1 w _ HP.out.t.low (Kd.R_tight rfl HP.out.row) HA2.out).mono ?_); rintro e w8 ⟨v8, rfl, hr, hb, hk⟩; have HP8 := Ak (HP.out.step hr hb hk); clear hr hb hk))
        go_roundg k1
        case measure => have := HK.out; omega
        case rel => exact ⟨_, _, rfl, HA, ⟨by have := HK.out; omega⟩, HP8⟩
       ·rw [if_neg c2] at H; cases H
      ·rw [if_neg c1] at H
       have HA := Ak (show impl_TreePack.rest k ns xs o = some (r1, r2) from H)
       clear H
       have c1b : decide (i < (ns.length : Int)) = false := decide_eq_false c1
       clear c1
       have H := HA.out
       clear HA
       unfold impl_TreePack.rest at H
       obtain ⟨o2, A3, H⟩ := Ob H
       have HA3 := Ak A3
       have HA := Ak H
       clear A3 H
       have hct := blk_cell HP.out.t.bt 0
       go_upto_region 11 with (first | (go_at_call 76; (with_reducible refine (impl_putNum.calls k (fun k_ => some k_ = (u5 : Value).ownBlock) u5 o (xs.length : Int) o2 w _ HP.out.t.low (Kd.R_tight rfl HP.out.row) HA3.out).mono ?_); rintro e w9 ⟨v9, rfl, hr, hb, hk⟩; have HP9 := Ak (HP.out.step hr hb hk); clear hr hb hk))
       clear hct HP HA3
       have hct := blk_cell HP9.out.t.bt 0
       go_wp2
       clear hct
       have HP := HP9
       clear HP9
       go_loopg [5, 42] k (fun kq v5 v42 w' => ∃ (o : List Int) (i : Int), v42 = .int .i64 i ∧ Aside0 ((impl_TreePack.l1 kq o ns xs i).bind impl_TreePack.fin = some (r1, r2)) ∧ Aside0 (kq ≤ k) ∧ Aside0 (PiW w w' gt Ab xs.length cb An cn ns v5 o))
       case atStart => exact ⟨_, _, rfl, HA, ⟨Nat.le_refl _⟩, HP⟩
       case round =>
        clear HA HP c1b
        clear HK
        obtain ⟨o, i, rfl, HA, HK, HP⟩ := hrel
        cases gk with
        | zero => exact absurd HA.out (by simp [impl_TreePack.l1])
        | succ k1 =>
         have H := HA.out
         clear HA
         simp only [impl_TreePack.l1] at H
         by_cases c1 : i < (xs.length : Int)
         ·rw [if_pos c1] at H
          by_cases c2 : 0 ≤ i
          ·rw [if_pos c2, Option.bind_assoc] at H
           obtain ⟨o9, A2, H⟩ := Ob H
           have HA := Ak H
           have HAN := Ak A2
           clear H A2
           have c1b : decide (i < (xs.length : Int)) = true := decide_eq_true c1
           obtain ⟨ad, A_2, c_2, A_5, c_5, e1, hx0, hx1, hx2, hx3, hx4, hx5, hl2, hi2, hl5, hi5⟩ := at_T45 HCB.out i c2 c1
           subst e1
           have HI2 := Ak hi2
           clear hl2 hi2 hl5 hi5
           have hx0 := pw_cell_below HP.out.t.low hx0
           have hx1 := pw_cell_below HP.out.t.low hx1
           have hx2 := pw_cell_below HP.out.t.low hx2
           have hx3 := pw_cell_below HP.out.t.low hx3
           have hx4 := pw_cell_below HP.out.t.low hx4
           have hx5 := pw_cell_below HP.out.t.low hx5
           replace c1 := eq_true c1
           replace c2 := eq_true c2
           generalize hxx : rd_T45 xs i = x at *
           clear hxx
           go_upto_region 14 with (fail)
           have hX := blk_new wr (.cells #[.int .i64 x.f0, .string x.f1, .slice A_2 x.f2.length c_2, .string x.f3, .int .i64 x.f4, .slice A_5 x.f5.length c_5] 45)
           have hl := below_alloc (Below.refl wr.heap.size wr) (.cells #[.int .i64 x.f0, .string x.f1, .slice A_2 x.f2.length c_2, .string x.f3, .int .i64 x.f4, .slice A_5 x.f5.length c_5] 45)
           generalize wr.alloc (.cells #[.int .i64 x.f0, .string x.f1, .slice A_2 x.f2.length c_2, .string x.f3, .int .i64 x.f4, .slice A_5 x.f5.length c_5] 45) = w3 at hX hl ⊢
           have HP3 := Ak (HP.out.below hl)
           have HX := Ak hX
           clear hl hX hx0 hx1 hx2 hx3 hx4 hx5 HP
           generalize wr.heap.size = gn at HX ⊢
           have hn0 := blk_cell HX.out 0
           have hn1 := blk_cell HX.out 1
           have hn2 := blk_cell HX.out 2
           have hn3 := blk_cell HX.out 3
           have hn4 := blk_cell HX.out 4
           have hn5 := blk_cell HX.out 5
           have HPB := Ak (show PbW w w3 An cn ns u5 o from ⟨HP3.out.names, HP3.out.row, HP3.out.t.low⟩)
           go_wp2_with (first | (go_at_call 78; (with_reducible refine (impl_packNode.calls k1 u5 o x A_2 A_5 c_2 c_5 An cn ns o9 w w3 HPB.out HI2.out HAN.out).mono ?_); rintro e w8 ⟨v8, rfl, hr, hb, hk⟩; have HP8 := Ak (HP3.out.step hr hb hk); clear hr hb hk))
           go_roundg k1
           case measure => have := HK.out; omega
           case rel => exact ⟨_, _, rfl, HA, ⟨by have := HK.out; omega⟩, HP8⟩
          ·rw [if_neg c2] at H; cases H
         ·rw [if_neg c1] at H
          have c1b : decide (i < (xs.length : Int)) = false := decide_eq_false c1
          clear c1
          have H := (show impl_TreePack.fin o = some (r1, r2) from H)
          unfold impl_TreePack.fin at H
          by_cases c4 : 20000 < (o.length : Int)
          ·rw [if_pos c4] at H
           injection H with H
           injection H with e1 e2
           subst e1 e2
           have c4b : decide (20000 < (o.length : Int)) = true := decide_eq_true c4
           clear c4
           obtain ⟨Ao, co, rfl⟩ := Kd.R_slice HP.out.row
           go_wp2
           refine bodyPost_ret (results_list (rs := [.tmp 2, .tmp 3]) rfl (by simp) (.tmp (.tmp .nil))) rfl ?_
           exact ⟨_, rfl, Kd.R_nil _ _ _ _ _, HP.out.t.low⟩
          ·rw [if_neg c4] at H
           injection H with H
           injection H with e1 e2
           subst e1 e2
           have c4b : decide (20000 < (o.length : Int)) = false := decide_eq_false c4
           clear c4
           obtain ⟨Ao, co, rfl⟩ := Kd.R_slice HP.out.row
           go_wp2
           refine bodyPost_ret (results_list (rs := [.tmp 2, .tmp 3]) rfl (by simp) (.tmp (.tmp .nil))) rfl ?_
           exact ⟨_, rfl, HP.out.row, HP.out.t.low⟩
def laws_eqByteS.l0 : Nat → List Int → List Int → Int → Option (Bool)
 | 0, _, _, _ => none
 | k + 1, x0, x1, x5 => if x5 < (x0.length : Int) then (if 0 ≤ x5 then (if x5 < (x1.length : Int) then (if (rd x0 x5) = (rd x1 x5) then (laws_eqByteS.l0 k x0 x1 (wrap64 (x5 + 1))) else (some false)) else (none)) else (none)) else (some true)
def laws_eqByteS.f (k : Nat) (l0 : List Int) (l1 : List Int) : Option (Bool) := if (l0.length : Int) = (l1.length : Int) then (laws_eqByteS.l0 k l0 l1 0) else (some false)
theorem laws_eqByteS.mono_l : ∀ k, (∀ y0 y1 y2, LeO (laws_eqByteS.l0 k y0 y1 y2) (laws_eqByteS.l0 (k + 1) y0 y1 y2))
 | 0 => fun _ _ _ r h => by simp [laws_eqByteS.l0] at h
 | k + 1 => by
  have ih0 := laws_eqByteS.mono_l k
  ·intro y0 y1 y2
   unfold laws_eqByteS.l0
   repeat' (with_reducible first | exact ih0 _ _ _ | exact LeO.refl _ | exact LeO.none _ | refine LeO.ite ?_ ?_ | refine LeO.bind ?_ (fun _ => ?_))
theorem laws_eqByteS.mono : ∀ a0 a1 k, LeO (laws_eqByteS.f k a0 a1) (laws_eqByteS.f (k + 1) a0 a1) := by
 intro a0 a1 k
 have ih0 := laws_eqByteS.mono_l k
 unfold laws_eqByteS.f
 repeat' (with_reducible first | exact ih0 _ _ _ | exact LeO.refl _ | exact LeO.none _ | refine LeO.ite ?_ ?_ | refine LeO.bind ?_ (fun _ => ?_))
theorem laws_eqByteS.calls (k : Nat) (A0 : Option Addr) (c0 : Nat) (l0 : List Int) (A1 : Option Addr) (c1 : Nat) (l1 : List Int) (r : Bool) (w : World) (hr0 : Kd.C (Kd.int .u8) w A0 l0.length l0) (hc0 : l0.length ≤ c0) (hr1 : Kd.C (Kd.int .u8) w A1 l1.length l1) (hc1 : l1.length ≤ c1) (h : laws_eqByteS.f k l0 l1 = some r) :
 Calls Try.prog 33 #[.slice A0 l0.length c0, .slice A1 l1.length c1] w fun e w' => e = .returned (.bool r) ∧ Drawn0 w w' := by
 have HR0 := Ak hr0
 have HC0 := Ak hc0
 clear hr0 hc0
 have HR1 := Ak hr1
 have HC1 := Ak hc1
 clear hr1 hc1
 have H : (if (l0.length : Int) = (l1.length : Int) then (laws_eqByteS.l0 k l0 l1 0) else (some false)) = some r := h
 clear h
 by_cases c3 : (l0.length : Int) = (l1.length : Int)
 ·rw [if_pos c3] at H
  have c3b0 := beq_iff_eq.mpr c3
  have c3b1 := bne_eq_false_iff_eq.mpr c3
  have c3b2 : (l0.length == l1.length) = true := by first | simpa using c3 | (simp at c3 ⊢; omega)
  clear c3
  have H' := Ak H
  clear H
  go_enter Try.func33, Try.ntmps33
  go_wp2
  repeat (go_quiet (fail); try go_wp2)
  go_loopg [5] k (fun kq v5 w' => ∃ (x5_1 : Int), v5 = .int .i64 x5_1 ∧ Aside0 (laws_eqByteS.l0 kq l0 l1 x5_1 = some r) ∧ Aside0 (kq ≤ k) ∧ Drawn0 w w')
  case atStart => exact ⟨(0), rfl, H', ⟨Nat.le_refl _⟩, by repeat (first | exact Drawn0.refl _ | apply Drawn0.step)⟩
  case round =>
   clear H'
   obtain ⟨x5_1, rfl, HA, HK1, ⟨m1, rfl⟩⟩ := hrel
   cases gk with
   | zero => exact absurd HA.out (by simp [laws_eqByteS.l0])
   | succ k1 =>
    have H := HA.out
    clear HA
    simp only [laws_eqByteS.l0] at H
    by_cases c4 : x5_1 < (l0.length : Int)
    ·rw [if_pos c4] at H
     have c4b0 := decide_eq_true c4
     clear c4
     by_cases c5 : 0 ≤ x5_1
     ·rw [if_pos c5] at H
      have c5b0 := decide_eq_true c5
      clear c5
      by_cases c6 : x5_1 < (l1.length : Int)
      ·rw [if_pos c6] at H
       have c6b0 := decide_eq_true c6
       clear c6
       by_cases c7 : (rd l0 x5_1) = (rd l1 x5_1)
       ·rw [if_pos c7] at H
        have c7b0 := beq_iff_eq.mpr c7
        have c7b1 := bne_eq_false_iff_eq.mpr c7
        clear c7
        have H' := Ak H
        clear H
        have p101 : 0 ≤ (x5_1 : Int) := of_decide_eq_true (by assumption)
        have q101 : x5_1 < (l0.length : Int) := of_decide_eq_true (by assumption)
        obtain ⟨ad101, e101, hx101_0⟩ := Kd.at_int HR0.out x5_1 p101 q101
        cases e101
        replace p101 := eq_true p101
        replace q101 := eq_true q101
        have p102 : 0 ≤ (x5_1 : Int) := of_decide_eq_true (by assumption)
        have q102 : x5_1 < (l1.length : Int) := of_decide_eq_true (by assumption)
        obtain ⟨ad102, e102, hx102_0⟩ := Kd.at_int HR1.out x5_1 p102 q102
        cases e102
        replace p102 := eq_true p102
        replace q102 := eq_true q102
        go_wp2
        repeat (go_quiet (fail); try go_wp2)
        go_roundg k1
        case measure => have := HK1.out; omega
        case rel => exact ⟨(wrap64 (x5_1 + 1)), rfl, H', ⟨by have := HK1.out; omega⟩, by repeat (first | exact Drawn0.refl _ | apply Drawn0.step)⟩
       ·rw [if_neg c7] at H
        have c7b0 := beq_eq_false_iff_ne.mpr c7
        have c7b1 := bne_iff_ne.mpr c7
        obtain rfl := Oi H
        have p101 : 0 ≤ (x5_1 : Int) := of_decide_eq_true (by assumption)
        have q101 : x5_1 < (l0.length : Int) := of_decide_eq_true (by assumption)
        obtain ⟨ad101, e101, hx101_0⟩ := Kd.at_int HR0.out x5_1 p101 q101
        cases e101
        replace p101 := eq_true p101
        replace q101 := eq_true q101
        have p102 : 0 ≤ (x5_1 : Int) := of_decide_eq_true (by assumption)
        have q102 : x5_1 < (l1.length : Int) := of_decide_eq_true (by assumption)
        obtain ⟨ad102, e102, hx102_0⟩ := Kd.at_int HR1.out x5_1 p102 q102
        cases e102
        replace p102 := eq_true p102
        replace q102 := eq_true q102
        go_wp2
        repeat (go_quiet (fail); try go_wp2)
        go_ret
        exact ⟨rfl, by repeat (first | exact Drawn0.refl _ | apply Drawn0.step)⟩
      ·rw [if_neg c6] at H
       exact absurd H (by simp)
     ·rw [if_neg c5] at H
      exact absurd H (by simp)
    ·rw [if_neg c4] at H
     have c4b0 := decide_eq_false c4
     clear c4
     obtain rfl := Oi H
     go_wp2
     repeat (go_quiet (fail); try go_wp2)
     go_ret
     exact ⟨rfl, by repeat (first | exact Drawn0.refl _ | apply Drawn0.step)⟩
 ·rw [if_neg c3] at H
  have c3b0 := beq_eq_false_iff_ne.mpr c3
  have c3b1 := bne_iff_ne.mpr c3
  have c3b2 : (l0.length == l1.length) = false := by first | simpa using c3 | (simp at c3 ⊢; omega)
  obtain rfl := Oi H
  go_enter Try.func33, Try.ntmps33
  go_wp2
  repeat (go_quiet (fail); try go_wp2)
  go_ret
  exact ⟨rfl, by repeat (first | exact Drawn0.refl _ | apply Drawn0.step)⟩
def laws_markByteS.l0 : Nat → List Int → Int → Int → Option (Int × List Int)
 | 0, _, _, _ => none
 | k + 1, x0, x1, x5 => if x5 < (x0.length : Int) then (if 0 ≤ x5 then (laws_markByteS.l0 k (x0.set (x5 : Int).toNat ((x1) % 256)) (wrap64 (x1 + 1)) (wrap64 (x5 + 1))) else (none)) else (some (x1, x0))
def laws_markByteS.f (k : Nat) (l0 : List Int) (a1 : Int) : Option (Int × List Int) := laws_markByteS.l0 k l0 a1 0
theorem laws_markByteS.mono_l : ∀ k, (∀ y0 y1 y2, LeO (laws_markByteS.l0 k y0 y1 y2) (laws_markByteS.l0 (k + 1) y0 y1 y2))
 | 0 => fun _ _ _ r h => by simp [laws_markByteS.l0] at h
 | k + 1 => by
  have ih0 := laws_markByteS.mono_l k
  ·intro y0 y1 y2
   unfold laws_markByteS.l0
   repeat' (with_reducible first | exact ih0 _ _ _ | exact LeO.refl _ | exact LeO.none _ | refine LeO.ite ?_ ?_ | refine LeO.bind ?_ (fun _ => ?_))
theorem laws_markByteS.mono : ∀ a0 a1 k, LeO (laws_markByteS.f k a0 a1) (laws_markByteS.f (k + 1) a0 a1) := by
 intro a0 a1 k
 have ih0 := laws_markByteS.mono_l k
 unfold laws_markByteS.f
 repeat' (with_reducible first | exact ih0 _ _ _ | exact LeO.refl _ | exact LeO.none _ | refine LeO.ite ?_ ?_ | refine LeO.bind ?_ (fun _ => ?_))
theorem laws_markByteS.calls (k : Nat) (P0_ : Nat → Prop) (u9000_ : Value) (l0 : List Int) (a1 : Int) (r1 : Int) (r2 : List Int) (w0 w : World) (hB : Below w0.heap.size w0 w) (ho0 : Kd.R (Kd.int .u8) 5 w w0.heap.size P0_ u9000_ l0) (h : laws_markByteS.f k l0 a1 = some (r1, r2)) :
 Calls Try.prog 34 #[u9000_, .int .i64 a1] w fun e w' => e = .returned (.int .i64 r1) ∧ Kd.R (Kd.int .u8) 5 w' w0.heap.size (fun k_ => (P0_ k_ ∨ w.heap.size ≤ k_)) u9000_ r2 ∧ Below w0.heap.size w0 w' ∧ Kept w w' (fun k_ => P0_ k_) := by
 have HO0 := Ak (show Kd.R (Kd.int .u8) 5 w w0.heap.size (fun k_ => (P0_ k_ ∨ w.heap.size ≤ k_)) u9000_ l0 from Kd.R_mono ho0 (fun k_ hk => (.inl hk)))
 have HK := Ak (Kept.refl w (fun k_ => P0_ k_))
 have HW0 := Ak hB.size
 have HB := Ak hB
 clear hB
 have H : (laws_markByteS.l0 k l0 a1 0) = some (r1, r2) := h
 clear h
 have H' := Ak H
 clear H
 go_enter Try.func34, Try.ntmps34
 go_wp2
 go_loopg [1, 5] k (fun kq v1 v5 w' => ∃ (x0_1 : List Int) (x1_1 : Int) (x5_1 : Int), v1 = .int .i64 x1_1 ∧ v5 = .int .i64 x5_1 ∧ Aside0 (laws_markByteS.l0 kq x0_1 x1_1 x5_1 = some (r1, r2)) ∧ Aside0 (kq ≤ k) ∧ Aside0 (Kd.R (Kd.int .u8) 5 w' w0.heap.size (fun k_ => (P0_ k_ ∨ w.heap.size ≤ k_)) u9000_ x0_1) ∧ Aside0 (Kept w w' (fun k_ => P0_ k_)) ∧ Aside0 (Below w0.heap.size w0 w'))
 case atStart => exact ⟨(l0), (a1), (0), rfl, rfl, H', ⟨Nat.le_refl _⟩, ⟨by (with_reducible repeat (first | apply Kd.R_alloc | apply Kd.R_drewN | apply Kd.R_drew)); exact HO0.out⟩, ⟨HK.out⟩, ⟨HB.out⟩⟩
 case round =>
  clear H'
  try clear p2
  obtain ⟨x0_1, x1_1, x5_1, rfl, rfl, HA, HK1, HO_0, HK, HB⟩ := hrel
  cases gk with
  | zero => exact absurd HA.out (by simp [laws_markByteS.l0])
  | succ k1 =>
   have H := HA.out
   clear HA
   simp only [laws_markByteS.l0] at H
   by_cases c3 : x5_1 < (x0_1.length : Int)
   ·rw [if_pos c3] at H
    have c3b0 := decide_eq_true c3
    clear c3
    by_cases c4 : 0 ≤ x5_1
    ·rw [if_pos c4] at H
     have c4b0 := decide_eq_true c4
     clear c4
     obtain ⟨y101, hy101⟩ : ∃ y_ : List Int, y_ = (x0_1.set (x5_1 : Int).toNat ((x1_1) % 256)) := ⟨_, rfl⟩
     replace H : (laws_markByteS.l0 k1 y101 (wrap64 (x1_1 + 1)) (wrap64 (x5_1 + 1))) = some (r1, r2) := by rw [hy101]; exact H
     have Ny101 := Ak hy101
     clear hy101
     have H' := Ak H
     clear H
     obtain ⟨Ao6, co6, eo6⟩ := Kd.R_slice HO_0.out
     subst eo6
     have p5 : 0 ≤ (x5_1 : Int) := of_decide_eq_true (by assumption)
     have q5 : (x5_1 : Int) < ((x0_1.length : Int) : Int) := of_decide_eq_true (by assumption)
     obtain ⟨go5, co5, eo5, gb5, gl5, cl5, HG5⟩ := Kd.R_form HO_0.out (by omega)
     (first | cases eo5 | (injection eo5 with ea_ en_ ec_; (first | subst ea_ | (injection ea_ with ea_; subst ea_)); subst ec_; clear en_))
     have GB5 := Ak gb5
     have GG5 := Ak HG5
     clear gb5 gl5 HG5
     have HMgo5 := Ak (show (P0_ go5 ∨ w.heap.size ≤ go5) from (HO_0.out.1 _ rfl))
     obtain ⟨hx5_0, hf5_0⟩ := Kd.R_celln 0 HO_0.out (x5_1 : Int) p5 q5
     replace p5 := eq_true p5
     replace q5 := eq_true q5
     have HP7 := Kd.R_putg HO_0.out (x5_1 : Int) ((x1_1) % 256)
     go_wp2_with (first | ((with_reducible refine gate_store (t := 5) (p := 16) rfl ?_); refine store_event (t := 5) (p := 16) (v := ?vo_w8) (w1 := (wr.setCell ⟨go5, (x5_1 : Int).toNat, none⟩ (.int .u8 ((x1_1) % 256)))) ?hg ?ho ?hn ?hr ?_; (case ho => rfl); (case hg => rfl); (case hn => rfl); (case hr => first | (go_simp; done) | (go_simp; rfl)); intro w8 hw; have hg : wr.grownBy w8 (some go5) := (by rw [hw]; exact HP7.2); have hp_ : Kd.R (Kd.int .u8) 5 w8 w0.heap.size (fun k_ => (P0_ k_ ∨ w.heap.size ≤ k_)) (.slice (some ⟨go5, 0, none⟩) x0_1.length co6) y101 := (by rw [hw, Ny101.out]; exact HP7.1); clear HP7; replace HO_0 := Ak (hp_); replace HK := Ak (Kept.of_grown (S := (fun k_ => P0_ k_)) hg (HK.out) (fun k_ e_ => (HO_0.out.1 k_ e_))); replace HB := Ak ((by rw [hw]; exact below_set (HB.out) GB5.out : Below w0.heap.size w0 w8)); clear hg hw hp_))
     go_roundg k1
     case measure => have := HK1.out; omega
     case rel => exact ⟨(y101), (wrap64 (x1_1 + 1)), (wrap64 (x5_1 + 1)), rfl, rfl, H', ⟨by have := HK1.out; omega⟩, ⟨by (with_reducible repeat (first | apply Kd.R_alloc | apply Kd.R_drewN | apply Kd.R_drew)); exact HO_0.out⟩, ⟨HK.out⟩, ⟨HB.out⟩⟩
    ·rw [if_neg c4] at H
     exact absurd H (by simp)
   ·rw [if_neg c3] at H
    have c3b0 := decide_eq_false c3
    clear c3
    simp only [Option.some.injEq, Prod.mk.injEq] at H
    obtain ⟨rfl, rfl⟩ := H
    obtain ⟨Ao9, co9, eo9⟩ := Kd.R_slice HO_0.out
    subst eo9
    go_wp2
    go_ret
    exact ⟨rfl, by (with_reducible repeat (first | apply Kd.R_alloc | apply Kd.R_drewN | apply Kd.R_drew)); exact HO_0.out, HB.out, HK.out⟩
def laws_heldByteS.l0 : Nat → List Int → Int → Int → Option (Int)
 | 0, _, _, _ => none
 | k + 1, x0, x1, x5 => if x5 < (x0.length : Int) then (if 0 ≤ x5 then (if (rd x0 x5) = ((x1) % 256) then (laws_heldByteS.l0 k x0 (wrap64 (x1 + 1)) (wrap64 (x5 + 1))) else (some (-1))) else (none)) else (some x1)
def laws_heldByteS.f (k : Nat) (l0 : List Int) (a1 : Int) : Option (Int) := laws_heldByteS.l0 k l0 a1 0
theorem laws_heldByteS.mono_l : ∀ k, (∀ y0 y1 y2, LeO (laws_heldByteS.l0 k y0 y1 y2) (laws_heldByteS.l0 (k + 1) y0 y1 y2))
 | 0 => fun _ _ _ r h => by simp [laws_heldByteS.l0] at h
 | k + 1 => by
  have ih0 := laws_heldByteS.mono_l k
  ·intro y0 y1 y2
   unfold laws_heldByteS.l0
   repeat' (with_reducible first | exact ih0 _ _ _ | exact LeO.refl _ | exact LeO.none _ | refine LeO.ite ?_ ?_ | refine LeO.bind ?_ (fun _ => ?_))
theorem laws_heldByteS.mono : ∀ a0 a1 k, LeO (laws_heldByteS.f k a0 a1) (laws_heldByteS.f (k + 1) a0 a1) := by
 intro a0 a1 k
 have ih0 := laws_heldByteS.mono_l k
 unfold laws_heldByteS.f
 repeat' (with_reducible first | exact ih0 _ _ _ | exact LeO.refl _ | exact LeO.none _ | refine LeO.ite ?_ ?_ | refine LeO.bind ?_ (fun _ => ?_))
theorem laws_heldByteS.calls (k : Nat) (A0 : Option Addr) (c0 : Nat) (l0 : List Int) (a1 : Int) (r : Int) (w : World) (hr0 : Kd.C (Kd.int .u8) w A0 l0.length l0) (hc0 : l0.length ≤ c0) (h : laws_heldByteS.f k l0 a1 = some r) :
 Calls Try.prog 35 #[.slice A0 l0.length c0, .int .i64 a1] w fun e w' => e = .returned (.int .i64 r) ∧ Drawn0 w w' := by
 have HR0 := Ak hr0
 have HC0 := Ak hc0
 clear hr0 hc0
 have H : (laws_heldByteS.l0 k l0 a1 0) = some r := h
 clear h
 have H' := Ak H
 clear H
 go_enter Try.func35, Try.ntmps35
 go_wp2
 go_loopg [1, 5] k (fun kq v1 v5 w' => ∃ (x1_1 : Int) (x5_1 : Int), v1 = .int .i64 x1_1 ∧ v5 = .int .i64 x5_1 ∧ Aside0 (laws_heldByteS.l0 kq l0 x1_1 x5_1 = some r) ∧ Aside0 (kq ≤ k) ∧ Drawn0 w w')
 case atStart => exact ⟨(a1), (0), rfl, rfl, H', ⟨Nat.le_refl _⟩, by repeat (first | exact Drawn0.refl _ | apply Drawn0.step)⟩
 case round =>
  clear H'
  try clear p2
  obtain ⟨x1_1, x5_1, rfl, rfl, HA, HK1, ⟨m1, rfl⟩⟩ := hrel
  cases gk with
  | zero => exact absurd HA.out (by simp [laws_heldByteS.l0])
  | succ k1 =>
   have H := HA.out
   clear HA
   simp only [laws_heldByteS.l0] at H
   by_cases c3 : x5_1 < (l0.length : Int)
   ·rw [if_pos c3] at H
    have c3b0 := decide_eq_true c3
    clear c3
    by_cases c4 : 0 ≤ x5_1
    ·rw [if_pos c4] at H
     have c4b0 := decide_eq_true c4
     clear c4
     by_cases c5 : (rd l0 x5_1) = ((x1_1) % 256)
     ·rw [if_pos c5] at H
      have c5b0 := beq_iff_eq.mpr c5
      have c5b1 := bne_eq_false_iff_eq.mpr c5
      clear c5
      have H' := Ak H
      clear H
      have p101 : 0 ≤ (x5_1 : Int) := of_decide_eq_true (by assumption)
      have q101 : x5_1 < (l0.length : Int) := of_decide_eq_true (by assumption)
      obtain ⟨ad101, e101, hx101_0⟩ := Kd.at_int HR0.out x5_1 p101 q101
      cases e101
      replace p101 := eq_true p101
      replace q101 := eq_true q101
      go_wp2
      go_roundg k1
      case measure => have := HK1.out; omega
      case rel => exact ⟨(wrap64 (x1_1 + 1)), (wrap64 (x5_1 + 1)), rfl, rfl, H', ⟨by have := HK1.out; omega⟩, by repeat (first | exact Drawn0.refl _ | apply Drawn0.step)⟩
     ·rw [if_neg c5] at H
      have c5b0 := beq_eq_false_iff_ne.mpr c5
      have c5b1 := bne_iff_ne.mpr c5
      obtain rfl := Oi H
      have p101 : 0 ≤ (x5_1 : Int) := of_decide_eq_true (by assumption)
      have q101 : x5_1 < (l0.length : Int) := of_decide_eq_true (by assumption)
      obtain ⟨ad101, e101, hx101_0⟩ := Kd.at_int HR0.out x5_1 p101 q101
      cases e101
      replace p101 := eq_true p101
      replace q101 := eq_true q101
      go_wp2
      go_ret
      exact ⟨rfl, by repeat (first | exact Drawn0.refl _ | apply Drawn0.step)⟩
    ·rw [if_neg c4] at H
     exact absurd H (by simp)
   ·rw [if_neg c3] at H
    have c3b0 := decide_eq_false c3
    clear c3
    obtain rfl := Oi H
    go_wp2
    go_ret
    exact ⟨rfl, by repeat (first | exact Drawn0.refl _ | apply Drawn0.step)⟩
def laws_FnExactTreePack.f (k : Nat) (l : List S39) : Option Bool := (laws_szTree.f k l 1048576).bind fun t1 => if t1 < 0 then some true else (laws_toTree.f k l).bind fun ta => (spec_TreePack.f k ta).bind fun x0 => (impl_TreePack.f k ta).bind fun g0 => (laws_eqByteS.f k g0.1 x0.1).bind fun e0 => (laws_eqTree.f k ta ta).bind fun e1 => (laws_markTree.f k ta 1).bind fun b1 => (laws_markByteS.f k g0.1 1).bind fun b2 => (laws_heldByteS.f k b2.2 1).bind fun q => if e0 = true ∧ g0.2 = x0.2 ∧ e1 = true ∧ 0 ≤ b1.1 ∧ 0 ≤ q ∧ q = b2.1 then some true else none
theorem laws_FnExactTreePack.mono : ∀ a0 k, LeO (laws_FnExactTreePack.f k a0) (laws_FnExactTreePack.f (k + 1) a0) := fun a0 k => LeO.bind (laws_szTree.mono _ _ k) (fun _ => LeO.ite (LeO.refl _) (LeO.bind (laws_toTree.mono _ k) (fun _ => LeO.bind (spec_TreePack.mono _ k) (fun _ => LeO.bind (impl_TreePack.mono _ k) (fun _ => LeO.bind (laws_eqByteS.mono _ _ k) (fun _ => LeO.bind (laws_eqTree.mono _ _ k) (fun _ => LeO.bind (laws_markTree.mono _ _ k) (fun _ => LeO.bind (laws_markByteS.mono _ _ k) (fun _ => LeO.bind (laws_heldByteS.mono _ _ k) (fun _ => LeO.refl _))))))))))
theorem drawn_below {w w' : World} (h : Drawn0 w w') : Below w.heap.size w w' := by
 obtain ⟨n, rfl⟩ := h
 exact pw_below_drewN (Below.refl _ _) n
structure TpA (w wx W : World) (ga g5 m7 : Nat) (A0 : Option Addr) (n0 c0 : Nat) (A4 : Option Addr) (c4 : Nat) (x0 : List Int) (A5 : Option Addr) (c5 : Nat) (ta : List S45) (A7 : Option Addr) (c7 : Nat) (y0 : List Int) : Prop where
 a : W.heap[ga]? = some (.cells #[.slice A0 n0 c0] 24 (0, 0))
 b5 : W.heap[g5]? = some (.cells #[.slice A5 ta.length c5] 29 (0, 0))
 r4 : Kd.C (Kd.int .u8) wx A4 x0.length x0
 l4 : x0.length ≤ c4
 s5 : Kd.S k45 45 W wx.heap.size (fun k => wx.heap.size ≤ k ∧ k < g5) (.slice A5 ta.length c5) ta
 s7 : Kd.R (Kd.int .u8) 5 W wx.heap.size (fun k => m7 ≤ k) (.slice A7 y0.length c7) y0
 lx : Below wx.heap.size wx W
 low : Below w.heap.size w wx
 oa : ga < wx.heap.size
 o5 : g5 ≤ m7
 o8 : wx.heap.size ≤ g5
structure TpB (w wx W : World) (ga : Nat) (P : Nat → Prop) (A0 : Option Addr) (n0 c0 : Nat) (A4 : Option Addr) (c4 : Nat) (x0 : List Int) (A7 : Option Addr) (n7 c7 : Nat) (y0 : List Int) : Prop where
 a : W.heap[ga]? = some (.cells #[.slice A0 n0 c0] 24 (0, 0))
 r4 : Kd.C (Kd.int .u8) wx A4 x0.length x0
 l4 : x0.length ≤ c4
 s7 : Kd.R (Kd.int .u8) 5 W wx.heap.size P (.slice A7 n7 c7) y0
 lx : Below wx.heap.size wx W
 low : Below w.heap.size w wx
 oa : ga < wx.heap.size
 o7 : ∀ k, P k → wx.heap.size ≤ k
section
variable {w wx W W2 : World} {ga g5 m7 n0 c0 c4 c5 c7 n7 : Nat} {A0 A4 A5 A7 : Option Addr} {x0 y0 z0 : List Int} {ta : List S45} {P : Nat → Prop}
theorem TpA.below (h : TpA w wx W ga g5 m7 A0 n0 c0 A4 c4 x0 A5 c5 ta A7 c7 y0) (hb : Below W.heap.size W W2) : TpA w wx W2 ga g5 m7 A0 n0 c0 A4 c4 x0 A5 c5 ta A7 c7 y0 :=
 ⟨blk_below h.a hb, blk_below h.b5 hb, h.r4, h.l4, Kd.S_below h.s5 hb, Kd.R_below h.s7 hb, below_step h.lx hb, h.low, h.oa, h.o5, h.o8⟩
theorem TpA.drew (h : TpA w wx W ga g5 m7 A0 n0 c0 A4 c4 x0 A5 c5 ta A7 c7 y0) : TpA w wx W.drew ga g5 m7 A0 n0 c0 A4 c4 x0 A5 c5 ta A7 c7 y0 := h.below (pw_below_drewN (Below.refl _ _) 1)
theorem TpA.row7 (h : TpA w wx W ga g5 m7 A0 n0 c0 A4 c4 x0 A5 c5 ta A7 c7 y0) : y0.length ≤ c7 ∧ Kd.C (Kd.int .u8) W A7 y0.length y0 := (Kd.R_reads' h.s7).2
theorem TpA.row5 (h : TpA w wx W ga g5 m7 A0 n0 c0 A4 c4 x0 A5 c5 ta A7 c7 y0) : ta.length ≤ c5 ∧ Kd.C k45 W A5 ta.length ta := (Kd.R_reads' (Kd.S_R h.s5)).2
theorem TpA.mark5 (h : TpA w wx W ga g5 m7 A0 n0 c0 A4 c4 x0 A5 c5 ta A7 c7 y0) (hl : Below wx.heap.size wx W2) (hk : Kept W W2 (fun k => wx.heap.size ≤ k ∧ k < g5)) : TpB w wx W2 ga (fun k => m7 ≤ k) A0 n0 c0 A4 c4 x0 A7 y0.length c7 y0 :=
 ⟨blk_kept h.a hk (fun h_ => by have := h.oa; omega), h.r4, h.l4, Kd.R_kept h.s7 hk (fun k h1 h2 => by have := h.o5; omega), hl, h.low, h.oa, fun k hk_ => by have := h.o5; have := h.o8; omega⟩
theorem TpB.below (h : TpB w wx W ga P A0 n0 c0 A4 c4 x0 A7 n7 c7 y0) (hb : Below W.heap.size W W2) : TpB w wx W2 ga P A0 n0 c0 A4 c4 x0 A7 n7 c7 y0 :=
 ⟨blk_below h.a hb, h.r4, h.l4, Kd.R_below h.s7 hb, below_step h.lx hb, h.low, h.oa, h.o7⟩
theorem TpB.row7 (h : TpB w wx W ga P A0 n0 c0 A4 c4 x0 A7 n7 c7 y0) : n7 ≤ c7 ∧ Kd.C (Kd.int .u8) W A7 y0.length y0 ∧ n7 = y0.length := ⟨(Kd.R_reads' h.s7).2.1, (Kd.R_reads' h.s7).2.2, (Kd.R_reads' h.s7).1⟩
theorem TpB.mark7 (h : TpB w wx W ga P A0 n0 c0 A4 c4 x0 A7 n7 c7 y0) (hS : Kd.R (Kd.int .u8) 5 W2 wx.heap.size (fun k => P k ∨ W.heap.size ≤ k) (.slice A7 n7 c7) z0) (hl : Below wx.heap.size wx W2) (hk : Kept W W2 P) : TpB w wx W2 ga (fun k => P k ∨ W.heap.size ≤ k) A0 n0 c0 A4 c4 x0 A7 n7 c7 z0 :=
 ⟨blk_kept h.a hk (fun h_ => by have := h.o7 _ h_; have := h.oa; omega), h.r4, h.l4, hS, hl, h.low, h.oa, fun k h_ => h_.elim (h.o7 k) (fun h2 => Nat.le_trans h.lx.size h2)⟩
end
theorem laws_FnExactTreePack.calls (k : Nat) (A0_0 : Option Addr) (c0_0 : Nat) (l0_0 : List S39) (r : Bool) (w : World) (hr0_0 : Kd.C k39 w A0_0 l0_0.length l0_0) (hc0_0 : l0_0.length ≤ c0_0) (h : laws_FnExactTreePack.f k l0_0 = some r) :
 Calls Try.prog 9 #[.agg #[.slice A0_0 l0_0.length c0_0]] w fun e w' => e = .returned (.bool r) ∧ Below w.heap.size w w' := by
 unfold laws_FnExactTreePack.f at h
 obtain ⟨t1, E1, h⟩ := Ob h
 replace E1 := Ak E1
 have HA := Ak h
 have HC := Ak hr0_0
 have HCC := Ak hc0_0
 clear h hr0_0 hc0_0
 go_enter Try.func9, Try.ntmps9
 go_upto_region 1 with (first | ((with_reducible refine gate_dst (N := 1) rfl ?_); refine box_event ?hg (N := 1) ?hd (cs := #[.slice A0_0 l0_0.length c0_0]) (t := 24) ?hr ?_; (case hd => rfl); (case hg => rfl); (case hr => first | (go_simp; done) | (go_simp; rfl)); intro ga hg w1 hbox hb; have HG := Ak hbox; have HL := Ak hb; clear hbox hb hg))
 have hca := blk_cell HG.out 0
 have H := HA.out
 by_cases c1 : t1 < 0
 ·rw [if_pos c1] at H
  obtain rfl := Oi H
  clear H HA
  have c1b : decide (t1 < 0) = true := decide_eq_true c1
  go_wp2_with (first | (go_at_call 10; (with_reducible refine (laws_szTree.calls k A0_0 c0_0 l0_0 1048576 t1 w1 (Kd.C_below HC.out HL.out) HCC.out E1.out).mono ?_); rintro e w2 ⟨rfl, hb⟩; have HG2 := Ak (blk_below HG.out hb); have HL2 := Ak (below_step HL.out hb); have hca2 := blk_cell HG2.out 0; clear hb))
  go_ret
  exact ⟨rfl, HL2.out⟩
 ·rw [if_neg c1] at H
  have c1b : decide (t1 < 0) = false := decide_eq_false c1
  clear c1 HA
  obtain ⟨ta, E2, H⟩ := Ob H
  obtain ⟨⟨x0, bx⟩, E3, H⟩ := Ob H
  obtain ⟨⟨y0, bz⟩, E4, H⟩ := Ob H
  obtain ⟨e0, E5, H⟩ := Ob H
  obtain ⟨e1, E6, H⟩ := Ob H
  obtain ⟨⟨m5, z5⟩, E7, H⟩ := Ob H
  obtain ⟨⟨m6, z6⟩, E8, H⟩ := Ob H
  obtain ⟨q, E9, H⟩ := Ob H
  by_cases c2 : e0 = true ∧ bz = bx ∧ e1 = true ∧ 0 ≤ m5 ∧ 0 ≤ q ∧ q = m6
  ·rw [if_pos c2] at H
   obtain rfl := Oi H
   obtain ⟨rfl, rfl, rfl, g5, g6, rfl⟩ := c2
   replace E2 := Ak E2
   replace E3 := Ak E3
   replace E4 := Ak E4
   replace E5 := Ak E5
   replace E6 := Ak E6
   replace E7 := Ak E7
   replace E8 := Ak E8
   replace E9 := Ak E9
   have g5b : decide (m5 < 0) = false := decide_eq_false (by omega)
   have g6b : decide (q < 0) = false := decide_eq_false (by omega)
   have g7b : (q != q) = false := by simp
   have g8b : (bz != bz) = false := by simp
   clear H g5 g6
   go_upto_region 6 with (first | (go_at_call 10; (with_reducible refine (laws_szTree.calls k A0_0 c0_0 l0_0 1048576 t1 w1 (Kd.C_below HC.out HL.out) HCC.out E1.out).mono ?_); rintro e w2 ⟨rfl, hb⟩; have HG2 := Ak (blk_below HG.out hb); have HL2 := Ak (below_step HL.out hb); have hca2 := blk_cell HG2.out 0; clear hb) | (go_at_call 12; (with_reducible refine (laws_toTree.calls k A0_0 c0_0 l0_0 ta w2 (Kd.C_below HC.out HL2.out) HCC.out E2.out).mono ?_); rintro e w3 ⟨v, rfl, hS, hb⟩; obtain ⟨Ap, cp, rfl⟩ := Kd.S_slice hS; have HG3 := Ak (blk_below HG2.out hb); have HL3 := Ak (below_step HL2.out hb); have HP3 := Ak (Kd.R_reads' (Kd.S_R hS)).2; have hca3 := blk_cell HG3.out 0; clear hS hb) | (go_at_call 31; (with_reducible refine (spec_TreePack.calls k Ap cp ta x0 bz w3 HP3.out.2 HP3.out.1 E3.out).mono ?_); rintro e wx ⟨v, rfl, hR, hb⟩; obtain ⟨A4, c4, rfl⟩ := Kd.R_slice hR; have HGX := Ak (blk_below HG3.out hb); have HLX := Ak (below_step HL3.out hb); have HW4 := Ak (Kd.R_reads' hR).2; clear hR hb))
   clear hca hca2 hca3 c1b HG HG2 HG3 HL HL2 HL3 HP3
   have hcaX := blk_cell HGX.out 0
   go_upto_region 7 with (first | (go_at_call 12; (with_reducible refine (laws_toTree.calls k A0_0 c0_0 l0_0 ta wx (Kd.C_below HC.out HLX.out) HCC.out E2.out).mono ?_); rintro e w5 ⟨v, rfl, hS, hb⟩; obtain ⟨A5, c5, rfl⟩ := Kd.S_slice hS; have HG5 := Ak (blk_below HGX.out hb); have HL5 := Ak hb; have HS5 := Ak (Kd.S_mono (Kd.S_bound hS) (ok' := fun k_ => wx.heap.size ≤ k_ ∧ k_ < w5.heap.size) (fun k_ hk => ⟨hk.2.1, hk.2.2.1⟩)); clear hS hb))
   clear hcaX
   have hX := blk_new w5 (.cells #[.slice A5 ta.length c5] 29)
   have hl := below_alloc (Below.refl w5.heap.size w5) (.cells #[.slice A5 ta.length c5] 29)
   generalize w5.alloc (.cells #[.slice A5 ta.length c5] 29) = w6 at hX hl ⊢
   have HG6 := Ak (blk_below HG5.out hl)
   have HS56 := Ak (Kd.S_below HS5.out hl)
   have HL6 := Ak (below_step HL5.out hl)
   have HB56 := Ak hX
   have HN5 := Ak (show w5.heap.size ≤ w6.heap.size from hl.size)
   have HO8 := Ak (show wx.heap.size ≤ w5.heap.size from HL5.out.size)
   have HOA := Ak (blk_lt HGX.out)
   clear hX hl
   generalize HE5 : w5.heap.size = g5 at HB56 HS56 HN5 HO8 ⊢
   clear HE5
   have hc5 := blk_cell HB56.out 0
   go_upto_region 8 with (first | (go_at_call 32; (with_reducible refine (impl_TreePack.calls k A5 c5 ta y0 bz w6 (Kd.R_reads' (Kd.S_R HS56.out)).2.2 (Kd.R_reads' (Kd.S_R HS56.out)).2.1 E4.out).mono ?_); rintro e w7 ⟨v, rfl, hR, hb⟩; obtain ⟨A7, c7, rfl⟩ := Kd.R_slice hR; have HT := Ak (show TpA w wx w7 ga g5 w6.heap.size A0_0 l0_0.length c0_0 A4 c4 x0 A5 c5 ta A7 c7 y0 from ⟨blk_below HG6.out hb, blk_below HB56.out hb, HW4.out.2, HW4.out.1, Kd.S_below HS56.out hb, Kd.R_lower (Kd.R_mono (Kd.R_bound hR) (fun k_ hk => hk.2.1)) HL6.out.size, below_step HL6.out hb, HLX.out, HOA.out, HN5.out, HO8.out⟩); clear hR hb))
   clear hc5 HG5 HG6 HGX HB56 HS5 HS56 HL5 HL6 HN5 HO8 HOA HW4 HLX
   go_upto_region 10 with (first | (go_at_call 33; (with_reducible refine (laws_eqByteS.calls k A7 c7 y0 A4 c4 x0 true w7 HT.out.row7.2 HT.out.row7.1 (Kd.C_below HT.out.r4 HT.out.lx) HT.out.l4 E5.out).mono ?_); rintro e w9 ⟨rfl, hd⟩; have HT9 := Ak (HT.out.below (drawn_below hd)); clear hd))
   have HTD := Ak HT9.out.drew
   have hc5 := blk_cell HT9.out.b5 0
   have hca := blk_cell HT9.out.a 0
   clear HT
   go_region_held3 (fun w' => w'.cell? ⟨g5, 0, none⟩ = some (.slice A5 ta.length c5) ∧ w'.cell? ⟨ga, 0, none⟩ = some (.slice A0_0 l0_0.length c0_0)) (first | exact ⟨hc5, hca⟩ | exact ⟨hc5A, hcaA⟩ | exact ⟨hc5B, hcaB⟩) (first | (go_at_call 12; (with_reducible refine (laws_toTree.calls k A0_0 c0_0 l0_0 ta _ (Kd.C_below HC.out (below_step HTD.out.low HTD.out.lx)) HCC.out E2.out).mono ?_); rintro e wA ⟨v, rfl, hS, hb⟩; obtain ⟨Ap, cp, rfl⟩ := Kd.S_slice hS; have HTA := Ak (HTD.out.below hb); have HPA := Ak (Kd.R_reads' (Kd.S_R hS)).2; have hc5A := blk_cell HTA.out.b5 0; have hcaA := blk_cell HTA.out.a 0; clear hS hb) | (go_at_call 14; (with_reducible refine (laws_eqTree.calls k A5 c5 ta Ap cp ta true _ HTA.out.row5.2 HTA.out.row5.1 HPA.out.2 HPA.out.1 E6.out).mono ?_); rintro e wB ⟨rfl, hb⟩; have HTB := Ak (HTA.out.below hb); have hc5B := blk_cell HTB.out.b5 0; have hcaB := blk_cell HTB.out.a 0; clear hb))
   clear hc5 hca hc5A hcaA hcaB
   have hc5 := hc5B
   clear hc5B
   go_upto_region 14 with (first | (go_at_call 19; (with_reducible refine (laws_markTree.calls k (fun k_ => wx.heap.size ≤ k_ ∧ k_ < g5) _ ta 1 m5 z5 wx wB HTB.out.lx HTB.out.s5 E7.out).mono ?_); rintro e wC ⟨rfl, _, hl, hk⟩; have HU := Ak (HTB.out.mark5 hl hk); clear hl hk))
   clear hc5
   go_upto_region 16 with (first | (go_at_call 33; (with_reducible refine (laws_eqByteS.calls k A7 c7 y0 A4 c4 x0 true wC HU.out.row7.2.1 HU.out.row7.1 (Kd.C_below HU.out.r4 HU.out.lx) HU.out.l4 E5.out).mono ?_); rintro e wE ⟨rfl, hd⟩; have HU2 := Ak (HU.out.below (drawn_below hd)); clear hd))
   go_upto_region 18 with (first | (go_at_call 34; (with_reducible refine (laws_markByteS.calls k _ _ y0 1 q z6 wx wE HU2.out.lx HU2.out.s7 E8.out).mono ?_); rintro e wF ⟨rfl, hS, hl, hk⟩; have HV := Ak (HU2.out.mark7 hS hl hk); clear hS hl hk))
   have HVC := Ak HV.out.row7
   go_upto_region 24 with (first | (go_at_call 35; rw [HVC.out.2.2]; (with_reducible refine (laws_heldByteS.calls k A7 c7 z6 1 q wF HVC.out.2.1 (HVC.out.2.2 ▸ HVC.out.1) E9.out).mono ?_); rintro e wG ⟨rfl, hd⟩; have HV2 := Ak (HV.out.below (drawn_below hd)); clear hd))
   have hca := blk_cell HV2.out.a 0
   go_upto_region 25 with (first | (go_at_call 12; (with_reducible refine (laws_toTree.calls k A0_0 c0_0 l0_0 ta wG (Kd.C_below HC.out (below_step HV2.out.low HV2.out.lx)) HCC.out E2.out).mono ?_); rintro e wI ⟨v, rfl, hS, hb⟩; obtain ⟨Ap3, cp3, rfl⟩ := Kd.S_slice hS; have HV3 := Ak (HV2.out.below hb); have HP3b := Ak (Kd.R_reads' (Kd.S_R hS)).2; clear hS hb) | (go_at_call 32; (with_reducible refine (impl_TreePack.calls k Ap3 cp3 ta y0 bz wI HP3b.out.2 HP3b.out.1 E4.out).mono ?_); rintro e wK ⟨v, rfl, hR, hb⟩; obtain ⟨Ah, ch, rfl⟩ := Kd.R_slice hR; have HV5 := Ak (HV3.out.below hb); have HRH := Ak (Kd.R_reads' hR); clear hR hb))
   clear hca
   go_upto_region 28 with (first | (go_at_call 33; (with_reducible refine (laws_eqByteS.calls k Ah ch y0 A4 c4 x0 true wK HRH.out.2.2 HRH.out.2.1 (Kd.C_below HV5.out.r4 HV5.out.lx) HV5.out.l4 E5.out).mono ?_); rintro e wM ⟨rfl, hd⟩; have HV6 := Ak (HV5.out.below (drawn_below hd)); clear hd))
   have HVD := Ak HV6.out.row7
   go_wp2_with (first | (go_at_call 35; (try rw [HVD.out.2.2]); (with_reducible refine (laws_heldByteS.calls k A7 c7 z6 1 q wM HVD.out.2.1 (HVD.out.2.2 ▸ HVD.out.1) E9.out).mono ?_); rintro e wO ⟨rfl, hd⟩; have HV7 := Ak (HV6.out.below (drawn_below hd)); clear hd))
   go_ret
   exact ⟨rfl, below_step HV7.out.low HV7.out.lx⟩
  ·rw [if_neg c2] at H; cases H
def laws_heldAttrS.l0 : Nat → List S98 → Int → Int → Option Int
 | 0, _, _, _ => none
 | k + 1, xs, m, i => if i < (xs.length : Int) then (if 0 ≤ i then ((laws_markText.f k m).bind fun t1 => if (rd_T98 xs i).f0.toList = t1.toList then ((laws_markText.f k (wrap64 (m + 1))).bind fun t2 => if (rd_T98 xs i).f1.toList = t2.toList then laws_heldAttrS.l0 k xs (wrap64 (wrap64 (m + 1) + 1)) (wrap64 (i + 1)) else none) else none) else none) else some m
def laws_heldAttrS.f (k : Nat) (l0 : List S98) (a1 : Int) : Option Int := laws_heldAttrS.l0 k l0 a1 0
theorem laws_heldAttrS.mono_l : ∀ k, (∀ y0 y1 y2, LeO (laws_heldAttrS.l0 k y0 y1 y2) (laws_heldAttrS.l0 (k + 1) y0 y1 y2))
 | 0 => fun _ _ _ r h => by simp [laws_heldAttrS.l0] at h
 | k + 1 => by
  have ih := laws_heldAttrS.mono_l k
  intro y0 y1 y2
  rw [laws_heldAttrS.l0, laws_heldAttrS.l0]
  exact LeO.ite (LeO.ite (LeO.bind (laws_markText.mono _ k) (fun _ => LeO.ite (LeO.bind (laws_markText.mono _ k) (fun _ => LeO.ite (ih _ _ _) (LeO.refl _))) (LeO.refl _))) (LeO.refl _)) (LeO.refl _)
theorem laws_heldAttrS.mono : ∀ a0 a1 k, LeO (laws_heldAttrS.f k a0 a1) (laws_heldAttrS.f (k + 1) a0 a1) := fun _ _ k => laws_heldAttrS.mono_l k _ _ _
theorem laws_heldAttrS.calls (k : Nat) (A0 : Option Addr) (c0 : Nat) (xs : List S98) (a1 : Int) (r : Int) (w : World) (hr0 : Kd.C k98 w A0 xs.length xs) (hc0 : xs.length ≤ c0) (h : laws_heldAttrS.f k xs a1 = some r) :
 Calls Try.prog 93 #[.slice A0 xs.length c0, .int .i64 a1] w fun e w' => e = .returned (.int .i64 r) ∧ Below w.heap.size w w' := by
 have HA := Ak h
 have HC := Ak hr0
 clear h hr0 hc0
 go_enter Try.func93, Try.ntmps93
 go_wp2
 go_loopg [1, 5] k (fun kq v1 v5 w' => ∃ (m i : Int), v1 = .int .i64 m ∧ v5 = .int .i64 i ∧ Aside0 (laws_heldAttrS.l0 kq xs m i = some r) ∧ Aside0 (kq ≤ k) ∧ Aside0 (Below w.heap.size w w'))
 case atStart => exact ⟨a1, 0, rfl, rfl, HA, ⟨Nat.le_refl _⟩, ⟨Below.refl _ _⟩⟩
 case round =>
  clear HA
  obtain ⟨m, i, rfl, rfl, HA, HK, HB⟩ := hrel
  cases gk with
  | zero => exact absurd HA.out (by simp [laws_heldAttrS.l0])
  | succ k1 =>
   have H := HA.out
   clear HA
   simp only [laws_heldAttrS.l0] at H
   by_cases g1 : i < (xs.length : Int)
   ·rw [if_pos g1] at H
    by_cases g2 : 0 ≤ i
    ·rw [if_pos g2] at H
     obtain ⟨t1, A1, H⟩ := Ob H
     by_cases g3 : (rd_T98 xs i).f0.toList = t1.toList
     ·rw [if_pos g3] at H
      obtain ⟨t2, A2, H⟩ := Ob H
      by_cases g4 : (rd_T98 xs i).f1.toList = t2.toList
      ·rw [if_pos g4] at H
       have HA := Ak H
       replace A1 := Ak A1
       replace A2 := Ak A2
       clear H
       have p3 : ((rd_T98 xs i).f0.toList != t1.toList) = false := bne_eq_false_iff_eq.mpr g3
       have q3 : ((rd_T98 xs i).f0.toList == t1.toList) = true := beq_iff_eq.mpr g3
       have p4 : ((rd_T98 xs i).f1.toList != t2.toList) = false := bne_eq_false_iff_eq.mpr g4
       have q4 : ((rd_T98 xs i).f1.toList == t2.toList) = true := beq_iff_eq.mpr g4
       clear g3 g4
       have g1b : decide (i < (xs.length : Int)) = true := decide_eq_true g1
       obtain ⟨ad, e1, hx0, hx1⟩ := at_T98 HC.out i g2 g1
       subst e1
       have HX0 := Ak hx0
       have HX1 := Ak hx1
       clear hx0 hx1
       replace g1 := eq_true g1
       replace g2 := eq_true g2
       go_upto_region 4 with (fail)
       have hx0 := pw_cell_below HB.out HX0.out
       have HBD := Ak (show Below w.heap.size w wr.drew from pw_below_drewN HB.out 1)
       go_region_held3 (fun w' => w'.cell? (ad.add (i.toNat * 2)) = some (.string (rd_T98 xs i).f0)) (first | exact hx0 | exact hx0b) (first | (go_at_call 92; (with_reducible refine (laws_markText.calls k1 _ t1 _ A1.out).mono ?_); rintro e w3 ⟨rfl, hb⟩; have HB3 := Ak (below_step HBD.out hb); have hx0b := pw_cell_below HB3.out HX0.out; clear hb))
       clear hx0 hx0b
       go_upto_region 7 with (fail)
       have hx1 := pw_cell_below HB3.out HX1.out
       have HB3D := Ak (show Below w.heap.size w w3.drew from pw_below_drewN HB3.out 1)
       go_region_held3 (fun w' => w'.cell? ⟨(ad.add (i.toNat * 2)).block, (ad.add (i.toNat * 2)).off + 1, none⟩ = some (.string (rd_T98 xs i).f1)) (first | exact hx1 | exact hx1b) (first | (go_at_call 92; (with_reducible refine (laws_markText.calls k1 _ t2 _ A2.out).mono ?_); rintro e w5 ⟨rfl, hb⟩; have HB5 := Ak (below_step HB3D.out hb); have hx1b := pw_cell_below HB5.out HX1.out; clear hb))
       clear hx1 hx1b
       go_wp2
       go_roundg k1
       case measure => have := HK.out; omega
       case rel => exact ⟨_, _, rfl, rfl, HA, ⟨by have := HK.out; omega⟩, HB5⟩
      ·rw [if_neg g4] at H; cases H
     ·rw [if_neg g3] at H; cases H
    ·rw [if_neg g2] at H; cases H
   ·rw [if_neg g1] at H
    obtain rfl := Oi H
    clear H
    have g1b : decide (i < (xs.length : Int)) = false := decide_eq_false g1
    clear g1
    go_wp2
    go_ret
    exact ⟨rfl, HB.out⟩
def laws_heldIntS.l0 : Nat → List Int → Int → Int → Option (Int)
 | 0, _, _, _ => none
 | k + 1, x0, x1, x5 => if x5 < (x0.length : Int) then (if 0 ≤ x5 then (if (rd x0 x5) = x1 then (laws_heldIntS.l0 k x0 (wrap64 (x1 + 1)) (wrap64 (x5 + 1))) else (some (-1))) else (none)) else (some x1)
def laws_heldIntS.f (k : Nat) (l0 : List Int) (a1 : Int) : Option (Int) := laws_heldIntS.l0 k l0 a1 0
theorem laws_heldIntS.mono_l : ∀ k, (∀ y0 y1 y2, LeO (laws_heldIntS.l0 k y0 y1 y2) (laws_heldIntS.l0 (k + 1) y0 y1 y2))
 | 0 => fun _ _ _ r h => by simp [laws_heldIntS.l0] at h
 | k + 1 => by
  have ih0 := laws_heldIntS.mono_l k
  ·intro y0 y1 y2
   unfold laws_heldIntS.l0
   repeat' (with_reducible first | exact ih0 _ _ _ | exact LeO.refl _ | exact LeO.none _ | refine LeO.ite ?_ ?_ | refine LeO.bind ?_ (fun _ => ?_))
theorem laws_heldIntS.mono : ∀ a0 a1 k, LeO (laws_heldIntS.f k a0 a1) (laws_heldIntS.f (k + 1) a0 a1) := by
 intro a0 a1 k
 have ih0 := laws_heldIntS.mono_l k
 unfold laws_heldIntS.f
 repeat' (with_reducible first | exact ih0 _ _ _ | exact LeO.refl _ | exact LeO.none _ | refine LeO.ite ?_ ?_ | refine LeO.bind ?_ (fun _ => ?_))
theorem laws_heldIntS.calls (k : Nat) (A0 : Option Addr) (c0 : Nat) (l0 : List Int) (a1 : Int) (r : Int) (w : World) (hr0 : Kd.C (Kd.int .i64) w A0 l0.length l0) (hc0 : l0.length ≤ c0) (h : laws_heldIntS.f k l0 a1 = some r) :
 Calls Try.prog 94 #[.slice A0 l0.length c0, .int .i64 a1] w fun e w' => e = .returned (.int .i64 r) ∧ Drawn0 w w' := by
 have HR0 := Ak hr0
 have HC0 := Ak hc0
 clear hr0 hc0
 have H : (laws_heldIntS.l0 k l0 a1 0) = some r := h
 clear h
 have H' := Ak H
 clear H
 go_enter Try.func94, Try.ntmps94
 go_wp2
 go_loopg [1, 5] k (fun kq v1 v5 w' => ∃ (x1_1 : Int) (x5_1 : Int), v1 = .int .i64 x1_1 ∧ v5 = .int .i64 x5_1 ∧ Aside0 (laws_heldIntS.l0 kq l0 x1_1 x5_1 = some r) ∧ Aside0 (kq ≤ k) ∧ Drawn0 w w')
 case atStart => exact ⟨(a1), (0), rfl, rfl, H', ⟨Nat.le_refl _⟩, by repeat (first | exact Drawn0.refl _ | apply Drawn0.step)⟩
 case round =>
  clear H'
  try clear p2
  obtain ⟨x1_1, x5_1, rfl, rfl, HA, HK1, ⟨m1, rfl⟩⟩ := hrel
  cases gk with
  | zero => exact absurd HA.out (by simp [laws_heldIntS.l0])
  | succ k1 =>
   have H := HA.out
   clear HA
   simp only [laws_heldIntS.l0] at H
   by_cases c3 : x5_1 < (l0.length : Int)
   ·rw [if_pos c3] at H
    have c3b0 := decide_eq_true c3
    clear c3
    by_cases c4 : 0 ≤ x5_1
    ·rw [if_pos c4] at H
     have c4b0 := decide_eq_true c4
     clear c4
     by_cases c5 : (rd l0 x5_1) = x1_1
     ·rw [if_pos c5] at H
      have c5b0 := beq_iff_eq.mpr c5
      have c5b1 := bne_eq_false_iff_eq.mpr c5
      clear c5
      have H' := Ak H
      clear H
      have p101 : 0 ≤ (x5_1 : Int) := of_decide_eq_true (by assumption)
      have q101 : x5_1 < (l0.length : Int) := of_decide_eq_true (by assumption)
      obtain ⟨ad101, e101, hx101_0⟩ := Kd.at_int HR0.out x5_1 p101 q101
      cases e101
      replace p101 := eq_true p101
      replace q101 := eq_true q101
      go_wp2
      go_roundg k1
      case measure => have := HK1.out; omega
      case rel => exact ⟨(wrap64 (x1_1 + 1)), (wrap64 (x5_1 + 1)), rfl, rfl, H', ⟨by have := HK1.out; omega⟩, by repeat (first | exact Drawn0.refl _ | apply Drawn0.step)⟩
     ·rw [if_neg c5] at H
      have c5b0 := beq_eq_false_iff_ne.mpr c5
      have c5b1 := bne_iff_ne.mpr c5
      obtain rfl := Oi H
      have p101 : 0 ≤ (x5_1 : Int) := of_decide_eq_true (by assumption)
      have q101 : x5_1 < (l0.length : Int) := of_decide_eq_true (by assumption)
      obtain ⟨ad101, e101, hx101_0⟩ := Kd.at_int HR0.out x5_1 p101 q101
      cases e101
      replace p101 := eq_true p101
      replace q101 := eq_true q101
      go_wp2
      go_ret
      exact ⟨rfl, by repeat (first | exact Drawn0.refl _ | apply Drawn0.step)⟩
    ·rw [if_neg c4] at H
     exact absurd H (by simp)
   ·rw [if_neg c3] at H
    have c3b0 := decide_eq_false c3
    clear c3
    obtain rfl := Oi H
    go_wp2
    go_ret
    exact ⟨rfl, by repeat (first | exact Drawn0.refl _ | apply Drawn0.step)⟩
def laws_heldNodeS.l0 : Nat → List S45 → Int → Int → Option Int
 | 0, _, _, _ => none
 | k + 1, xs, m, i => if i < (xs.length : Int) then (if 0 ≤ i then (if (rd_T45 xs i).f0 = m then ((laws_markText.f k (wrap64 (m + 1))).bind fun t1 => if (rd_T45 xs i).f1.toList = t1.toList then ((laws_heldAttrS.f k (rd_T45 xs i).f2 (wrap64 (wrap64 (m + 1) + 1))).bind fun a => if a < 0 then none else (laws_markText.f k a).bind fun t2 => if (rd_T45 xs i).f3.toList = t2.toList then (if (rd_T45 xs i).f4 = wrap64 (a + 1) then ((laws_heldIntS.f k (rd_T45 xs i).f5 (wrap64 (wrap64 (a + 1) + 1))).bind fun b => if b < 0 then none else laws_heldNodeS.l0 k xs b (wrap64 (i + 1))) else none) else none) else none) else none) else none) else some m
def laws_heldNodeS.f (k : Nat) (l0 : List S45) (a1 : Int) : Option Int := laws_heldNodeS.l0 k l0 a1 0
theorem laws_heldNodeS.mono_l : ∀ k, (∀ y0 y1 y2, LeO (laws_heldNodeS.l0 k y0 y1 y2) (laws_heldNodeS.l0 (k + 1) y0 y1 y2))
 | 0 => fun _ _ _ r h => by simp [laws_heldNodeS.l0] at h
 | k + 1 => fun a b i => by
  rw [laws_heldNodeS.l0, laws_heldNodeS.l0]
  exact LeO.ite (LeO.ite (LeO.ite (LeO.bind (laws_markText.mono _ k) (fun _ => LeO.ite (LeO.bind (laws_heldAttrS.mono _ _ k) (fun _ => LeO.ite (LeO.refl _) (LeO.bind (laws_markText.mono _ k) (fun _ => LeO.ite (LeO.ite (LeO.bind (laws_heldIntS.mono _ _ k) (fun _ => LeO.ite (LeO.refl _) (laws_heldNodeS.mono_l k _ _ _))) (LeO.refl _)) (LeO.refl _))))) (LeO.refl _))) (LeO.refl _)) (LeO.refl _)) (LeO.refl _)
theorem laws_heldNodeS.mono : ∀ a0 a1 k, LeO (laws_heldNodeS.f k a0 a1) (laws_heldNodeS.f (k + 1) a0 a1) := fun a0 a1 k => laws_heldNodeS.mono_l k _ _ _
theorem laws_heldNodeS.calls (k : Nat) (A0 : Option Addr) (c0 : Nat) (l0 : List S45) (a1 : Int) (r : Int) (w : World) (hr0 : Kd.C k45 w A0 l0.length l0) (hc0 : l0.length ≤ c0) (h : laws_heldNodeS.f k l0 a1 = some r) :
 Calls Try.prog 49 #[.slice A0 l0.length c0, .int .i64 a1] w fun e w' => e = .returned (.int .i64 r) ∧ Below w.heap.size w w' := by
 unfold laws_heldNodeS.f at h
 revert hr0 h
 generalize l0 = xs
 intro hr0 h
 have HC := Ak hr0
 have HA := Ak h
 clear hr0 hc0 h
 go_enter Try.func49, Try.ntmps49
 go_wp2
 go_loopg [1, 5] k (fun kq v1 v5 w' => ∃ (m i : Int), v1 = .int .i64 m ∧ v5 = .int .i64 i ∧ Aside0 (laws_heldNodeS.l0 kq xs m i = some r) ∧ Aside0 (kq ≤ k) ∧ Aside0 (Below w.heap.size w w'))
 case atStart => exact ⟨_, 0, rfl, rfl, HA, ⟨Nat.le_refl _⟩, ⟨Below.refl _ _⟩⟩
 case round =>
  clear HA
  obtain ⟨m, i, rfl, rfl, HA, HK, HB⟩ := hrel
  cases gk with
  | zero => exact absurd HA.out (by simp [laws_heldNodeS.l0])
  | succ k1 =>
   have H := HA.out
   clear HA
   simp only [laws_heldNodeS.l0] at H
   by_cases g1 : i < (xs.length : Int)
   ·rw [if_pos g1] at H
    by_cases g2 : 0 ≤ i
    ·rw [if_pos g2] at H
     by_cases g3 : (rd_T45 xs i).f0 = m
     ·rw [if_pos g3] at H
      obtain ⟨t1, A1, H⟩ := Ob H
      by_cases g4 : (rd_T45 xs i).f1.toList = t1.toList
      ·rw [if_pos g4] at H
       obtain ⟨a, A2, H⟩ := Ob H
       by_cases g5 : a < 0
       ·rw [if_pos g5] at H; cases H
       ·rw [if_neg g5] at H
        obtain ⟨t2, A3, H⟩ := Ob H
        by_cases g6 : (rd_T45 xs i).f3.toList = t2.toList
        ·rw [if_pos g6] at H
         by_cases g7 : (rd_T45 xs i).f4 = wrap64 (a + 1)
         ·rw [if_pos g7] at H
          obtain ⟨b, A4, H⟩ := Ob H
          by_cases g8 : b < 0
          ·rw [if_pos g8] at H; cases H
          ·rw [if_neg g8] at H
           have HA := Ak H
           replace A1 := Ak A1
           replace A2 := Ak A2
           replace A3 := Ak A3
           replace A4 := Ak A4
           clear H
           have p3 : ((rd_T45 xs i).f0 != m) = false := bne_eq_false_iff_eq.mpr g3
           have q3 : ((rd_T45 xs i).f0 == m) = true := beq_iff_eq.mpr g3
           have p4 : ((rd_T45 xs i).f1.toList != t1.toList) = false := bne_eq_false_iff_eq.mpr g4
           have q4 : ((rd_T45 xs i).f1.toList == t1.toList) = true := beq_iff_eq.mpr g4
           have p5 : decide (a < 0) = false := decide_eq_false g5
           have p6 : ((rd_T45 xs i).f3.toList != t2.toList) = false := bne_eq_false_iff_eq.mpr g6
           have q6 : ((rd_T45 xs i).f3.toList == t2.toList) = true := beq_iff_eq.mpr g6
           have p7 : ((rd_T45 xs i).f4 != wrap64 (a + 1)) = false := bne_eq_false_iff_eq.mpr g7
           have q7 : ((rd_T45 xs i).f4 == wrap64 (a + 1)) = true := beq_iff_eq.mpr g7
           have p8 : decide (b < 0) = false := decide_eq_false g8
           clear g3 g4 g5 g6 g7 g8
           have g1b : decide (i < (xs.length : Int)) = true := decide_eq_true g1
           obtain ⟨ad, A_2, c_2, A_5, c_5, e1, hx0, hx1, hx2, hx3, hx4, hx5, hl2, hi2, hl5, hi5⟩ := at_T45 HC.out i g2 g1
           subst e1
           have HI2 := Ak hi2
           have HI5 := Ak hi5
           have HL2 := Ak hl2
           have HL5 := Ak hl5
           have HX1 := Ak hx1
           have HX2 := Ak hx2
           have HX3 := Ak hx3
           have HX4 := Ak hx4
           have HX5 := Ak hx5
           replace hx0 := pw_cell_below HB.out hx0
           clear hl2 hi2 hl5 hi5 hx1 hx2 hx3 hx4 hx5
           replace g1 := eq_true g1
           replace g2 := eq_true g2
           go_upto_region 7 with (fail)
           clear hx0
           have hx1 := pw_cell_below HB.out HX1.out
           have HBD := Ak (show Below w.heap.size w wr.drew from pw_below_drewN HB.out 1)
           go_region_held3 (fun w' => w'.cell? ⟨(ad.add (i.toNat * 6)).block, (ad.add (i.toNat * 6)).off + 1, none⟩ = some (.string (rd_T45 xs i).f1)) (first | exact hx1 | exact hx1b) (first | (go_at_call 92; (with_reducible refine (laws_markText.calls k1 _ t1 _ A1.out).mono ?_); rintro e w3 ⟨rfl, hb⟩; have HB3 := Ak (below_step HBD.out hb); have hx1b := pw_cell_below HB3.out HX1.out; clear hb))
           clear hx1 hx1b
           have hx2 := pw_cell_below HB3.out HX2.out
           go_upto_region 13 with (first | (go_at_call 93; (with_reducible refine (laws_heldAttrS.calls k1 _ _ _ _ a w3 (Kd.C_below HI2.out HB3.out) HL2.out A2.out).mono ?_); rintro e w4 ⟨rfl, hb⟩; have HB4 := Ak (below_step HB3.out hb); clear hb))
           clear hx2
           have hx3 := pw_cell_below HB4.out HX3.out
           have HB4D := Ak (show Below w.heap.size w w4.drew from pw_below_drewN HB4.out 1)
           go_region_held3 (fun w' => w'.cell? ⟨(ad.add (i.toNat * 6)).block, (ad.add (i.toNat * 6)).off + 3, none⟩ = some (.string (rd_T45 xs i).f3)) (first | exact hx3 | exact hx3b) (first | (go_at_call 92; (with_reducible refine (laws_markText.calls k1 _ t2 _ A3.out).mono ?_); rintro e w5 ⟨rfl, hb⟩; have HB5 := Ak (below_step HB4D.out hb); have hx3b := pw_cell_below HB5.out HX3.out; clear hb))
           clear hx3 hx3b
           have hx4 := pw_cell_below HB5.out HX4.out
           have hx5 := pw_cell_below HB5.out HX5.out
           go_wp2_with (first | (go_at_call 94; (with_reducible refine (laws_heldIntS.calls k1 _ _ _ _ b w5 (Kd.C_below HI5.out HB5.out) HL5.out A4.out).mono ?_); rintro e w6 ⟨rfl, ⟨nd, rfl⟩⟩; have HB6 := Ak (pw_below_drewN HB5.out nd)))
           go_roundg k1
           case measure => have := HK.out; omega
           case rel => exact ⟨_, _, rfl, rfl, HA, ⟨by have := HK.out; omega⟩, HB6⟩
         ·rw [if_neg g7] at H; cases H
        ·rw [if_neg g6] at H; cases H
      ·rw [if_neg g4] at H; cases H
     ·rw [if_neg g3] at H; cases H
    ·rw [if_neg g2] at H; cases H
   ·rw [if_neg g1] at H
    obtain rfl := Oi H
    clear H
    have g1b : decide (i < (xs.length : Int)) = false := decide_eq_false g1
    clear g1
    go_wp2
    go_ret
    exact ⟨rfl, HB.out⟩
end Go.Proofs.Ytgneacekgbjkkaa.X
