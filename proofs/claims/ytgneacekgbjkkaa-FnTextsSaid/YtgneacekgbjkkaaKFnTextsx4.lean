/- What the Go functions that FnTexts reaches compute, and that their walks come to just that (written by a program of this project over the kit's print). Conditions: as each states. -/
import Derived.Deep.RegionHeld3
import Derived.Test.YtgneacekgbjkkaaKFnTextsx3
set_option maxHeartbeats 64000000
set_option maxRecDepth 100000
namespace Go.Proofs.Ytgneacekgbjkkaa.X
open Go.RowKit Go.Proofs.YtgneacekgbjkkaaW.PrintWords Go.Proofs.YtgneacekgbjkkaaW.PrintLast Go.Proofs.YtgneacekgbjkkaaW.PrintMore
attribute [local go_sem] max2_int min2_int max_two min_two max_three min_three max_four min_four
set_option linter.unusedVariables false
set_option linter.unusedSimpArgs false
mutual
def spec_l4DrawAttrs.l0 : Nat → List (S98) → Int → List Int → Int → Int → Option ((List (S98)) × Int × Int)
 | 0, _, _, _, _, _ => none
 | k + 1, x3, x4, x1000, x1001, x1002 => (spec_l1Below.f x1000 x1001 x1002 4).bind fun bt104 => (if x4 < bt104.1 then ((spec_l1Pick.f x1000 bt104.2.1 bt104.2.2 (([(⟨#[105, 100]⟩ : ByteArray), (⟨#[99, 108, 97, 115, 115]⟩ : ByteArray), (⟨#[120]⟩ : ByteArray), (⟨#[61, 121]⟩ : ByteArray), (⟨#[195, 169]⟩ : ByteArray)] : List ByteArray))).bind fun bt110 => ((spec_l4DrawText.f x1000 bt110.2.1 bt110.2.2).bind fun bt113 => ((spec_AttrAdd.f k x3 bt110.1 bt113.1).bind fun t116 => (spec_l4DrawAttrs.l0 k t116 (wrap64 (x4 + 1)) x1000 bt113.2.1 bt113.2.2)))) else ((spec_l1Below.f x1000 bt104.2.1 bt104.2.2 20).bind fun bt119 => (if bt119.1 = 0 then ((some (([(⟨(⟨#[105, 100]⟩ : ByteArray), (⟨#[]⟩ : ByteArray)⟩ : S98), (⟨(⟨#[105, 100]⟩ : ByteArray), (⟨#[]⟩ : ByteArray)⟩ : S98)] : List (S98)) : List (S98))).bind fun y122 => (if x3.length + y122.length < 4398046511104 then (some ((x3 ++ y122), bt119.2.1, bt119.2.2)) else (none))) else (if bt119.1 = 1 then (spec_l4DrawAttrs.l1 k x3 0 x1000 bt119.2.1 bt119.2.2) else (if bt119.1 = 2 then ((spec_l1Below.f x1000 bt119.2.1 bt119.2.2 2).bind fun bt134 => (if 0 ≤ (wrap64 (3000 + bt134.1)) then (if (wrap64 (3000 + bt134.1) : Int).toNat ≤ 281474976710656 then (if x3.length < 4398046511104 then (some ((x3 ++ [(⟨(⟨#[118]⟩ : ByteArray), strOfNums (List.replicate (wrap64 (3000 + bt134.1) : Int).toNat 0)⟩ : S98)]), bt134.2.1, bt134.2.2)) else (none)) else (none)) else (none))) else (if bt119.1 = 3 then (if x3.length < 4398046511104 then (some ((x3 ++ [(⟨(⟨#[117]⟩ : ByteArray), (⟨#[255]⟩ : ByteArray)⟩ : S98)]), bt119.2.1, bt119.2.2)) else (none)) else (some (x3, bt119.2.1, bt119.2.2))))))))
def spec_l4DrawAttrs.l1 : Nat → List (S98) → Int → List Int → Int → Int → Option ((List (S98)) × Int × Int)
 | 0, _, _, _, _, _ => none
 | k + 1, x3, x5, x1000, x1001, x1002 => if x5 < 21 then (if x3.length < 4398046511104 then (spec_l4DrawAttrs.l1 k (x3 ++ [(⟨strOfNums (([(wrap64 (97 + x5)) % 256] : List Int)), (⟨#[]⟩ : ByteArray)⟩ : S98)]) (wrap64 (x5 + 1)) x1000 x1001 x1002) else (none)) else (some (x3, x1001, x1002))
end
def spec_l4DrawAttrs.f (k : Nat) (s0_0 : List Int) (s0_1 : Int) (s0_2 : Int) : Option ((List (S98)) × Int × Int) := spec_l4DrawAttrs.l0 k (([] : List (S98))) 0 s0_0 s0_1 s0_2
theorem spec_l4DrawAttrs.mono_l : ∀ k, (∀ y0 y1 y2 y3 y4, LeO (spec_l4DrawAttrs.l0 k y0 y1 y2 y3 y4) (spec_l4DrawAttrs.l0 (k + 1) y0 y1 y2 y3 y4)) ∧ (∀ y0 y1 y2 y3 y4, LeO (spec_l4DrawAttrs.l1 k y0 y1 y2 y3 y4) (spec_l4DrawAttrs.l1 (k + 1) y0 y1 y2 y3 y4))
 | 0 => ⟨fun _ _ _ _ _ r h => by simp [spec_l4DrawAttrs.l0] at h, fun _ _ _ _ _ r h => by simp [spec_l4DrawAttrs.l1] at h⟩
 | k + 1 => by
  obtain ⟨ih0, ih1⟩ := spec_l4DrawAttrs.mono_l k
  refine ⟨?_, ?_⟩
  ·intro y0 y1 y2 y3 y4
   unfold spec_l4DrawAttrs.l0
   repeat' first
   | (with_reducible exact ih0 _ _ _ _ _)
   | (with_reducible exact ih1 _ _ _ _ _)
   | (with_reducible exact spec_AttrAdd.mono _ _ _ _)
   | (with_reducible exact LeO.refl _)
   | (with_reducible exact LeO.none _)
   | (with_reducible refine LeO.ite ?_ ?_)
   | (with_reducible refine LeO.bind ?_ (fun _ => ?_))
   | exact ih0 _ _ _ _ _
   | exact ih1 _ _ _ _ _
   | exact spec_AttrAdd.mono _ _ _ _
   | exact LeO.none _
   | refine LeO.ite ?_ ?_
   | refine LeO.bind ?_ (fun _ => ?_)
  ·intro y0 y1 y2 y3 y4
   unfold spec_l4DrawAttrs.l1
   repeat' first
   | (with_reducible exact ih0 _ _ _ _ _)
   | (with_reducible exact ih1 _ _ _ _ _)
   | (with_reducible exact spec_AttrAdd.mono _ _ _ _)
   | (with_reducible exact LeO.refl _)
   | (with_reducible exact LeO.none _)
   | (with_reducible refine LeO.ite ?_ ?_)
   | (with_reducible refine LeO.bind ?_ (fun _ => ?_))
   | exact ih0 _ _ _ _ _
   | exact ih1 _ _ _ _ _
   | exact spec_AttrAdd.mono _ _ _ _
   | exact LeO.none _
   | refine LeO.ite ?_ ?_
   | refine LeO.bind ?_ (fun _ => ?_)
theorem spec_l4DrawAttrs.mono : ∀ a0 a1 a2 k, LeO (spec_l4DrawAttrs.f k a0 a1 a2) (spec_l4DrawAttrs.f (k + 1) a0 a1 a2) := by
 intro a0 a1 a2 k
 obtain ⟨ih0, ih1⟩ := spec_l4DrawAttrs.mono_l k
 unfold spec_l4DrawAttrs.f
 repeat' first
  | (with_reducible exact ih0 _ _ _ _ _)
  | (with_reducible exact ih1 _ _ _ _ _)
  | (with_reducible exact spec_AttrAdd.mono _ _ _ _)
  | (with_reducible exact LeO.refl _)
  | (with_reducible exact LeO.none _)
  | (with_reducible refine LeO.ite ?_ ?_)
  | (with_reducible refine LeO.bind ?_ (fun _ => ?_))
  | exact ih0 _ _ _ _ _
  | exact ih1 _ _ _ _ _
  | exact spec_AttrAdd.mono _ _ _ _
  | exact LeO.none _
  | refine LeO.ite ?_ ?_
  | refine LeO.bind ?_ (fun _ => ?_)
theorem spec_l4DrawAttrs.calls (k : Nat) (g : Nat) (s0_0 : List Int) (s0_1 : Int) (s0_2 : Int) (r1 : List (S98)) (r2 : Int) (r3 : Int) (w0 w : World) (hI : IsS117 w0 w g s0_0 s0_1 s0_2) (hB : Below w0.heap.size w0 w) (h : spec_l4DrawAttrs.f k s0_0 s0_1 s0_2 = some (r1, r2, r3)) :
 Calls Try.prog 133 #[.pointer (some ⟨g, 0, none⟩)] w fun e w' => ∃ v0_ : Value, e = .returned (v0_) ∧ Kd.R k98 98 w' w.heap.size (fun _ => True) v0_ r1 ∧ IsS117 w0 w' g s0_0 r2 r3 ∧ Below w0.heap.size w0 w' ∧ KeepBut w w' g none := by
 have hu98 := Try.underlying98
 have HI0 := Ak hI
 have HK := Ak (KeepBut.refl w g none)
 have HL := Ak hB.size
 clear hI
 have HW0 := Ak hB.size
 have HB := Ak hB
 clear hB
 have H : (spec_l4DrawAttrs.l0 k (([] : List (S98))) 0 s0_0 s0_1 s0_2) = some (r1, r2, r3) := h
 clear h
 obtain ⟨y101, hy101⟩ : ∃ y_ : List (S98), y_ = (([] : List (S98))) := ⟨_, rfl⟩
 replace H : (spec_l4DrawAttrs.l0 k y101 0 s0_0 s0_1 s0_2) = some (r1, r2, r3) := by first | (rw [hy101]; with_reducible exact H) | (have H2_ := (Option.bind_some _ _).symm.trans H; rw [hy101]; with_reducible exact H2_) | (have H2_ := (Option.bind_some _ _).symm.trans H; with_reducible exact H2_) | with_reducible exact H | (rw [hy101]; exact H) | exact H
 have Ny101 := Ak hy101
 clear hy101
 have H' := Ak H
 clear H
 go_enter Try.func133, Try.ntmps133
 go_wp2_with (first | ((with_reducible refine gate_dst (N := 6) rfl ?_); refine Kd.R_lit k98 _ 98 ?hg (N := 6) ?hd (xs := ([] : List (S98))) (inner := []) (ok := fun _ => True) (okp := fun _ => True) ?hr ?hp (fun _ hk => hk) trivial (Below.refl _ _) (Nat.le_refl _) (by simp) ?_; (case hd => rfl); (case hg => rfl); (case hr => go_simp); (case hp => exact (Reps.none _ _)); intro v102 w2 ho3 hb hg_ hnew_; clear hg_ hnew_; (first | rw [← Ny101.out] at ho3 | (simp only [Int.reduceToNat] at ho3; rw [← Ny101.out] at ho3)); have n0_ := Ak (Kd.R_lower ho3 (keep_size (w := w) (g := g) (row := none) (HK.out))); have n1_ := Ak (IsS117.below (HI0.out) hb); have n2_ := Ak (KeepBut.trans (HK.out) (KeepBut.of_below hb g none) (.inl rfl)); have n3_ := Ak (below_step (by repeat (first | exact HB.out | apply below_alloc | apply pw_below_drewN | apply below_drew1 | refine below_set ?_ (IsS117.ge HI0.out))) hb); clear HI0; clear HK; clear HB; have HO103 := n0_; have HI0 := n1_; have HK := n2_; have HB := n3_; clear n0_ n1_ n2_ n3_; clear hb ho3))
 go_loopg [3, 4] k (fun kq v3 v4 w' => ∃ (x3_1 : List (S98)) (x4_1 : Int) (x1001_1 : Int) (x1002_1 : Int), v4 = .int .i64 x4_1 ∧ Aside0 (spec_l4DrawAttrs.l0 kq x3_1 x4_1 s0_0 x1001_1 x1002_1 = some (r1, r2, r3)) ∧ Aside0 (kq ≤ k) ∧ Aside0 (Kd.R k98 98 w' w.heap.size (fun _ => True) v3 x3_1) ∧ Aside0 (IsS117 w0 w' g s0_0 x1001_1 x1002_1) ∧ Aside0 (KeepBut w w' g none) ∧ Aside0 (Below w0.heap.size w0 w'))
 case atStart => exact ⟨(y101), (0), (s0_1), (s0_2), (by first | rfl | (simp; done) | (simp [*]; done)), H', ⟨Nat.le_refl _⟩, ⟨by (with_reducible repeat (first | apply Kd.R_alloc | apply Kd.R_drewN | apply Kd.R_drew)); exact HO103.out⟩, ⟨HI0.out⟩, ⟨HK.out⟩, ⟨by repeat (first | exact HB.out | apply below_alloc | apply pw_below_drewN | apply below_drew1 | refine below_set ?_ (IsS117.ge HI0.out))⟩⟩
 case round =>
  clear H'
  try clear c1
  try clear p2
  obtain ⟨x3_1, x4_1, x1001_1, x1002_1, rfl, HA, HK1, HO_3, HI0, HK, HB⟩ := hrel
  cases gk with
  | zero => exact absurd HA.out (by simp [spec_l4DrawAttrs.l0])
  | succ k1 =>
   have H := HA.out
   clear HA
   simp only [spec_l4DrawAttrs.l0] at H
   replace H := Option.bind_eq_some_iff.mp H
   obtain ⟨⟨t104, t105, t106⟩, A40, H⟩ := H
   replace H : (if x4_1 < t104 then ((spec_l1Pick.f s0_0 t105 t106 (([(⟨#[105, 100]⟩ : ByteArray), (⟨#[99, 108, 97, 115, 115]⟩ : ByteArray), (⟨#[120]⟩ : ByteArray), (⟨#[61, 121]⟩ : ByteArray), (⟨#[195, 169]⟩ : ByteArray)] : List ByteArray))).bind fun bt110 => ((spec_l4DrawText.f s0_0 bt110.2.1 bt110.2.2).bind fun bt113 => ((spec_AttrAdd.f k1 x3_1 bt110.1 bt113.1).bind fun t116 => (spec_l4DrawAttrs.l0 k1 t116 (wrap64 (x4_1 + 1)) s0_0 bt113.2.1 bt113.2.2)))) else ((spec_l1Below.f s0_0 t105 t106 20).bind fun bt119 => (if bt119.1 = 0 then ((some (([(⟨(⟨#[105, 100]⟩ : ByteArray), (⟨#[]⟩ : ByteArray)⟩ : S98), (⟨(⟨#[105, 100]⟩ : ByteArray), (⟨#[]⟩ : ByteArray)⟩ : S98)] : List (S98)) : List (S98))).bind fun y122 => (if x3_1.length + y122.length < 4398046511104 then (some ((x3_1 ++ y122), bt119.2.1, bt119.2.2)) else (none))) else (if bt119.1 = 1 then (spec_l4DrawAttrs.l1 k1 x3_1 0 s0_0 bt119.2.1 bt119.2.2) else (if bt119.1 = 2 then ((spec_l1Below.f s0_0 bt119.2.1 bt119.2.2 2).bind fun bt134 => (if 0 ≤ (wrap64 (3000 + bt134.1)) then (if (wrap64 (3000 + bt134.1) : Int).toNat ≤ 281474976710656 then (if x3_1.length < 4398046511104 then (some ((x3_1 ++ [(⟨(⟨#[118]⟩ : ByteArray), strOfNums (List.replicate (wrap64 (3000 + bt134.1) : Int).toNat 0)⟩ : S98)]), bt134.2.1, bt134.2.2)) else (none)) else (none)) else (none))) else (if bt119.1 = 3 then (if x3_1.length < 4398046511104 then (some ((x3_1 ++ [(⟨(⟨#[117]⟩ : ByteArray), (⟨#[255]⟩ : ByteArray)⟩ : S98)]), bt119.2.1, bt119.2.2)) else (none)) else (some (x3_1, bt119.2.1, bt119.2.2)))))))) = some (r1, r2, r3) := H
   have A4 := Ak A40
   clear A40
   by_cases c5 : x4_1 < t104
   ·rw [if_pos c5] at H
    have c5b0 : decide (x4_1 < t104) = true := decide_eq_true c5
    clear c5
    obtain ⟨y107, hy107⟩ : ∃ y_ : List ByteArray, y_ = (([(⟨#[105, 100]⟩ : ByteArray), (⟨#[99, 108, 97, 115, 115]⟩ : ByteArray), (⟨#[120]⟩ : ByteArray), (⟨#[61, 121]⟩ : ByteArray), (⟨#[195, 169]⟩ : ByteArray)] : List ByteArray)) := ⟨_, rfl⟩
    replace H : ((spec_l1Pick.f s0_0 t105 t106 y107).bind fun bt110 => ((spec_l4DrawText.f s0_0 bt110.2.1 bt110.2.2).bind fun bt113 => ((spec_AttrAdd.f k1 x3_1 bt110.1 bt113.1).bind fun t116 => (spec_l4DrawAttrs.l0 k1 t116 (wrap64 (x4_1 + 1)) s0_0 bt113.2.1 bt113.2.2)))) = some (r1, r2, r3) := by first | (rw [hy107]; with_reducible exact H) | (have H2_ := (Option.bind_some _ _).symm.trans H; rw [hy107]; with_reducible exact H2_) | (have H2_ := (Option.bind_some _ _).symm.trans H; with_reducible exact H2_) | with_reducible exact H | (rw [hy107]; exact H) | exact H
    have Ny107 := Ak hy107
    clear hy107
    replace H := Option.bind_eq_some_iff.mp H
    obtain ⟨⟨t110, t111, t112⟩, A60, H⟩ := H
    replace H : ((spec_l4DrawText.f s0_0 t111 t112).bind fun bt113 => ((spec_AttrAdd.f k1 x3_1 t110 bt113.1).bind fun t116 => (spec_l4DrawAttrs.l0 k1 t116 (wrap64 (x4_1 + 1)) s0_0 bt113.2.1 bt113.2.2))) = some (r1, r2, r3) := H
    have A6 := Ak A60
    clear A60
    replace H := Option.bind_eq_some_iff.mp H
    obtain ⟨⟨t113, t114, t115⟩, A70, H⟩ := H
    replace H : ((spec_AttrAdd.f k1 x3_1 t110 t113).bind fun t116 => (spec_l4DrawAttrs.l0 k1 t116 (wrap64 (x4_1 + 1)) s0_0 t114 t115)) = some (r1, r2, r3) := H
    have A7 := Ak A70
    clear A70
    replace H := Option.bind_eq_some_iff.mp H
    obtain ⟨t116, A80, H⟩ := H
    replace H : (spec_l4DrawAttrs.l0 k1 t116 (wrap64 (x4_1 + 1)) s0_0 t114 t115) = some (r1, r2, r3) := H
    have A8 := Ak A80
    clear A80
    have H' := Ak H
    clear H
    go_wp2_with (first | ((with_reducible refine gate_callee (f := 101) rfl ?_); refine goesL_ (some 9) rfl rfl Try.func101 (by kernel_rfl) rfl #[.pointer (some ⟨g, 0, none⟩), .int .i64 4] rfl (by (try simp only [List.map_toArray, List.map_cons, List.map_nil]); first | done | rfl | (simp only [List.length_drop, List.length_take]; rfl)) ?_; (with_reducible refine (spec_l1Below.calls g s0_0 x1001_1 x1002_1 4 t104 t105 t106 w0 _ ?side1 ?side2 A4.out).mono ?_); (case side1 => repeat (first | (with_reducible first | exact HI0.out | apply IsS117.alloc | apply IsS117.drewN | apply IsS117.drew | apply IsS117.set_1 | apply IsS117.set_2) | exact HI0.out)); (case side2 => repeat (first | (with_reducible first | exact HB.out | apply below_alloc | apply pw_below_drewN | apply below_drew1 | refine below_set ?_ (IsS117.ge HI0.out)) | exact HB.out)); rintro e w9 ⟨rfl, hi, hb, hk⟩; refine ⟨_, rfl, ?_⟩; have n0_ := Ak (Kd.R_mono (Kd.R_keep (IsS117.apart (show IsS117 w0 _ g s0_0 x1001_1 x1002_1 from HI0.out) HO_3.out (by decide)) hk (fun _ h => h.2)) (fun _ h => h.1)); have n1_ := Ak (KeepBut.trans (HK.out) hk (.inl rfl)); have n2_ := Ak (hb); have n3_ := Ak (hi); clear HO_3; clear HK; clear HB; clear HI0; have HO_3 := n0_; have HK := n1_; have HB := n2_; have HI0 := n3_; clear n0_ n1_ n2_ n3_; (try clear hb)) | ((with_reducible refine gate_dst (N := 15) rfl ?_); refine Kd.R_lit Kd.string _ 9 ?hg (N := 15) ?hd (xs := ([(⟨#[105, 100]⟩ : ByteArray), (⟨#[99, 108, 97, 115, 115]⟩ : ByteArray), (⟨#[120]⟩ : ByteArray), (⟨#[61, 121]⟩ : ByteArray), (⟨#[195, 169]⟩ : ByteArray)] : List ByteArray)) (inner := [.string (⟨#[105, 100]⟩ : ByteArray), .string (⟨#[99, 108, 97, 115, 115]⟩ : ByteArray), .string (⟨#[120]⟩ : ByteArray), .string (⟨#[61, 121]⟩ : ByteArray), .string (⟨#[195, 169]⟩ : ByteArray)]) (ok := fun _ => True) (okp := fun _ => True) ?hr ?hp (fun _ hk => hk) trivial (Below.refl _ _) (Nat.le_refl _) (by simp) ?_; (case hd => rfl); (case hg => rfl); (case hr => go_simp); (case hp => exact (Reps.one (show Kd.M Kd.string _ _ _ (⟨#[105, 100]⟩ : ByteArray) [.string (⟨#[105, 100]⟩ : ByteArray)] from rfl) (Reps.one (show Kd.M Kd.string _ _ _ (⟨#[99, 108, 97, 115, 115]⟩ : ByteArray) [.string (⟨#[99, 108, 97, 115, 115]⟩ : ByteArray)] from rfl) (Reps.one (show Kd.M Kd.string _ _ _ (⟨#[120]⟩ : ByteArray) [.string (⟨#[120]⟩ : ByteArray)] from rfl) (Reps.one (show Kd.M Kd.string _ _ _ (⟨#[61, 121]⟩ : ByteArray) [.string (⟨#[61, 121]⟩ : ByteArray)] from rfl) (Reps.one (show Kd.M Kd.string _ _ _ (⟨#[195, 169]⟩ : ByteArray) [.string (⟨#[195, 169]⟩ : ByteArray)] from rfl) (Reps.none _ _))))))); intro v108 w10 ho11 hb hg_ hnew_; clear hg_ hnew_; (first | rw [← Ny107.out] at ho11 | (simp only [Int.reduceToNat] at ho11; rw [← Ny107.out] at ho11)); have n0_ := Ak (Kd.R_below HO_3.out hb); have n1_ := Ak (Kd.R_lower ho11 (keep_size (w := w) (g := g) (row := none) (HK.out))); have n2_ := Ak (IsS117.below (HI0.out) hb); have n3_ := Ak (KeepBut.trans (HK.out) (KeepBut.of_below hb g none) (.inl rfl)); have n4_ := Ak (below_step (by repeat (first | exact HB.out | apply below_alloc | apply pw_below_drewN | apply below_drew1 | refine below_set ?_ (IsS117.ge HI0.out))) hb); clear HO_3; clear HI0; clear HK; clear HB; have HO_3 := n0_; have HO109 := n1_; have HI0 := n2_; have HK := n3_; have HB := n4_; clear n0_ n1_ n2_ n3_ n4_; clear hb ho11; obtain ⟨Ao12, co12, eo12⟩ := Kd.R_slice HO109.out; subst eo12) | ((with_reducible refine gate_callee (f := 132) rfl ?_); refine goesL_ (some 16) rfl rfl Try.func132 (by kernel_rfl) rfl #[.pointer (some ⟨g, 0, none⟩), .slice Ao12 y107.length co12] rfl (by (try simp only [List.map_toArray, List.map_cons, List.map_nil]); first | done | rfl | (simp only [List.length_drop, List.length_take]; rfl)) ?_; (with_reducible refine (spec_l1Pick.calls g s0_0 t105 t106 _ _ y107 t110 t111 t112 w0 _ ?side1 ?side2 ?side3 ?side4 ?side5 A6.out).mono ?_); (case side1 => repeat (first | (with_reducible first | exact HI0.out | apply IsS117.alloc | apply IsS117.drewN | apply IsS117.drew | apply IsS117.set_1 | apply IsS117.set_2) | exact HI0.out)); (case side2 => repeat (first | (with_reducible first | exact HB.out | apply below_alloc | apply pw_below_drewN | apply below_drew1 | refine below_set ?_ (IsS117.ge HI0.out)) | exact HB.out)); (case side3 => repeat (first | exact (Kd.R_reads' HO109.out).2.2 | (with_reducible refine Kd.C_alloc ?_ _) | (with_reducible refine Kd.C_drewN ?_ _) | (with_reducible refine Kd.C_drew ?_))); (case side4 => exact (Kd.R_reads' HO109.out).2.1); (case side5 => exact far_slice (IsS117.own_ne HI0.out HO109.out (by decide))); rintro e w13 ⟨rfl, hi, hb, hk⟩; refine ⟨_, rfl, ?_⟩; have n0_ := Ak (Kd.R_mono (Kd.R_keep (IsS117.apart (show IsS117 w0 _ g s0_0 t105 t106 from HI0.out) HO_3.out (by decide)) hk (fun _ h => h.2)) (fun _ h => h.1)); have n1_ := Ak (Kd.R_mono (Kd.R_keep (IsS117.apart (show IsS117 w0 _ g s0_0 t105 t106 from HI0.out) HO109.out (by decide)) hk (fun _ h => h.2)) (fun _ h => h.1)); have n2_ := Ak (KeepBut.trans (HK.out) hk (.inl rfl)); have n3_ := Ak (hb); have n4_ := Ak (hi); clear HO_3; clear HO109; clear HK; clear HB; clear HI0; have HO_3 := n0_; have HO109 := n1_; have HK := n2_; have HB := n3_; have HI0 := n4_; clear n0_ n1_ n2_ n3_ n4_; (try clear hb)) | ((with_reducible refine gate_callee (f := 134) rfl ?_); refine goesL_ (some 18) rfl rfl Try.func134 (by kernel_rfl) rfl #[.pointer (some ⟨g, 0, none⟩)] rfl (by (try simp only [List.map_toArray, List.map_cons, List.map_nil]); first | done | rfl | (simp only [List.length_drop, List.length_take]; rfl)) ?_; (with_reducible refine (spec_l4DrawText.calls g s0_0 t111 t112 t113 t114 t115 w0 _ ?side1 ?side2 A7.out).mono ?_); (case side1 => repeat (first | (with_reducible first | exact HI0.out | apply IsS117.alloc | apply IsS117.drewN | apply IsS117.drew | apply IsS117.set_1 | apply IsS117.set_2) | exact HI0.out)); (case side2 => repeat (first | (with_reducible first | exact HB.out | apply below_alloc | apply pw_below_drewN | apply below_drew1 | refine below_set ?_ (IsS117.ge HI0.out)) | exact HB.out)); rintro e w14 ⟨rfl, hi, hb, hk⟩; refine ⟨_, rfl, ?_⟩; have n0_ := Ak (Kd.R_mono (Kd.R_keep (IsS117.apart (show IsS117 w0 _ g s0_0 t111 t112 from HI0.out) HO_3.out (by decide)) hk (fun _ h => h.2)) (fun _ h => h.1)); have n1_ := Ak (Kd.R_mono (Kd.R_keep (IsS117.apart (show IsS117 w0 _ g s0_0 t111 t112 from HI0.out) HO109.out (by decide)) hk (fun _ h => h.2)) (fun _ h => h.1)); have n2_ := Ak (KeepBut.trans (HK.out) hk (.inl rfl)); have n3_ := Ak (hb); have n4_ := Ak (hi); clear HO_3; clear HO109; clear HK; clear HB; clear HI0; have HO_3 := n0_; have HO109 := n1_; have HK := n2_; have HB := n3_; have HI0 := n4_; clear n0_ n1_ n2_ n3_ n4_; (try clear hb); obtain ⟨Ao15, co15, eo15⟩ := Kd.R_slice HO_3.out; subst eo15) | ((with_reducible refine gate_callee (f := 142) rfl ?_); refine goesL_ (some 20) rfl rfl Try.func142 (by kernel_rfl) rfl #[.slice Ao15 x3_1.length co15, .agg #[.string t110, .string t113]] rfl (by (try simp only [List.map_toArray, List.map_cons, List.map_nil]); first | done | rfl | (simp only [List.length_drop, List.length_take]; rfl)) ?_; (with_reducible refine (spec_AttrAdd.calls k1 _ _ x3_1 t110 t113 t116 _ ?side1 ?side2 A8.out).mono ?_); (case side1 => repeat (first | exact (Kd.R_reads' HO_3.out).2.2 | (with_reducible refine Kd.C_alloc ?_ _) | (with_reducible refine Kd.C_drewN ?_ _) | (with_reducible refine Kd.C_drew ?_))); (case side2 => exact (Kd.R_reads' HO_3.out).2.1); rintro e w16 ⟨v117, rfl, ho0, hb⟩; refine ⟨_, rfl, ?_⟩; have n0_ := Ak (Kd.R_elder' HO_3.out (Kd.R_base ho0) hb); have n1_ := Ak (Kd.R_below HO109.out hb); have n2_ := Ak (Kd.R_lower (Kd.R_new' ho0 (Kd.R_lt HO_3.out)) (keep_size (w := w) (g := g) (row := none) (HK.out))); have n3_ := Ak (IsS117.below (HI0.out) hb); have n4_ := Ak (KeepBut.trans (HK.out) (KeepBut.of_below hb g none) (.inl rfl)); have n5_ := Ak (below_step (by repeat (first | exact HB.out | apply below_alloc | apply pw_below_drewN | apply below_drew1 | refine below_set ?_ (IsS117.ge HI0.out))) hb); clear HO_3; clear HO109; clear HI0; clear HK; clear HB; have HO_3 := n0_; have HO109 := n1_; have HO118 := n2_; have HI0 := n3_; have HK := n4_; have HB := n5_; clear n0_ n1_ n2_ n3_ n4_ n5_; (try clear hb); (try clear ho0)))
    go_roundg k1
    case measure => have := HK1.out; omega
    case rel => exact ⟨(t116), (wrap64 (x4_1 + 1)), (t114), (t115), (by first | rfl | (simp; done) | (simp [*]; done)), H', ⟨by have := HK1.out; omega⟩, ⟨by (with_reducible repeat (first | apply Kd.R_alloc | apply Kd.R_drewN | apply Kd.R_drew)); exact Kd.R_mono HO118.out (fun _ hk => trivial)⟩, ⟨HI0.out⟩, ⟨HK.out⟩, ⟨by repeat (first | exact HB.out | apply below_alloc | apply pw_below_drewN | apply below_drew1 | refine below_set ?_ (IsS117.ge HI0.out))⟩⟩
   ·rw [if_neg c5] at H
    have c5b0 : decide (x4_1 < t104) = false := decide_eq_false c5
    clear c5
    replace H := Option.bind_eq_some_iff.mp H
    obtain ⟨⟨t119, t120, t121⟩, A170, H⟩ := H
    replace H : (if t119 = 0 then ((some (([(⟨(⟨#[105, 100]⟩ : ByteArray), (⟨#[]⟩ : ByteArray)⟩ : S98), (⟨(⟨#[105, 100]⟩ : ByteArray), (⟨#[]⟩ : ByteArray)⟩ : S98)] : List (S98)) : List (S98))).bind fun y122 => (if x3_1.length + y122.length < 4398046511104 then (some ((x3_1 ++ y122), t120, t121)) else (none))) else (if t119 = 1 then (spec_l4DrawAttrs.l1 k1 x3_1 0 s0_0 t120 t121) else (if t119 = 2 then ((spec_l1Below.f s0_0 t120 t121 2).bind fun bt134 => (if 0 ≤ (wrap64 (3000 + bt134.1)) then (if (wrap64 (3000 + bt134.1) : Int).toNat ≤ 281474976710656 then (if x3_1.length < 4398046511104 then (some ((x3_1 ++ [(⟨(⟨#[118]⟩ : ByteArray), strOfNums (List.replicate (wrap64 (3000 + bt134.1) : Int).toNat 0)⟩ : S98)]), bt134.2.1, bt134.2.2)) else (none)) else (none)) else (none))) else (if t119 = 3 then (if x3_1.length < 4398046511104 then (some ((x3_1 ++ [(⟨(⟨#[117]⟩ : ByteArray), (⟨#[255]⟩ : ByteArray)⟩ : S98)]), t120, t121)) else (none)) else (some (x3_1, t120, t121)))))) = some (r1, r2, r3) := H
    have A17 := Ak A170
    clear A170
    by_cases c18 : t119 = 0
    ·rw [if_pos c18] at H
     have c18b0 : (t119 == 0) = true := beq_iff_eq.mpr c18
     have c18b1 : (t119 != 0) = false := bne_eq_false_iff_eq.mpr c18
     clear c18
     obtain ⟨y122, hy122⟩ : ∃ y_ : List (S98), y_ = (([(⟨(⟨#[105, 100]⟩ : ByteArray), (⟨#[]⟩ : ByteArray)⟩ : S98), (⟨(⟨#[105, 100]⟩ : ByteArray), (⟨#[]⟩ : ByteArray)⟩ : S98)] : List (S98))) := ⟨_, rfl⟩
     replace H : (if x3_1.length + y122.length < 4398046511104 then (some ((x3_1 ++ y122), t120, t121)) else (none)) = some (r1, r2, r3) := by first | (rw [hy122]; with_reducible exact H) | (have H2_ := (Option.bind_some _ _).symm.trans H; rw [hy122]; with_reducible exact H2_) | (have H2_ := (Option.bind_some _ _).symm.trans H; with_reducible exact H2_) | with_reducible exact H | (rw [hy122]; exact H) | exact H
     have Ny122 := Ak hy122
     clear hy122
     by_cases c19 : x3_1.length + y122.length < 4398046511104
     ·rw [if_pos c19] at H
      have LMc19 := Ak c19
      clear c19
      obtain ⟨y125, hy125⟩ : ∃ y_ : List (S98), y_ = (x3_1 ++ y122) := ⟨_, rfl⟩
      replace H : (some (y125, t120, t121)) = some (r1, r2, r3) := by first | (rw [hy125]; with_reducible exact H) | (have H2_ := (Option.bind_some _ _).symm.trans H; rw [hy125]; with_reducible exact H2_) | (have H2_ := (Option.bind_some _ _).symm.trans H; with_reducible exact H2_) | with_reducible exact H | (rw [hy125]; exact H) | exact H
      have Ny125 := Ak hy125
      clear hy125
      simp only [Option.some.injEq, Prod.mk.injEq] at H
      obtain ⟨rfl, rfl, rfl⟩ := H
      go_wp2_with (first | ((with_reducible refine gate_callee (f := 101) rfl ?_); refine goesL_ (some 9) rfl rfl Try.func101 (by kernel_rfl) rfl #[.pointer (some ⟨g, 0, none⟩), .int .i64 4] rfl (by (try simp only [List.map_toArray, List.map_cons, List.map_nil]); first | done | rfl | (simp only [List.length_drop, List.length_take]; rfl)) ?_; (with_reducible refine (spec_l1Below.calls g s0_0 x1001_1 x1002_1 4 t104 t105 t106 w0 _ ?side1 ?side2 A4.out).mono ?_); (case side1 => repeat (first | (with_reducible first | exact HI0.out | apply IsS117.alloc | apply IsS117.drewN | apply IsS117.drew | apply IsS117.set_1 | apply IsS117.set_2) | exact HI0.out)); (case side2 => repeat (first | (with_reducible first | exact HB.out | apply below_alloc | apply pw_below_drewN | apply below_drew1 | refine below_set ?_ (IsS117.ge HI0.out)) | exact HB.out)); rintro e w20 ⟨rfl, hi, hb, hk⟩; refine ⟨_, rfl, ?_⟩; have n0_ := Ak (Kd.R_mono (Kd.R_keep (IsS117.apart (show IsS117 w0 _ g s0_0 x1001_1 x1002_1 from HI0.out) HO_3.out (by decide)) hk (fun _ h => h.2)) (fun _ h => h.1)); have n1_ := Ak (KeepBut.trans (HK.out) hk (.inl rfl)); have n2_ := Ak (hb); have n3_ := Ak (hi); clear HO_3; clear HK; clear HB; clear HI0; have HO_3 := n0_; have HK := n1_; have HB := n2_; have HI0 := n3_; clear n0_ n1_ n2_ n3_; (try clear hb)) | ((with_reducible refine gate_callee (f := 101) rfl ?_); refine goesL_ (some 22) rfl rfl Try.func101 (by kernel_rfl) rfl #[.pointer (some ⟨g, 0, none⟩), .int .i64 20] rfl (by (try simp only [List.map_toArray, List.map_cons, List.map_nil]); first | done | rfl | (simp only [List.length_drop, List.length_take]; rfl)) ?_; (with_reducible refine (spec_l1Below.calls g s0_0 t105 t106 20 t119 t120 t121 w0 _ ?side1 ?side2 A17.out).mono ?_); (case side1 => repeat (first | (with_reducible first | exact HI0.out | apply IsS117.alloc | apply IsS117.drewN | apply IsS117.drew | apply IsS117.set_1 | apply IsS117.set_2) | exact HI0.out)); (case side2 => repeat (first | (with_reducible first | exact HB.out | apply below_alloc | apply pw_below_drewN | apply below_drew1 | refine below_set ?_ (IsS117.ge HI0.out)) | exact HB.out)); rintro e w21 ⟨rfl, hi, hb, hk⟩; refine ⟨_, rfl, ?_⟩; have n0_ := Ak (Kd.R_mono (Kd.R_keep (IsS117.apart (show IsS117 w0 _ g s0_0 t105 t106 from HI0.out) HO_3.out (by decide)) hk (fun _ h => h.2)) (fun _ h => h.1)); have n1_ := Ak (KeepBut.trans (HK.out) hk (.inl rfl)); have n2_ := Ak (hb); have n3_ := Ak (hi); clear HO_3; clear HK; clear HB; clear HI0; have HO_3 := n0_; have HK := n1_; have HB := n2_; have HI0 := n3_; clear n0_ n1_ n2_ n3_; (try clear hb)) | ((with_reducible refine gate_dst (N := 28) rfl ?_); refine Kd.R_lit k98 _ 98 ?hg (N := 28) ?hd (xs := ([(⟨(⟨#[105, 100]⟩ : ByteArray), (⟨#[]⟩ : ByteArray)⟩ : S98), (⟨(⟨#[105, 100]⟩ : ByteArray), (⟨#[]⟩ : ByteArray)⟩ : S98)] : List (S98))) (inner := [.string (⟨#[105, 100]⟩ : ByteArray), .string (⟨#[]⟩ : ByteArray), .string (⟨#[105, 100]⟩ : ByteArray), .string (⟨#[]⟩ : ByteArray)]) (ok := fun _ => True) (okp := fun _ => True) ?hr ?hp (fun _ hk => hk) trivial (Below.refl _ _) (Nat.le_refl _) (by simp) ?_; (case hd => rfl); (case hg => rfl); (case hr => go_simp); (case hp => exact (Reps.c2 (show Kd.M k98 _ _ _ (⟨(⟨#[105, 100]⟩ : ByteArray), (⟨#[]⟩ : ByteArray)⟩ : S98) [.string (⟨#[105, 100]⟩ : ByteArray), .string (⟨#[]⟩ : ByteArray)] from (k98_mkM _ _ _ (⟨(⟨#[105, 100]⟩ : ByteArray), (⟨#[]⟩ : ByteArray)⟩ : S98) )) (Reps.c2 (show Kd.M k98 _ _ _ (⟨(⟨#[105, 100]⟩ : ByteArray), (⟨#[]⟩ : ByteArray)⟩ : S98) [.string (⟨#[105, 100]⟩ : ByteArray), .string (⟨#[]⟩ : ByteArray)] from (k98_mkM _ _ _ (⟨(⟨#[105, 100]⟩ : ByteArray), (⟨#[]⟩ : ByteArray)⟩ : S98) )) (Reps.none _ _)))); intro v123 w22 ho23 hb hg_ hnew_; clear hg_ hnew_; (first | rw [← Ny122.out] at ho23 | (simp only [Int.reduceToNat] at ho23; rw [← Ny122.out] at ho23)); have n0_ := Ak (Kd.R_elder' HO_3.out (Kd.R_base ho23) hb); have n1_ := Ak (Kd.R_lower (Kd.R_new' ho23 (Kd.R_lt HO_3.out)) (keep_size (w := w) (g := g) (row := none) (HK.out))); have n2_ := Ak (IsS117.below (HI0.out) hb); have n3_ := Ak (KeepBut.trans (HK.out) (KeepBut.of_below hb g none) (.inl rfl)); have n4_ := Ak (below_step (by repeat (first | exact HB.out | apply below_alloc | apply pw_below_drewN | apply below_drew1 | refine below_set ?_ (IsS117.ge HI0.out))) hb); clear HO_3; clear HI0; clear HK; clear HB; have HO_3 := n0_; have HO124 := n1_; have HI0 := n2_; have HK := n3_; have HB := n4_; clear n0_ n1_ n2_ n3_ n4_; clear hb ho23; obtain ⟨Ao25, co25, eo25⟩ := Kd.R_slice HO124.out; subst eo25) | ((with_reducible refine gate_builtin (b := .append) (xs := #[.tmp 25, .tmp 28]) rfl ?_); at_builtin; refine Kd.R_append_rows k98 w.heap.size rfl (.tmp 25) (.tmp 28) 43 98 (.agg #[(.string ⟨#[]⟩), (.string ⟨#[]⟩)]) 32 rfl Try.underlying43 info98 rfl (by decide) (by omega) u3 x3_1 y122 _ _ _ (fun k_ => some k_ ≠ (.slice Ao25 y122.length co25 : Value).ownBlock) (fun _ => False) rfl rfl ?aO ?aR (fun _ _ h => h) (fun _ h => h.elim) ?aF (Below.refl _ _) ?aS ?aL ?_; (case aR => repeat (first | exact (Kd.R_reads' HO124.out).2.2 | (with_reducible refine Kd.C_alloc ?_ _) | (with_reducible refine Kd.C_drewN ?_ _) | (with_reducible refine Kd.C_drew ?_))); (case aF => exact (fun k_ hk => Kd.fresh' (Kd.R_lt HO124.out) k_ hk)); (case aO => exact (by (with_reducible repeat (first | apply Kd.R_alloc | apply Kd.R_drewN | apply Kd.R_drew)); exact Kd.R_mono HO_3.out (fun _ hk => hk.2))); (case aS => exact (keep_size (w := w) (g := g) (row := none) (HK.out))); (case aL => have := LMc19.out; omega); intro v126 w24 ho hb hg hat; rw [← Ny125.out] at ho; have n0_ := Ak (IsS117.grown (HI0.out) hg (IsS117.own_ne HI0.out HO_3.out (by decide))); have n1_ := Ak (Kd.R_after (ok := (fun _ => True)) HO124.out hg hat); have n2_ := Ak (below_weaken (by repeat (first | exact HB.out | apply below_alloc | apply pw_below_drewN | apply below_drew1 | refine below_set ?_ (IsS117.ge HI0.out))) HL.out hb); have n3_ := Ak (KeepBut.trans (HK.out) (KeepBut.of_grown hg g) (Kd.R_base2 HO_3.out)); have n4_ := Ak (ho); clear HI0; clear HO124; clear HB; clear HK; clear HO_3; have HI0 := n0_; have HO124 := n1_; have HB := n2_; have HK := n3_; have HO127 := n4_; clear n0_ n1_ n2_ n3_ n4_; clear ho hb hg hat))
      go_ret
      exact ⟨_, by first | rfl | (simp [*] <;> rfl), by (with_reducible repeat (first | apply Kd.R_alloc | apply Kd.R_drewN | apply Kd.R_drew)); exact Kd.R_mono HO127.out (fun _ hk => trivial), HI0.out, by repeat (first | exact HB.out | apply below_alloc | apply pw_below_drewN | apply below_drew1 | refine below_set ?_ (IsS117.ge HI0.out)), HK.out⟩
     ·rw [if_neg c19] at H
      exact absurd H (by simp)
    ·rw [if_neg c18] at H
     have c18b0 : (t119 == 0) = false := beq_eq_false_iff_ne.mpr c18
     have c18b1 : (t119 != 0) = true := bne_iff_ne.mpr c18
     by_cases c26 : t119 = 1
     ·rw [if_pos c26] at H
      have c26b0 : (t119 == 1) = true := beq_iff_eq.mpr c26
      have c26b1 : (t119 != 1) = false := bne_eq_false_iff_eq.mpr c26
      clear c26
      have H' := Ak H
      clear H
      go_wp2_with (first | ((with_reducible refine gate_callee (f := 101) rfl ?_); refine goesL_ (some 9) rfl rfl Try.func101 (by kernel_rfl) rfl #[.pointer (some ⟨g, 0, none⟩), .int .i64 4] rfl (by (try simp only [List.map_toArray, List.map_cons, List.map_nil]); first | done | rfl | (simp only [List.length_drop, List.length_take]; rfl)) ?_; (with_reducible refine (spec_l1Below.calls g s0_0 x1001_1 x1002_1 4 t104 t105 t106 w0 _ ?side1 ?side2 A4.out).mono ?_); (case side1 => repeat (first | (with_reducible first | exact HI0.out | apply IsS117.alloc | apply IsS117.drewN | apply IsS117.drew | apply IsS117.set_1 | apply IsS117.set_2) | exact HI0.out)); (case side2 => repeat (first | (with_reducible first | exact HB.out | apply below_alloc | apply pw_below_drewN | apply below_drew1 | refine below_set ?_ (IsS117.ge HI0.out)) | exact HB.out)); rintro e w27 ⟨rfl, hi, hb, hk⟩; refine ⟨_, rfl, ?_⟩; have n0_ := Ak (Kd.R_mono (Kd.R_keep (IsS117.apart (show IsS117 w0 _ g s0_0 x1001_1 x1002_1 from HI0.out) HO_3.out (by decide)) hk (fun _ h => h.2)) (fun _ h => h.1)); have n1_ := Ak (KeepBut.trans (HK.out) hk (.inl rfl)); have n2_ := Ak (hb); have n3_ := Ak (hi); clear HO_3; clear HK; clear HB; clear HI0; have HO_3 := n0_; have HK := n1_; have HB := n2_; have HI0 := n3_; clear n0_ n1_ n2_ n3_; (try clear hb)) | ((with_reducible refine gate_callee (f := 101) rfl ?_); refine goesL_ (some 22) rfl rfl Try.func101 (by kernel_rfl) rfl #[.pointer (some ⟨g, 0, none⟩), .int .i64 20] rfl (by (try simp only [List.map_toArray, List.map_cons, List.map_nil]); first | done | rfl | (simp only [List.length_drop, List.length_take]; rfl)) ?_; (with_reducible refine (spec_l1Below.calls g s0_0 t105 t106 20 t119 t120 t121 w0 _ ?side1 ?side2 A17.out).mono ?_); (case side1 => repeat (first | (with_reducible first | exact HI0.out | apply IsS117.alloc | apply IsS117.drewN | apply IsS117.drew | apply IsS117.set_1 | apply IsS117.set_2) | exact HI0.out)); (case side2 => repeat (first | (with_reducible first | exact HB.out | apply below_alloc | apply pw_below_drewN | apply below_drew1 | refine below_set ?_ (IsS117.ge HI0.out)) | exact HB.out)); rintro e w28 ⟨rfl, hi, hb, hk⟩; refine ⟨_, rfl, ?_⟩; have n0_ := Ak (Kd.R_mono (Kd.R_keep (IsS117.apart (show IsS117 w0 _ g s0_0 t105 t106 from HI0.out) HO_3.out (by decide)) hk (fun _ h => h.2)) (fun _ h => h.1)); have n1_ := Ak (KeepBut.trans (HK.out) hk (.inl rfl)); have n2_ := Ak (hb); have n3_ := Ak (hi); clear HO_3; clear HK; clear HB; clear HI0; have HO_3 := n0_; have HK := n1_; have HB := n2_; have HI0 := n3_; clear n0_ n1_ n2_ n3_; (try clear hb)))
      go_loopg [3, 5] k1 (fun kq v3 v5 w' => ∃ (x3_2 : List (S98)) (x5_2 : Int), v5 = .int .i64 x5_2 ∧ Aside0 (spec_l4DrawAttrs.l1 kq x3_2 x5_2 s0_0 t120 t121 = some (r1, r2, r3)) ∧ Aside0 (kq ≤ k1) ∧ Aside0 (Kd.R k98 98 w' w.heap.size (fun _ => True) v3 x3_2) ∧ Aside0 (IsS117 w0 w' g s0_0 t120 t121) ∧ Aside0 (KeepBut w w' g none) ∧ Aside0 (Below w0.heap.size w0 w'))
      case atStart => exact ⟨(x3_1), (0), (by first | rfl | (simp; done) | (simp [*]; done)), H', ⟨Nat.le_refl _⟩, ⟨by (with_reducible repeat (first | apply Kd.R_alloc | apply Kd.R_drewN | apply Kd.R_drew)); exact HO_3.out⟩, ⟨HI0.out⟩, ⟨HK.out⟩, ⟨by repeat (first | exact HB.out | apply below_alloc | apply pw_below_drewN | apply below_drew1 | refine below_set ?_ (IsS117.ge HI0.out))⟩⟩
      case round =>
       clear H'
       try clear c1
       try clear c2
       try clear p2
       try clear c5
       try clear c5b0
       try clear p6
       try clear c10
       try clear c13
       try clear c14
       try clear c18
       try clear c18b0
       try clear c18b1
       try clear c19
       try clear c26
       try clear c26b0
       try clear c26b1
       try clear p2
       obtain ⟨x3_2, x5_2, rfl, HA, HK2, HO_3, HI0, HK, HB⟩ := hrel
       cases gk with
       | zero => exact absurd HA.out (by simp [spec_l4DrawAttrs.l1])
       | succ k2 =>
        have H := HA.out
        clear HA
        simp only [spec_l4DrawAttrs.l1] at H
        by_cases c29 : x5_2 < 21
        ·rw [if_pos c29] at H
         have c29b0 : decide (x5_2 < 21) = true := decide_eq_true c29
         clear c29
         obtain ⟨y128, hy128⟩ : ∃ y_ : List Int, y_ = (([(wrap64 (97 + x5_2)) % 256] : List Int)) := ⟨_, rfl⟩
         replace H : (if x3_2.length < 4398046511104 then (spec_l4DrawAttrs.l1 k2 (x3_2 ++ [(⟨strOfNums y128, (⟨#[]⟩ : ByteArray)⟩ : S98)]) (wrap64 (x5_2 + 1)) s0_0 t120 t121) else (none)) = some (r1, r2, r3) := by first | (rw [hy128]; with_reducible exact H) | (have H2_ := (Option.bind_some _ _).symm.trans H; rw [hy128]; with_reducible exact H2_) | (have H2_ := (Option.bind_some _ _).symm.trans H; with_reducible exact H2_) | with_reducible exact H | (rw [hy128]; exact H) | exact H
         have Ny128 := Ak hy128
         clear hy128
         by_cases c30 : x3_2.length < 4398046511104
         ·rw [if_pos c30] at H
          have LMc30 := Ak c30
          clear c30
          obtain ⟨y131, hy131⟩ : ∃ y_ : List (S98), y_ = (x3_2 ++ [(⟨strOfNums y128, (⟨#[]⟩ : ByteArray)⟩ : S98)]) := ⟨_, rfl⟩
          replace H : (spec_l4DrawAttrs.l1 k2 y131 (wrap64 (x5_2 + 1)) s0_0 t120 t121) = some (r1, r2, r3) := by first | (rw [hy131]; with_reducible exact H) | (have H2_ := (Option.bind_some _ _).symm.trans H; rw [hy131]; with_reducible exact H2_) | (have H2_ := (Option.bind_some _ _).symm.trans H; with_reducible exact H2_) | with_reducible exact H | (rw [hy131]; exact H) | exact H
          have Ny131 := Ak hy131
          clear hy131
          have H' := Ak H
          clear H
          go_wp2_with (first | ((with_reducible refine gate_dst (N := 40) rfl ?_); refine Kd.R_lit (Kd.int .u8) _ 5 ?hg (N := 40) ?hd (xs := ([(wrap64 (97 + x5_2)) % 256] : List Int)) (inner := [.int .u8 ((wrap64 (97 + x5_2)) % 256)]) (ok := fun _ => True) (okp := fun _ => True) ?hr ?hp (fun _ hk => hk) trivial (Below.refl _ _) (Nat.le_refl _) (by simp) ?_; (case hd => rfl); (case hg => rfl); (case hr => go_simp); (case hp => exact (Reps.one (show Kd.M (Kd.int .u8) _ _ _ ((wrap64 (97 + x5_2)) % 256) [.int .u8 ((wrap64 (97 + x5_2)) % 256)] from rfl) (Reps.none _ _))); intro v129 w31 ho32 hb hg_ hnew_; clear hg_ hnew_; (first | rw [← Ny128.out] at ho32 | (simp only [Int.reduceToNat] at ho32; rw [← Ny128.out] at ho32)); have n0_ := Ak (Kd.R_below HO_3.out hb); have n1_ := Ak (Kd.R_lower ho32 (keep_size (w := w) (g := g) (row := none) (HK.out))); have n2_ := Ak (IsS117.below (HI0.out) hb); have n3_ := Ak (KeepBut.trans (HK.out) (KeepBut.of_below hb g none) (.inl rfl)); have n4_ := Ak (below_step (by repeat (first | exact HB.out | apply below_alloc | apply pw_below_drewN | apply below_drew1 | refine below_set ?_ (IsS117.ge HI0.out))) hb); clear HO_3; clear HI0; clear HK; clear HB; have HO_3 := n0_; have HO130 := n1_; have HI0 := n2_; have HK := n3_; have HB := n4_; clear n0_ n1_ n2_ n3_ n4_; clear hb ho32; have hcv33 := own_string (P := Try.prog) Try.underlying52 Try.underlying5 Try.underlying9 (Kd.own_of_R HO130.out)) | ((with_reducible refine gate_builtin (b := .append) (xs := #[.tmp 36, .tmp 43]) rfl ?_); at_builtin; refine Kd.R_append k98 w.heap.size rfl (.tmp 36) (.tmp 43) 43 98 (.agg #[(.string ⟨#[]⟩), (.string ⟨#[]⟩)]) 32 rfl Try.underlying43 info98 rfl (by decide) (by omega) u3 x3_2 (⟨strOfNums y128, (⟨#[]⟩ : ByteArray)⟩ : S98) [.string (strOfNums y128), .string (⟨#[]⟩ : ByteArray)] (fun _ => True) (fun _ => False) rfl rfl ?aP (fun _ hk => hk.elim) ?aF ?aO (Below.refl _ _) ?aS ?aL ?_; (case aP => exact k98_mkM _ _ _ (⟨strOfNums y128, (⟨#[]⟩ : ByteArray)⟩ : S98)); (case aF => exact (fun _ _ => trivial)); (case aO => exact HO_3.out); (case aS => exact (keep_size (w := w) (g := g) (row := none) (HK.out))); (case aL => have := LMc30.out; omega); intro v132 w34 ho hb hg hat; rw [← Ny131.out] at ho; have n0_ := Ak (IsS117.grown (HI0.out) hg (IsS117.own_ne HI0.out HO_3.out (by decide))); have n1_ := Ak (Kd.R_over' HO130.out (Kd.R_typed HO_3.out) (by decide) hg); have n2_ := Ak (below_weaken (by repeat (first | exact HB.out | apply below_alloc | apply pw_below_drewN | apply below_drew1 | refine below_set ?_ (IsS117.ge HI0.out))) HL.out hb); have n3_ := Ak (KeepBut.trans (HK.out) (KeepBut.of_grown hg g) (Kd.R_base2 HO_3.out)); have n4_ := Ak (ho); clear HI0; clear HO130; clear HB; clear HK; clear HO_3; have HI0 := n0_; have HO130 := n1_; have HB := n2_; have HK := n3_; have HO133 := n4_; clear n0_ n1_ n2_ n3_ n4_; clear ho hb hg hat))
          go_roundg k2
          case measure => have := HK1.out; have := HK2.out; omega
          case rel => exact ⟨(y131), (wrap64 (x5_2 + 1)), (by first | rfl | (simp; done) | (simp [*]; done)), H', ⟨by have := HK1.out; have := HK2.out; omega⟩, ⟨by (with_reducible repeat (first | apply Kd.R_alloc | apply Kd.R_drewN | apply Kd.R_drew)); exact HO133.out⟩, ⟨HI0.out⟩, ⟨HK.out⟩, ⟨by repeat (first | exact HB.out | apply below_alloc | apply pw_below_drewN | apply below_drew1 | refine below_set ?_ (IsS117.ge HI0.out))⟩⟩
         ·rw [if_neg c30] at H
          exact absurd H (by simp)
        ·rw [if_neg c29] at H
         have c29b0 : decide (x5_2 < 21) = false := decide_eq_false c29
         clear c29
         simp only [Option.some.injEq, Prod.mk.injEq] at H
         obtain ⟨rfl, rfl, rfl⟩ := H
         go_wp2
         go_ret
         exact ⟨_, by first | rfl | (simp [*] <;> rfl), by (with_reducible repeat (first | apply Kd.R_alloc | apply Kd.R_drewN | apply Kd.R_drew)); exact HO_3.out, HI0.out, by repeat (first | exact HB.out | apply below_alloc | apply pw_below_drewN | apply below_drew1 | refine below_set ?_ (IsS117.ge HI0.out)), HK.out⟩
     ·rw [if_neg c26] at H
      have c26b0 : (t119 == 1) = false := beq_eq_false_iff_ne.mpr c26
      have c26b1 : (t119 != 1) = true := bne_iff_ne.mpr c26
      by_cases c35 : t119 = 2
      ·rw [if_pos c35] at H
       have c35b0 : (t119 == 2) = true := beq_iff_eq.mpr c35
       have c35b1 : (t119 != 2) = false := bne_eq_false_iff_eq.mpr c35
       clear c35
       replace H := Option.bind_eq_some_iff.mp H
       obtain ⟨⟨t134, t135, t136⟩, A360, H⟩ := H
       replace H : (if 0 ≤ (wrap64 (3000 + t134)) then (if (wrap64 (3000 + t134) : Int).toNat ≤ 281474976710656 then (if x3_1.length < 4398046511104 then (some ((x3_1 ++ [(⟨(⟨#[118]⟩ : ByteArray), strOfNums (List.replicate (wrap64 (3000 + t134) : Int).toNat 0)⟩ : S98)]), t135, t136)) else (none)) else (none)) else (none)) = some (r1, r2, r3) := H
       have A36 := Ak A360
       clear A360
       obtain ⟨ji37, hji37⟩ : ∃ j_ : Int, (wrap64 (3000 + t134)) = j_ := ⟨_, rfl⟩
       replace H : (if 0 ≤ (ji37) then (if (ji37 : Int).toNat ≤ 281474976710656 then (if x3_1.length < 4398046511104 then (some ((x3_1 ++ [(⟨(⟨#[118]⟩ : ByteArray), strOfNums (List.replicate (ji37 : Int).toNat 0)⟩ : S98)]), t135, t136)) else (none)) else (none)) else (none)) = some (r1, r2, r3) := by first | (rw [hji37] at H; exact H) | (simp only [hji37] at H ⊢; exact H)
       (try rw [hji37] at A4)
       (try rw [hji37] at A17)
       (try rw [hji37] at A36)
       have hji37w : (IntKind.i64.wrap (3000 + t134)) = ji37 := (i64_w _).trans hji37
       by_cases c38 : 0 ≤ (ji37)
       ·rw [if_pos c38] at H
        have c38b0 := eq_true c38
        have c38b1 : decide (0 ≤ (ji37)) = true := decide_eq_true c38
        clear c38
        by_cases c39 : (ji37 : Int).toNat ≤ 281474976710656
        ·rw [if_pos c39] at H
         have c39b0 := eq_true c39
         have c39b1 : decide ((ji37 : Int).toNat ≤ 281474976710656) = true := decide_eq_true c39
         clear c39
         obtain ⟨y137, hy137⟩ : ∃ y_ : List Int, y_ = (List.replicate (ji37 : Int).toNat 0) := ⟨_, rfl⟩
         replace H : (if x3_1.length < 4398046511104 then (some ((x3_1 ++ [(⟨(⟨#[118]⟩ : ByteArray), strOfNums y137⟩ : S98)]), t135, t136)) else (none)) = some (r1, r2, r3) := by first | (rw [hy137]; with_reducible exact H) | (have H2_ := (Option.bind_some _ _).symm.trans H; rw [hy137]; with_reducible exact H2_) | (have H2_ := (Option.bind_some _ _).symm.trans H; with_reducible exact H2_) | with_reducible exact H | (rw [hy137]; exact H) | exact H
         have Ny137 := Ak hy137
         clear hy137
         by_cases c40 : x3_1.length < 4398046511104
         ·rw [if_pos c40] at H
          have LMc40 := Ak c40
          clear c40
          obtain ⟨y140, hy140⟩ : ∃ y_ : List (S98), y_ = (x3_1 ++ [(⟨(⟨#[118]⟩ : ByteArray), strOfNums y137⟩ : S98)]) := ⟨_, rfl⟩
          replace H : (some (y140, t135, t136)) = some (r1, r2, r3) := by first | (rw [hy140]; with_reducible exact H) | (have H2_ := (Option.bind_some _ _).symm.trans H; rw [hy140]; with_reducible exact H2_) | (have H2_ := (Option.bind_some _ _).symm.trans H; with_reducible exact H2_) | with_reducible exact H | (rw [hy140]; exact H) | exact H
          have Ny140 := Ak hy140
          clear hy140
          simp only [Option.some.injEq, Prod.mk.injEq] at H
          obtain ⟨rfl, rfl, rfl⟩ := H
          go_wp2_with (first | ((with_reducible refine gate_callee (f := 101) rfl ?_); refine goesL_ (some 9) rfl rfl Try.func101 (by kernel_rfl) rfl #[.pointer (some ⟨g, 0, none⟩), .int .i64 4] rfl (by (try simp only [List.map_toArray, List.map_cons, List.map_nil]); first | done | rfl | (simp only [List.length_drop, List.length_take]; rfl)) ?_; (with_reducible refine (spec_l1Below.calls g s0_0 x1001_1 x1002_1 4 t104 t105 t106 w0 _ ?side1 ?side2 A4.out).mono ?_); (case side1 => repeat (first | (with_reducible first | exact HI0.out | apply IsS117.alloc | apply IsS117.drewN | apply IsS117.drew | apply IsS117.set_1 | apply IsS117.set_2) | exact HI0.out)); (case side2 => repeat (first | (with_reducible first | exact HB.out | apply below_alloc | apply pw_below_drewN | apply below_drew1 | refine below_set ?_ (IsS117.ge HI0.out)) | exact HB.out)); rintro e w41 ⟨rfl, hi, hb, hk⟩; refine ⟨_, rfl, ?_⟩; have n0_ := Ak (Kd.R_mono (Kd.R_keep (IsS117.apart (show IsS117 w0 _ g s0_0 x1001_1 x1002_1 from HI0.out) HO_3.out (by decide)) hk (fun _ h => h.2)) (fun _ h => h.1)); have n1_ := Ak (KeepBut.trans (HK.out) hk (.inl rfl)); have n2_ := Ak (hb); have n3_ := Ak (hi); clear HO_3; clear HK; clear HB; clear HI0; have HO_3 := n0_; have HK := n1_; have HB := n2_; have HI0 := n3_; clear n0_ n1_ n2_ n3_; (try clear hb)) | ((with_reducible refine gate_callee (f := 101) rfl ?_); refine goesL_ (some 22) rfl rfl Try.func101 (by kernel_rfl) rfl #[.pointer (some ⟨g, 0, none⟩), .int .i64 20] rfl (by (try simp only [List.map_toArray, List.map_cons, List.map_nil]); first | done | rfl | (simp only [List.length_drop, List.length_take]; rfl)) ?_; (with_reducible refine (spec_l1Below.calls g s0_0 t105 t106 20 t119 t120 t121 w0 _ ?side1 ?side2 A17.out).mono ?_); (case side1 => repeat (first | (with_reducible first | exact HI0.out | apply IsS117.alloc | apply IsS117.drewN | apply IsS117.drew | apply IsS117.set_1 | apply IsS117.set_2) | exact HI0.out)); (case side2 => repeat (first | (with_reducible first | exact HB.out | apply below_alloc | apply pw_below_drewN | apply below_drew1 | refine below_set ?_ (IsS117.ge HI0.out)) | exact HB.out)); rintro e w42 ⟨rfl, hi, hb, hk⟩; refine ⟨_, rfl, ?_⟩; have n0_ := Ak (Kd.R_mono (Kd.R_keep (IsS117.apart (show IsS117 w0 _ g s0_0 t105 t106 from HI0.out) HO_3.out (by decide)) hk (fun _ h => h.2)) (fun _ h => h.1)); have n1_ := Ak (KeepBut.trans (HK.out) hk (.inl rfl)); have n2_ := Ak (hb); have n3_ := Ak (hi); clear HO_3; clear HK; clear HB; clear HI0; have HO_3 := n0_; have HK := n1_; have HB := n2_; have HI0 := n3_; clear n0_ n1_ n2_ n3_; (try clear hb)) | ((with_reducible refine gate_callee (f := 101) rfl ?_); refine goesL_ (some 49) rfl rfl Try.func101 (by kernel_rfl) rfl #[.pointer (some ⟨g, 0, none⟩), .int .i64 2] rfl (by (try simp only [List.map_toArray, List.map_cons, List.map_nil]); first | done | rfl | (simp only [List.length_drop, List.length_take]; rfl)) ?_; (with_reducible refine (spec_l1Below.calls g s0_0 t120 t121 2 t134 t135 t136 w0 _ ?side1 ?side2 A36.out).mono ?_); (case side1 => repeat (first | (with_reducible first | exact HI0.out | apply IsS117.alloc | apply IsS117.drewN | apply IsS117.drew | apply IsS117.set_1 | apply IsS117.set_2) | exact HI0.out)); (case side2 => repeat (first | (with_reducible first | exact HB.out | apply below_alloc | apply pw_below_drewN | apply below_drew1 | refine below_set ?_ (IsS117.ge HI0.out)) | exact HB.out)); rintro e w43 ⟨rfl, hi, hb, hk⟩; refine ⟨_, rfl, ?_⟩; have n0_ := Ak (Kd.R_mono (Kd.R_keep (IsS117.apart (show IsS117 w0 _ g s0_0 t120 t121 from HI0.out) HO_3.out (by decide)) hk (fun _ h => h.2)) (fun _ h => h.1)); have n1_ := Ak (KeepBut.trans (HK.out) hk (.inl rfl)); have n2_ := Ak (hb); have n3_ := Ak (hi); clear HO_3; clear HK; clear HB; clear HI0; have HO_3 := n0_; have HK := n1_; have HB := n2_; have HI0 := n3_; clear n0_ n1_ n2_ n3_; (try clear hb)) | ((with_reducible refine gate_dst (N := 51) rfl ?_); refine Kd.R_make (Kd.int .u8) _ 5 rfl (N := 51) rfl 52 _ _ rfl ji37 rfl rfl Try.underlying52 (.int .u8 0) 1 info5 rfl (by decide) (by omega) 0 (ok := fun _ => True) (okp := fun _ => True) rfl (fun _ hk => hk) trivial (of_decide_eq_true (by assumption)) (Nat.le_trans (Nat.mul_le_mul_right _ (of_decide_eq_true (by assumption) : ji37.toNat ≤ 281474976710656)) (by omega)) (Below.refl _ _) (Nat.le_refl _) ?_; intro v138 w44 ho45 hb hg_ hnew_; clear hg_ hnew_; (first | rw [← Ny137.out] at ho45 | (simp only [Int.reduceToNat] at ho45; rw [← Ny137.out] at ho45)); have n0_ := Ak (Kd.R_below HO_3.out hb); have n1_ := Ak (Kd.R_lower ho45 (keep_size (w := w) (g := g) (row := none) (HK.out))); have n2_ := Ak (IsS117.below (HI0.out) hb); have n3_ := Ak (KeepBut.trans (HK.out) (KeepBut.of_below hb g none) (.inl rfl)); have n4_ := Ak (below_step (by repeat (first | exact HB.out | apply below_alloc | apply pw_below_drewN | apply below_drew1 | refine below_set ?_ (IsS117.ge HI0.out))) hb); clear HO_3; clear HI0; clear HK; clear HB; have HO_3 := n0_; have HO139 := n1_; have HI0 := n2_; have HK := n3_; have HB := n4_; clear n0_ n1_ n2_ n3_ n4_; clear hb ho45; have hcv46 := own_string (P := Try.prog) Try.underlying52 Try.underlying5 Try.underlying9 (Kd.own_of_R HO139.out)) | ((with_reducible refine gate_builtin (b := .append) (xs := #[.tmp 47, .tmp 54]) rfl ?_); at_builtin; refine Kd.R_append k98 w.heap.size rfl (.tmp 47) (.tmp 54) 43 98 (.agg #[(.string ⟨#[]⟩), (.string ⟨#[]⟩)]) 32 rfl Try.underlying43 info98 rfl (by decide) (by omega) u3 x3_1 (⟨(⟨#[118]⟩ : ByteArray), strOfNums y137⟩ : S98) [.string (⟨#[118]⟩ : ByteArray), .string (strOfNums y137)] (fun _ => True) (fun _ => False) rfl rfl ?aP (fun _ hk => hk.elim) ?aF ?aO (Below.refl _ _) ?aS ?aL ?_; (case aP => exact k98_mkM _ _ _ (⟨(⟨#[118]⟩ : ByteArray), strOfNums y137⟩ : S98)); (case aF => exact (fun _ _ => trivial)); (case aO => exact HO_3.out); (case aS => exact (keep_size (w := w) (g := g) (row := none) (HK.out))); (case aL => have := LMc40.out; omega); intro v141 w47 ho hb hg hat; rw [← Ny140.out] at ho; have n0_ := Ak (IsS117.grown (HI0.out) hg (IsS117.own_ne HI0.out HO_3.out (by decide))); have n1_ := Ak (Kd.R_over' HO139.out (Kd.R_typed HO_3.out) (by decide) hg); have n2_ := Ak (below_weaken (by repeat (first | exact HB.out | apply below_alloc | apply pw_below_drewN | apply below_drew1 | refine below_set ?_ (IsS117.ge HI0.out))) HL.out hb); have n3_ := Ak (KeepBut.trans (HK.out) (KeepBut.of_grown hg g) (Kd.R_base2 HO_3.out)); have n4_ := Ak (ho); clear HI0; clear HO139; clear HB; clear HK; clear HO_3; have HI0 := n0_; have HO139 := n1_; have HB := n2_; have HK := n3_; have HO142 := n4_; clear n0_ n1_ n2_ n3_ n4_; clear ho hb hg hat))
          go_ret
          exact ⟨_, by first | rfl | (simp [errW_none, errW_some] <;> rfl) | (simp only [← hji37]; first | rfl | (simp [errW_none, errW_some] <;> rfl)) | (simp [*, errW_none, errW_some] <;> rfl), by (with_reducible repeat (first | apply Kd.R_alloc | apply Kd.R_drewN | apply Kd.R_drew)); exact HO142.out, HI0.out, by repeat (first | exact HB.out | apply below_alloc | apply pw_below_drewN | apply below_drew1 | refine below_set ?_ (IsS117.ge HI0.out)), HK.out⟩
         ·rw [if_neg c40] at H
          exact absurd H (by simp)
        ·rw [if_neg c39] at H
         exact absurd H (by simp)
       ·rw [if_neg c38] at H
        exact absurd H (by simp)
      ·rw [if_neg c35] at H
       have c35b0 : (t119 == 2) = false := beq_eq_false_iff_ne.mpr c35
       have c35b1 : (t119 != 2) = true := bne_iff_ne.mpr c35
       by_cases c48 : t119 = 3
       ·rw [if_pos c48] at H
        have c48b0 : (t119 == 3) = true := beq_iff_eq.mpr c48
        have c48b1 : (t119 != 3) = false := bne_eq_false_iff_eq.mpr c48
        clear c48
        by_cases c49 : x3_1.length < 4398046511104
        ·rw [if_pos c49] at H
         have LMc49 := Ak c49
         clear c49
         obtain ⟨y143, hy143⟩ : ∃ y_ : List (S98), y_ = (x3_1 ++ [(⟨(⟨#[117]⟩ : ByteArray), (⟨#[255]⟩ : ByteArray)⟩ : S98)]) := ⟨_, rfl⟩
         replace H : (some (y143, t120, t121)) = some (r1, r2, r3) := by first | (rw [hy143]; with_reducible exact H) | (have H2_ := (Option.bind_some _ _).symm.trans H; rw [hy143]; with_reducible exact H2_) | (have H2_ := (Option.bind_some _ _).symm.trans H; with_reducible exact H2_) | with_reducible exact H | (rw [hy143]; exact H) | exact H
         have Ny143 := Ak hy143
         clear hy143
         simp only [Option.some.injEq, Prod.mk.injEq] at H
         obtain ⟨rfl, rfl, rfl⟩ := H
         go_wp2_with (first | ((with_reducible refine gate_callee (f := 101) rfl ?_); refine goesL_ (some 9) rfl rfl Try.func101 (by kernel_rfl) rfl #[.pointer (some ⟨g, 0, none⟩), .int .i64 4] rfl (by (try simp only [List.map_toArray, List.map_cons, List.map_nil]); first | done | rfl | (simp only [List.length_drop, List.length_take]; rfl)) ?_; (with_reducible refine (spec_l1Below.calls g s0_0 x1001_1 x1002_1 4 t104 t105 t106 w0 _ ?side1 ?side2 A4.out).mono ?_); (case side1 => repeat (first | (with_reducible first | exact HI0.out | apply IsS117.alloc | apply IsS117.drewN | apply IsS117.drew | apply IsS117.set_1 | apply IsS117.set_2) | exact HI0.out)); (case side2 => repeat (first | (with_reducible first | exact HB.out | apply below_alloc | apply pw_below_drewN | apply below_drew1 | refine below_set ?_ (IsS117.ge HI0.out)) | exact HB.out)); rintro e w50 ⟨rfl, hi, hb, hk⟩; refine ⟨_, rfl, ?_⟩; have n0_ := Ak (Kd.R_mono (Kd.R_keep (IsS117.apart (show IsS117 w0 _ g s0_0 x1001_1 x1002_1 from HI0.out) HO_3.out (by decide)) hk (fun _ h => h.2)) (fun _ h => h.1)); have n1_ := Ak (KeepBut.trans (HK.out) hk (.inl rfl)); have n2_ := Ak (hb); have n3_ := Ak (hi); clear HO_3; clear HK; clear HB; clear HI0; have HO_3 := n0_; have HK := n1_; have HB := n2_; have HI0 := n3_; clear n0_ n1_ n2_ n3_; (try clear hb)) | ((with_reducible refine gate_callee (f := 101) rfl ?_); refine goesL_ (some 22) rfl rfl Try.func101 (by kernel_rfl) rfl #[.pointer (some ⟨g, 0, none⟩), .int .i64 20] rfl (by (try simp only [List.map_toArray, List.map_cons, List.map_nil]); first | done | rfl | (simp only [List.length_drop, List.length_take]; rfl)) ?_; (with_reducible refine (spec_l1Below.calls g s0_0 t105 t106 20 t119 t120 t121 w0 _ ?side1 ?side2 A17.out).mono ?_); (case side1 => repeat (first | (with_reducible first | exact HI0.out | apply IsS117.alloc | apply IsS117.drewN | apply IsS117.drew | apply IsS117.set_1 | apply IsS117.set_2) | exact HI0.out)); (case side2 => repeat (first | (with_reducible first | exact HB.out | apply below_alloc | apply pw_below_drewN | apply below_drew1 | refine below_set ?_ (IsS117.ge HI0.out)) | exact HB.out)); rintro e w51 ⟨rfl, hi, hb, hk⟩; refine ⟨_, rfl, ?_⟩; have n0_ := Ak (Kd.R_mono (Kd.R_keep (IsS117.apart (show IsS117 w0 _ g s0_0 t105 t106 from HI0.out) HO_3.out (by decide)) hk (fun _ h => h.2)) (fun _ h => h.1)); have n1_ := Ak (KeepBut.trans (HK.out) hk (.inl rfl)); have n2_ := Ak (hb); have n3_ := Ak (hi); clear HO_3; clear HK; clear HB; clear HI0; have HO_3 := n0_; have HK := n1_; have HB := n2_; have HI0 := n3_; clear n0_ n1_ n2_ n3_; (try clear hb)) | ((with_reducible refine gate_builtin (b := .append) (xs := #[.tmp 58, .tmp 60]) rfl ?_); at_builtin; refine Kd.R_append k98 w.heap.size rfl (.tmp 58) (.tmp 60) 43 98 (.agg #[(.string ⟨#[]⟩), (.string ⟨#[]⟩)]) 32 rfl Try.underlying43 info98 rfl (by decide) (by omega) u3 x3_1 (⟨(⟨#[117]⟩ : ByteArray), (⟨#[255]⟩ : ByteArray)⟩ : S98) [.string (⟨#[117]⟩ : ByteArray), .string (⟨#[255]⟩ : ByteArray)] (fun _ => True) (fun _ => False) rfl rfl ?aP (fun _ hk => hk.elim) ?aF ?aO (Below.refl _ _) ?aS ?aL ?_; (case aP => exact k98_mkM _ _ _ (⟨(⟨#[117]⟩ : ByteArray), (⟨#[255]⟩ : ByteArray)⟩ : S98)); (case aF => exact (fun _ _ => trivial)); (case aO => exact HO_3.out); (case aS => exact (keep_size (w := w) (g := g) (row := none) (HK.out))); (case aL => have := LMc49.out; omega); intro v144 w52 ho hb hg hat; rw [← Ny143.out] at ho; have n0_ := Ak (IsS117.grown (HI0.out) hg (IsS117.own_ne HI0.out HO_3.out (by decide))); have n1_ := Ak (below_weaken (by repeat (first | exact HB.out | apply below_alloc | apply pw_below_drewN | apply below_drew1 | refine below_set ?_ (IsS117.ge HI0.out))) HL.out hb); have n2_ := Ak (KeepBut.trans (HK.out) (KeepBut.of_grown hg g) (Kd.R_base2 HO_3.out)); have n3_ := Ak (ho); clear HI0; clear HB; clear HK; clear HO_3; have HI0 := n0_; have HB := n1_; have HK := n2_; have HO145 := n3_; clear n0_ n1_ n2_ n3_; clear ho hb hg hat))
         go_ret
         exact ⟨_, by first | rfl | (simp [*] <;> rfl), by (with_reducible repeat (first | apply Kd.R_alloc | apply Kd.R_drewN | apply Kd.R_drew)); exact HO145.out, HI0.out, by repeat (first | exact HB.out | apply below_alloc | apply pw_below_drewN | apply below_drew1 | refine below_set ?_ (IsS117.ge HI0.out)), HK.out⟩
        ·rw [if_neg c49] at H
         exact absurd H (by simp)
       ·rw [if_neg c48] at H
        have c48b0 : (t119 == 3) = false := beq_eq_false_iff_ne.mpr c48
        have c48b1 : (t119 != 3) = true := bne_iff_ne.mpr c48
        simp only [Option.some.injEq, Prod.mk.injEq] at H
        obtain ⟨rfl, rfl, rfl⟩ := H
        go_wp2_with (first | ((with_reducible refine gate_callee (f := 101) rfl ?_); refine goesL_ (some 9) rfl rfl Try.func101 (by kernel_rfl) rfl #[.pointer (some ⟨g, 0, none⟩), .int .i64 4] rfl (by (try simp only [List.map_toArray, List.map_cons, List.map_nil]); first | done | rfl | (simp only [List.length_drop, List.length_take]; rfl)) ?_; (with_reducible refine (spec_l1Below.calls g s0_0 x1001_1 x1002_1 4 t104 t105 t106 w0 _ ?side1 ?side2 A4.out).mono ?_); (case side1 => repeat (first | (with_reducible first | exact HI0.out | apply IsS117.alloc | apply IsS117.drewN | apply IsS117.drew | apply IsS117.set_1 | apply IsS117.set_2) | exact HI0.out)); (case side2 => repeat (first | (with_reducible first | exact HB.out | apply below_alloc | apply pw_below_drewN | apply below_drew1 | refine below_set ?_ (IsS117.ge HI0.out)) | exact HB.out)); rintro e w53 ⟨rfl, hi, hb, hk⟩; refine ⟨_, rfl, ?_⟩; have n0_ := Ak (Kd.R_mono (Kd.R_keep (IsS117.apart (show IsS117 w0 _ g s0_0 x1001_1 x1002_1 from HI0.out) HO_3.out (by decide)) hk (fun _ h => h.2)) (fun _ h => h.1)); have n1_ := Ak (KeepBut.trans (HK.out) hk (.inl rfl)); have n2_ := Ak (hb); have n3_ := Ak (hi); clear HO_3; clear HK; clear HB; clear HI0; have HO_3 := n0_; have HK := n1_; have HB := n2_; have HI0 := n3_; clear n0_ n1_ n2_ n3_; (try clear hb)) | ((with_reducible refine gate_callee (f := 101) rfl ?_); refine goesL_ (some 22) rfl rfl Try.func101 (by kernel_rfl) rfl #[.pointer (some ⟨g, 0, none⟩), .int .i64 20] rfl (by (try simp only [List.map_toArray, List.map_cons, List.map_nil]); first | done | rfl | (simp only [List.length_drop, List.length_take]; rfl)) ?_; (with_reducible refine (spec_l1Below.calls g s0_0 t105 t106 20 t119 t120 t121 w0 _ ?side1 ?side2 A17.out).mono ?_); (case side1 => repeat (first | (with_reducible first | exact HI0.out | apply IsS117.alloc | apply IsS117.drewN | apply IsS117.drew | apply IsS117.set_1 | apply IsS117.set_2) | exact HI0.out)); (case side2 => repeat (first | (with_reducible first | exact HB.out | apply below_alloc | apply pw_below_drewN | apply below_drew1 | refine below_set ?_ (IsS117.ge HI0.out)) | exact HB.out)); rintro e w54 ⟨rfl, hi, hb, hk⟩; refine ⟨_, rfl, ?_⟩; have n0_ := Ak (Kd.R_mono (Kd.R_keep (IsS117.apart (show IsS117 w0 _ g s0_0 t105 t106 from HI0.out) HO_3.out (by decide)) hk (fun _ h => h.2)) (fun _ h => h.1)); have n1_ := Ak (KeepBut.trans (HK.out) hk (.inl rfl)); have n2_ := Ak (hb); have n3_ := Ak (hi); clear HO_3; clear HK; clear HB; clear HI0; have HO_3 := n0_; have HK := n1_; have HB := n2_; have HI0 := n3_; clear n0_ n1_ n2_ n3_; (try clear hb)))
        go_ret
        exact ⟨_, by first | rfl | (simp [*] <;> rfl), by (with_reducible repeat (first | apply Kd.R_alloc | apply Kd.R_drewN | apply Kd.R_drew)); exact HO_3.out, HI0.out, by repeat (first | exact HB.out | apply below_alloc | apply pw_below_drewN | apply below_drew1 | refine below_set ?_ (IsS117.ge HI0.out)), HK.out⟩
theorem NodW.over {w W : World} {gb : Nat} {a0 a1 a2 a3 a4 a5 : Value} {x : S45} {v2 v5 : Value} (hblk : W.heap[gb]? = some (.cells #[a0, a1, a2, a3, a4, a5] 45 (0, 0))) (q2 : Kd.R k98 98 W w.heap.size (fun k => k ≠ gb) v2 x.f2) (q5 : Kd.R (Kd.int .i64) 3 W w.heap.size (fun k => k ≠ gb) v5 x.f5) (low : Below w.heap.size w W) (hge : w.heap.size ≤ gb) : NodW w (fillN W gb x v2 v5) gb x v2 v5 := by
 have f2 : ∀ k, k ≠ gb → k ≠ gb := fun _ h => h
 refine ⟨fillN_blk x v2 v5 hblk, ?_, ?_, fillN_below x v2 v5 low hge, hge⟩
 ·exact Kd.R_far (p := ⟨gb, 5, none⟩) (Kd.R_far (p := ⟨gb, 4, none⟩) (Kd.R_far (p := ⟨gb, 3, none⟩) (Kd.R_far (p := ⟨gb, 2, none⟩) (Kd.R_far (p := ⟨gb, 1, none⟩) (Kd.R_far (p := ⟨gb, 0, none⟩) q2 f2 _) f2 _) f2 _) f2 _) f2 _) f2 _
 ·exact Kd.R_far (p := ⟨gb, 5, none⟩) (Kd.R_far (p := ⟨gb, 4, none⟩) (Kd.R_far (p := ⟨gb, 3, none⟩) (Kd.R_far (p := ⟨gb, 2, none⟩) (Kd.R_far (p := ⟨gb, 1, none⟩) (Kd.R_far (p := ⟨gb, 0, none⟩) q5 f2 _) f2 _) f2 _) f2 _) f2 _) f2 _
section
variable {P : Program} {ops : Array Oper} {md : Region.Mode} {Q : Exit → Act → World → Prop} {S : World → Prop}
def lastWaits (md : Region.Mode) (ops : Array Oper) (n i : Nat) : Bool := ((ops[n]?).map fun o => o.after.any fun e => Region.binds md e && e.on == i).getD false
theorem lastWaits_spec {n i : Nat} (h : lastWaits md ops n i = true) : ∃ o, ops[n]? = some o ∧ ∃ e ∈ o.after, Region.binds md e = true ∧ e.on = i := by
 unfold lastWaits at h
 cases hn : ops[n]? with
 | none => rw [hn] at h; cases h
 | some o =>
  rw [hn] at h
  simp only [Option.map_some, Option.getD_some] at h
  obtain ⟨e, he, hb⟩ := Array.any_eq_true'.1 h
  simp only [Bool.and_eq_true, beq_iff_eq] at hb
  exact ⟨o, rfl, e, he, hb.1, hb.2⟩
theorem getD_un {listed : Array Bool} {i : Nat} (h : listed.getD i true = false) : listed.getD i false = false := by
 rcases Nat.lt_or_ge i listed.size with h' | h'
 ·simp [h'] at h ⊢; exact h
 ·simp [Array.getElem?_eq_none h'] at h
def wpAnyN (P : Program) (md : Region.Mode) (ops : Array Oper) (Q : Exit → Act → World → Prop) (S : World → Prop) (n : Nat) : Nat → Array Bool → Act → World → Prop
 | 0, listed, a, w => Region.ready md ops listed = [] ∧ Q .normal a w
 | fuel + 1, listed, a, w =>
  (Region.ready md ops listed = [] → Q .normal a w) ∧
  ∀ i ∈ Region.ready md ops listed, wpOp P ops Q i (fun a' w' => (i ≠ n → S w') ∧ wpAnyN P md ops Q S n fuel (listed.setIfInBounds i true) a' w') a w
theorem wpAny_of_N {n : Nat} : ∀ (fuel : Nat) (listed : Array Bool) (a : Act) (w : World), wpAnyN P md ops Q S n fuel listed a w → wpAny P md ops Q fuel listed a w
 | 0, _, _, _, h => h
 | fuel + 1, _, _, _, h => ⟨h.1, fun i hi => wpOp_mono (fun a' w' h' => wpAny_of_N fuel _ a' w' h'.2) (h.2 i hi)⟩
theorem wpAnyN_first {i n : Nat} {oi : Oper} {v : Value} (hi : ops[i]? = some oi) (hsel : ∀ (j : Nat) (o : Oper) cs b, ops[j]? = some o → o.op ≠ .select cs b)
 (hQ : ∀ c a w, Q (.panic c) (a.put oi.dst v) w → Q (.panic c) a w) (hwn : lastWaits md ops n i = true) :
 ∀ (fuel : Nat) (listed : Array Bool) (a : Act) (w : World),
  (∀ j oj, ops[j]? = some oj → j ≠ i → listed.getD j true = false → (∀ e ∈ oj.after, Region.binds md e = true → e.on ≠ i) → oi.apart ops oj = true) →
  i ∈ Region.ready md ops listed → YieldsIf P ops S oi v a → S w →
  wpAnyN P md ops Q S n fuel (listed.setIfInBounds i true) (a.put oi.dst v) w → wpAnyN P md ops Q S n (fuel + 1) listed a w := by
 intro fuel
 induction fuel with
 | zero =>
  intro listed a w _ hr hy hS H
  refine ⟨fun h => (by rw [h] at hr; cases hr), fun j hj => ?_⟩
  by_cases hji : j = i
  ·subst hji; exact hy.wpOp hi hS ⟨fun _ => hS, H⟩
  ·have := ready_mono hj hji
   rw [H.1] at this
   cases this
 | succ fuel ih =>
  intro listed a w hfree hr hy hS H
  refine ⟨fun h => (by rw [h] at hr; cases hr), fun j hj => ?_⟩
  by_cases hji : j = i
  ·subst hji; exact hy.wpOp hi hS ⟨fun _ => hS, H⟩
  ·have h1 := H.2 j (ready_mono hj hji)
   obtain ⟨hjun, oj, hoj, hall⟩ := mem_ready.1 hj
   have hnot : ∀ e ∈ oj.after, Region.binds md e = true → e.on ≠ i := fun e he hb heq => by
    have h1 := hall e he hb
    have h0 := (mem_ready.1 hr).1
    rw [heq, getD_un h0] at h1
    cases h1
   have hjn : j ≠ n := fun e => by
    subst e
    obtain ⟨oj', ho', e', he', hb', hon⟩ := lastWaits_spec hwn
    have : oj' = oj := Option.some.inj (ho'.symm.trans hoj)
    subst this
    exact hnot e' he' hb' hon
   have h2 := wpOp_putIf hoj (hfree j oj hoj hji hjun hnot) (fun cs b => hsel i oi cs b hi) (fun cs b => hsel j oj cs b hoj) hQ hy h1
   have hfree' : ∀ k ok, ops[k]? = some ok → k ≠ i → (listed.setIfInBounds j true).getD k true = false →
    (∀ e ∈ ok.after, Region.binds md e = true → e.on ≠ i) → oi.apart ops ok = true := fun k ok hk hki hun hno => by
    refine hfree k ok hk hki ?_ hno
    by_cases hjk : j = k
    ·subst hjk; exact hjun
    ·rw [getD_set_ne true hjk] at hun; exact hun
   refine wpOp_mono (fun a' w' h3 => ⟨h3.2.1, ih (listed.setIfInBounds j true) a' w' hfree' (ready_mono hr (Ne.symm hji)) h3.1 (h3.2.1 hjn) ?_⟩) h2
   rw [Array.setIfInBounds_comm _ _ hji]
   exact h3.2.2
theorem wpAnyN_take {i n : Nat} {oi : Oper} {v : Value} {fuel : Nat} {listed : Array Bool} {a : Act} {w : World} (hi : ops[i]? = some oi)
 (hs : Region.noSelect ops = true) (hf : Region.free md ops listed i = true) (hr : (Region.ready md ops listed).contains i = true) (hwn : lastWaits md ops n i = true)
 (hQ : ∀ c a w, Q (.panic c) (a.put oi.dst v) w → Q (.panic c) a w) (hy : YieldsIf P ops S oi v a) (hS : S w)
 (h : wpAnyN P md ops Q S n fuel (listed.setIfInBounds i true) (a.put oi.dst v) w) : wpAnyN P md ops Q S n (fuel + 1) listed a w :=
 wpAnyN_first hi (Region.noSelect_spec hs) hQ hwn fuel listed a w (Region.free_spec hi hf) (by simpa using hr) hy hS h
theorem wpAnyN_one {i n : Nat} {o : Oper} {fuel : Nat} {listed : Array Bool} {a : Act} {w : World} (hr : Region.ready md ops listed = [i]) (ho : ops[i]? = some o)
 (h : ∀ K' : Act → World → Prop, Shut (∀ a w, S w → (S w → wpAnyN P md ops Q S n fuel (listed.setIfInBounds i true) a w) → K' a w) → if Region.wanted o (yielded ops a.tmps) = true then Oper.wp P o a w K' Q else K' (a.put o.dst undef) w) : wpAnyN P md ops Q S n (fuel + 1) listed a w :=
 ⟨fun h0 => absurd (hr ▸ h0) (by simp), fun j hj => by
  rw [hr] at hj
  obtain rfl := List.mem_singleton.1 hj
  exact wpOp_step ho (fun K' hK => h K' (fun a w hS hW => hK a w ⟨fun _ => hS, hW hS⟩))⟩
theorem wpAnyN_last {n : Nat} {o : Oper} {fuel : Nat} {listed : Array Bool} {a : Act} {w : World} (hr : Region.ready md ops listed = [n]) (hd : Region.ready md ops (listed.setIfInBounds n true) = []) (ho : ops[n]? = some o)
 (h : ∀ K' : Act → World → Prop, Shut (∀ a w, Q .normal a w → K' a w) → if Region.wanted o (yielded ops a.tmps) = true then Oper.wp P o a w K' Q else K' (a.put o.dst undef) w) : wpAnyN P md ops Q S n (fuel + 1) listed a w :=
 ⟨fun h0 => absurd (hr ▸ h0) (by simp), fun j hj => by
  rw [hr] at hj
  obtain rfl := List.mem_singleton.1 hj
  refine wpOp_step ho (fun K' hK => h K' (fun a w hq => hK a w ⟨fun e => absurd rfl e, ?_⟩))
  cases fuel with
  | zero => exact ⟨hd, hq⟩
  | succ f => exact ⟨fun _ => hq, by rw [hd]; simp⟩⟩
theorem wp_region_N {n id : Nat} {a : Act} {w : World} (hm : P.follows .mixedOrders = true) (hS : S w.drew)
 (h : S w.drew → wpAnyN P .any ops Q S n ops.size (Array.replicate ops.size false) a w.drew) : (Code.region id ops true).wp P Q a w :=
 wp_region_any hm (wpAny_of_N _ _ _ _ (h hS))
theorem wpAnyN_two {i j n : Nat} {oi oj : Oper} {fuel : Nat} {listed : Array Bool} {a : Act} {w : World} (hr : Region.ready md ops listed = [i, j]) (hi : ops[i]? = some oi) (hj : ops[j]? = some oj)
 (h1 : ∀ K' : Act → World → Prop, Shut (∀ a w, S w → (S w → wpAnyN P md ops Q S n fuel (listed.setIfInBounds i true) a w) → K' a w) → if Region.wanted oi (yielded ops a.tmps) = true then Oper.wp P oi a w K' Q else K' (a.put oi.dst undef) w)
 (h2 : ∀ K' : Act → World → Prop, Shut (∀ a w, S w → (S w → wpAnyN P md ops Q S n fuel (listed.setIfInBounds j true) a w) → K' a w) → if Region.wanted oj (yielded ops a.tmps) = true then Oper.wp P oj a w K' Q else K' (a.put oj.dst undef) w) : wpAnyN P md ops Q S n (fuel + 1) listed a w :=
 ⟨fun h0 => absurd (hr ▸ h0) (by simp), fun x hx => by
  rw [hr] at hx
  rcases List.mem_cons.1 hx with rfl | hx
  ·exact wpOp_step hi (fun K' hK => h1 K' (fun a w hS hW => hK a w ⟨fun _ => hS, hW hS⟩))
  ·obtain rfl := List.mem_singleton.1 hx
   exact wpOp_step hj (fun K' hK => h2 K' (fun a w hS hW => hK a w ⟨fun _ => hS, hW hS⟩))⟩
def putAll (a : Act) (l : List (Nat × Value)) : Act := l.foldl (fun a x => a.put (some x.1) x.2) a
def JoinQ (R : Act → World → Prop) : Exit → Act → World → Prop
 | .normal, a, w => R a w
 | _, _, _ => False
theorem region_join {σ : Type} (puts : σ → List (Nat × Value)) (F : σ → World → Prop) {id : Nat} {b : Bool} {a : Act} {w : World}
 (h1 : (Code.region id ops b).wp P (JoinQ (fun a' w' => ∃ s, a' = putAll a (puts s) ∧ F s w')) a w) (h2 : ∀ s w', F s w' → Q .normal (putAll a (puts s)) w') : (Code.region id ops b).wp P Q a w :=
 Code.wp_mono (fun e a' w' h => by
  cases e <;> first | (obtain ⟨s, rfl, hF⟩ := h; exact h2 s w' hF) | exact (h : False).elim) h1
theorem alloc_named {R : Nat → World → Prop} {W : World} {cs : Array Value} {t : Nat} (h : ∀ g w', (g = W.heap.size ∧ W.heap.size ≤ g) → w'.heap[g]? = some (.cells cs t (0, 0)) → Below W.heap.size W w' → R g w') : R W.heap.size (W.alloc (.cells cs t)) :=
 h _ _ ⟨rfl, Nat.le_refl _⟩ (blk_new W (.cells cs t)) (below_alloc (Below.refl W.heap.size W) (.cells cs t))
end
theorem ElemW.parent {W : World} {base g n cap : Nat} {ok oki : Nat → Prop} {xs : List S45} {i : Int} {x : S45} {v2 v5 : Value} (h : ElemW W base ok g n cap xs i oki x v2 v5) (y : Int) :
 Kd.S k45 45 (W.setCell ⟨g, i.toNat * 6 + 4, none⟩ (.int .i64 y)) base ok (.slice (some ⟨g, 0, none⟩) n cap) (xs.set i.toNat ⟨x.f0, x.f1, x.f2, x.f3, y, x.f5⟩) := by
 obtain ⟨g1, _⟩ := Kd.H_seg h.hole h.h0 h.h1 (seg := [.int .i64 y]) (j := 4) (show 4 + 1 ≤ 6 by omega) (fun q hq => by rw [List.mem_singleton.1 hq]; rfl)
 exact Kd.H_back (w := W.setCell ⟨g, i.toNat * 6 + 4, none⟩ (.int .i64 y)) g1 (k45_mkM _ _ oki ⟨x.f0, x.f1, x.f2, x.f3, y, x.f5⟩ (Kd.R_far (p := ⟨g, i.toNat * 6 + 4, none⟩) h.r2 h.ne _) (Kd.R_far (p := ⟨g, i.toNat * 6 + 4, none⟩) h.r5 h.ne _)) (fun _ hk => hk)
structure HngW (w0 w W : World) (P_ : Nat → Prop) (gt gr g n cap : Nat) (xs : List S45) : Prop where
 bt : W.heap[gt]? = some (.cells #[.slice (some ⟨g, 0, none⟩) n cap] 29 (0, 0))
 br : W.heap[gr]? = some (.cells #[.slice none 0 0] 29 (0, 0))
 s : Kd.S k45 45 W w0.heap.size (fun k => (P_ k ∧ k < w.heap.size) ∨ (w.heap.size ≤ k ∧ k ≠ gt ∧ k ≠ gr)) (.slice (some ⟨g, 0, none⟩) n cap) xs
 low : Below w0.heap.size w0 W
 kept : Kept w W P_
 gt_ : w.heap.size ≤ gt
 gr_ : w.heap.size ≤ gr
 ge0 : w0.heap.size ≤ w.heap.size
section
variable {w0 w W W2 : World} {P_ : Nat → Prop} {gt gr g n cap : Nat} {xs : List S45}
theorem HngW.below (h : HngW w0 w W P_ gt gr g n cap xs) (hb : Below W.heap.size W W2) : HngW w0 w W2 P_ gt gr g n cap xs := ⟨blk_below h.bt hb, blk_below h.br hb, Kd.S_below h.s hb, below_step h.low hb, h.kept.below hb, h.gt_, h.gr_, h.ge0⟩
theorem HngW.okg (h : HngW w0 w W P_ gt gr g n cap xs) : ((P_ g ∧ g < w.heap.size) ∨ w.heap.size ≤ g) ∧ g ≠ gt ∧ g ≠ gr := by
 have := (Kd.S_R h.s).1 g rfl
 rcases this with h1 | h1
 ·exact ⟨.inl h1, by have := h.gt_; omega, by have := h.gr_; omega⟩
 ·exact ⟨.inr h1.1, h1.2⟩
theorem HngW.len (h : HngW w0 w W P_ gt gr g n cap xs) : n = xs.length := (Kd.S_reads' h.s).1
theorem HngW.cell (h : HngW w0 w W P_ gt gr g n cap xs) : W.cell? ⟨gt, 0, none⟩ = some (.slice (some ⟨g, 0, none⟩) n cap) := (blk_cell h.bt 0).trans rfl
theorem HngW.free (h : HngW w0 w W P_ gt gr g n cap xs) (j : Nat) : W.frozen? ⟨g, j, none⟩ = false := by
 obtain ⟨cells, hc⟩ := Kd.R_typed (Kd.S_R h.s) g rfl
 exact blk_frozen hc j
theorem HngW.set (h : HngW w0 w W P_ gt gr g n cap xs) {ys : List S45} {p : Nat} {u : Value} (hS : Kd.S k45 45 (W.setCell ⟨g, p, none⟩ u) w0.heap.size (fun k => (P_ k ∧ k < w.heap.size) ∨ (w.heap.size ≤ k ∧ k ≠ gt ∧ k ≠ gr)) (.slice (some ⟨g, 0, none⟩) n cap) ys) : HngW w0 w (W.setCell ⟨g, p, none⟩ u) P_ gt gr g n cap ys :=
 ⟨blk_far (p := ⟨g, p, none⟩) h.bt (Ne.symm h.okg.2.1) _, blk_far (p := ⟨g, p, none⟩) h.br (Ne.symm h.okg.2.2) _, hS, below_set h.low (Kd.S_base h.s g rfl), h.kept.setCell (p := ⟨g, p, none⟩) (h.okg.1.elim (fun h_ => .inl h_.1) .inr) _, h.gt_, h.gr_, h.ge0⟩
theorem HngW.par (h : HngW w0 w W P_ gt gr g n cap xs) (i y : Int) (h0 : 0 ≤ i) (h1 : i < n) : HngW w0 w (W.setCell ⟨g, i.toNat * 6 + 4, none⟩ (.int .i64 y)) P_ gt gr g n cap (xs.set i.toNat ⟨(rd_T45 xs i).f0, (rd_T45 xs i).f1, (rd_T45 xs i).f2, (rd_T45 xs i).f3, y, (rd_T45 xs i).f5⟩) := by
 obtain ⟨oki, v2, v5, E⟩ := ElemW.of h.s i h0 h1
 exact h.set (E.parent y)
theorem HngW.kid (h : HngW w0 w W P_ gt gr g n cap xs) (i : Int) (h0 : 0 ≤ i) (h1 : i < n) {v : Value} {ys : List Int} (hb : Below W.heap.size W W2) (hr : Kd.R (Kd.int .i64) 3 W2 W.heap.size (fun _ => True) v ys) : HngW w0 w (W2.setCell ⟨g, i.toNat * 6 + 5, none⟩ v) P_ gt gr g n cap (xs.set i.toNat ⟨(rd_T45 xs i).f0, (rd_T45 xs i).f1, (rd_T45 xs i).f2, (rd_T45 xs i).f3, (rd_T45 xs i).f4, ys⟩) := by
 obtain ⟨oki, v2, v5, E⟩ := ElemW.of h.s i h0 h1
 have hgt := blk_lt h.bt
 have hgr := blk_lt h.br
 refine (h.below hb).set (E.kids (Kd.R_lower (Kd.R_mono (Kd.R_bound hr) (fun k hk => E.new k (.inr ⟨Nat.le_trans h.kept.1 hk.2.1, by have := hk.2.1; omega, by have := hk.2.1; omega⟩) hk.2.1)) h.low.size) (Kept.of_below hb _))
theorem HngW.elem (h : HngW w0 w W P_ gt gr g n cap xs) (i : Int) (h0 : 0 ≤ i) (h1 : i < n) : W.cell? ⟨g, i.toNat * 6 + 4, none⟩ = some (.int .i64 (rd_T45 xs i).f4) ∧ ∃ A c, W.cell? ⟨g, i.toNat * 6 + 5, none⟩ = some (.slice A (rd_T45 xs i).f5.length c) ∧ (rd_T45 xs i).f5.length ≤ c ∧ (Kd.int .i64).C W A (rd_T45 xs i).f5.length (rd_T45 xs i).f5 := by
 obtain ⟨oki, v2, v5, E⟩ := ElemW.of h.s i h0 h1
 obtain ⟨A, c, rfl, hl, hc⟩ := Kd.R_reads E.r5
 exact ⟨E.cell 4 _ rfl, A, c, E.cell 5 _ rfl, hl, hc⟩
theorem HngW.start {gt gr : Nat} {A : Option Addr} (hS : Kd.S k45 45 w w0.heap.size P_ (.slice (some ⟨g, 0, none⟩) n cap) xs) (hB : Below w0.heap.size w0 w) (hb : Below w.heap.size w W) (bt : W.heap[gt]? = some (.cells #[.slice (some ⟨g, 0, none⟩) n cap] 29 (0, 0))) (br : W.heap[gr]? = some (.cells #[.slice none 0 0] 29 (0, 0))) (h1 : w.heap.size ≤ gt) (h2 : w.heap.size ≤ gr) : HngW w0 w W P_ gt gr g n cap xs :=
 ⟨bt, br, Kd.S_below (Kd.S_mono (Kd.S_bound hS) (fun k hk => .inl ⟨hk.1, hk.2.2.1⟩)) hb, below_step hB hb, Kept.of_below hb _, h1, h2, hB.size⟩
theorem HngW.call (h : HngW w0 w W P_ gt gr g n cap xs) {ys : List S45} (hl : ys.length = xs.length) (hS : Kd.S k45 45 W2 w0.heap.size (fun k => ((P_ k ∧ k < w.heap.size) ∨ (w.heap.size ≤ k ∧ k ≠ gt ∧ k ≠ gr)) ∨ W.heap.size ≤ k) (.slice (some ⟨g, 0, none⟩) ys.length cap) ys) (hb : Below w0.heap.size w0 W2) (hk : Kept W W2 (fun k => (P_ k ∧ k < w.heap.size) ∨ (w.heap.size ≤ k ∧ k ≠ gt ∧ k ≠ gr))) : HngW w0 w W2 P_ gt gr g ys.length cap ys := by
 have hgt := blk_lt h.bt
 have hgr := blk_lt h.br
 have e : n = ys.length := h.len.trans hl.symm
 subst e
 exact ⟨blk_kept h.bt hk (fun h_ => by have := h.gt_; omega), blk_kept h.br hk (fun h_ => by have := h.gr_; omega), Kd.S_mono hS (fun k hk_ => hk_.elim id (fun h_ => .inr ⟨Nat.le_trans h.kept.1 h_, by omega, by omega⟩)), hb, h.kept.then_ hk (fun k hk_ => hk_.elim (fun h_ => .inl h_.1) (fun h_ => .inr h_.1)), h.gt_, h.gr_, h.ge0⟩
theorem HngW.same (h : HngW w0 w W P_ gt gr g n cap xs) : HngW w0 w (W.setCell ⟨gt, 0, none⟩ (.slice (some ⟨g, 0, none⟩) n cap)) P_ gt gr g n cap xs := by
 by_cases e : gr = gt
 ·have h1 := h.bt
  rw [← e, h.br] at h1
  injection h1 with h1
  injection h1 with h1
  simp at h1
 ·exact ⟨blk_set h.bt 0 _, blk_far (p := ⟨gt, 0, none⟩) h.br e _, Kd.S_mono (Kd.S_far (p := ⟨gt, 0, none⟩) (Kd.S_types h.s h.bt (by decide)) (fun _ hk => hk.2) _) (fun _ hk => hk.1), below_set h.low (Nat.le_trans h.ge0 h.gt_), h.kept.setCell (p := ⟨gt, 0, none⟩) (.inr h.gt_) _, h.gt_, h.gr_, h.ge0⟩
theorem HngW.done (h : HngW w0 w W P_ gt gr g n cap xs) (u : Value) : Kd.S k45 45 (W.setCell ⟨gr, 0, none⟩ u) w0.heap.size (fun k => P_ k ∨ w.heap.size ≤ k) (.slice (some ⟨g, 0, none⟩) n cap) xs ∧ Below w0.heap.size w0 (W.setCell ⟨gr, 0, none⟩ u) ∧ Kept w (W.setCell ⟨gr, 0, none⟩ u) P_ :=
 ⟨Kd.S_mono (Kd.S_far (p := ⟨gr, 0, none⟩) (Kd.S_types h.s h.br (by decide)) (fun _ hk => hk.2) _) (fun k hk => hk.1.elim (fun h_ => .inl h_.1) (fun h_ => .inr h_.1)), below_set h.low (Nat.le_trans h.ge0 h.gr_), h.kept.setCell (p := ⟨gr, 0, none⟩) (.inr h.gr_) _⟩
end
def spec_l6DrawNode.f (k : Nat) (s0_0 : List Int) (s0_1 : Int) (s0_2 : Int) : Option (Int × ByteArray × (List (S98)) × ByteArray × Int × List Int × Int × Int) := (spec_l1Below.f s0_0 s0_1 s0_2 4).bind fun bt102 => (if (wrap64 (2 + bt102.1)) = 2 then ((spec_l1Pick.f s0_0 bt102.2.1 bt102.2.2 (([(⟨#[104, 116, 109, 108]⟩ : ByteArray), (⟨#[]⟩ : ByteArray), (⟨#[120]⟩ : ByteArray)] : List ByteArray))).bind fun bt109 => (some (wrap64 (2 + bt102.1), bt109.1, ([] : List (S98)), (⟨#[]⟩ : ByteArray), (-1), ([] : List Int), bt109.2.1, bt109.2.2))) else (if (wrap64 (2 + bt102.1)) = 3 then ((spec_l1Pick.f s0_0 bt102.2.1 bt102.2.2 (([(⟨#[112]⟩ : ByteArray), (⟨#[98]⟩ : ByteArray), (⟨#[100, 105, 118]⟩ : ByteArray), (⟨#[98, 114]⟩ : ByteArray), (⟨#[115, 99, 114, 105, 112, 116]⟩ : ByteArray), (⟨#[120]⟩ : ByteArray)] : List ByteArray))).bind fun bt115 => ((spec_l4DrawAttrs.f k s0_0 bt115.2.1 bt115.2.2).bind fun bt118 => ((spec_AttrsOk.f k bt118.1).bind fun t123 => (if t123 = true then (some (wrap64 (2 + bt102.1), bt115.1, bt118.1, (⟨#[]⟩ : ByteArray), (-1), ([] : List Int), bt118.2.1, bt118.2.2)) else (some (wrap64 (2 + bt102.1), bt115.1, ([] : List (S98)), (⟨#[]⟩ : ByteArray), (-1), ([] : List Int), bt118.2.1, bt118.2.2)))))) else (if (wrap64 (2 + bt102.1)) = 4 then ((spec_l1Pick.f s0_0 bt102.2.1 bt102.2.2 (([(⟨#[97]⟩ : ByteArray), (⟨#[120, 60, 121]⟩ : ByteArray), (⟨#[38]⟩ : ByteArray), (⟨#[194, 160]⟩ : ByteArray)] : List ByteArray))).bind fun bt127 => (some (wrap64 (2 + bt102.1), (⟨#[]⟩ : ByteArray), ([] : List (S98)), bt127.1, (-1), ([] : List Int), bt127.2.1, bt127.2.2))) else (if (wrap64 (2 + bt102.1)) = 5 then ((spec_l4DrawText.f s0_0 bt102.2.1 bt102.2.2).bind fun bt130 => (some (wrap64 (2 + bt102.1), (⟨#[]⟩ : ByteArray), ([] : List (S98)), bt130.1, (-1), ([] : List Int), bt130.2.1, bt130.2.2))) else (some (wrap64 (2 + bt102.1), (⟨#[]⟩ : ByteArray), ([] : List (S98)), (⟨#[]⟩ : ByteArray), (-1), ([] : List Int), bt102.2.1, bt102.2.2))))))
theorem spec_l6DrawNode.mono : ∀ a0 a1 a2 k, LeO (spec_l6DrawNode.f k a0 a1 a2) (spec_l6DrawNode.f (k + 1) a0 a1 a2) := fun _ _ _ k => LeO.bind (LeO.refl _) (fun _ => LeO.ite (LeO.refl _) (LeO.ite (LeO.bind (LeO.refl _) (fun _ => LeO.bind (spec_l4DrawAttrs.mono _ _ _ k) (fun _ => LeO.bind (spec_AttrsOk.mono _ k) (fun _ => LeO.refl _)))) (LeO.refl _)))
structure DnoW (w0 w W : World) (g gn gr : Nat) (x : S45) (v2 : Value) : Prop where
 bn : W.heap[gn]? = some (.cells #[.int .i64 x.f0, .string x.f1, v2, .string x.f3, .int .i64 x.f4, .slice none 0 0] 45 (0, 0))
 br : W.heap[gr]? = some (.cells #[.int .i64 0, .string (⟨#[]⟩ : ByteArray), .slice none 0 0, .string (⟨#[]⟩ : ByteArray), .int .i64 0, .slice none 0 0] 45 (0, 0))
 r2 : Kd.R k98 98 W w.heap.size (fun k => k ≠ gn ∧ k ≠ gr) v2 x.f2
 low : Below w0.heap.size w0 W
 kp : KeepBut w W g none
 gn_ : w.heap.size ≤ gn
 gr_ : w.heap.size ≤ gr
 ne : gn ≠ gr
 gc : g < w.heap.size
 g0 : w0.heap.size ≤ g
section
variable {w0 w W W2 : World} {g gn gr k j : Nat} {x : S45} {v2 v : Value}
theorem dk_trans (h : KeepBut w W g none) (hk : KeepBut W W2 g none) : KeepBut w W2 g none := ⟨Nat.le_trans h.1 hk.1, fun i hi h1 h2 => (hk.2 i (Nat.lt_of_lt_of_le hi h.1) h1 h2).trans (h.2 i hi h1 h2)⟩
theorem dk_below (h : KeepBut w W g none) (hb : Below W.heap.size W W2) : KeepBut w W2 g none := Kept.keep h (Kept.of_below hb (fun _ => False)) (fun _ hk => hk.elim)
theorem dk_set (h : KeepBut w W g none) {k j : Nat} (hk : w.heap.size ≤ k) (u : Value) : KeepBut w (W.setCell ⟨k, j, none⟩ u) g none := Kept.keep h (Kept.setCell (p := ⟨k, j, none⟩) (Kept.refl W (fun x => x = k)) (.inl rfl) u) (fun x hx => by subst hx; exact hk)
theorem DnoW.keep (h : DnoW w0 w W g gn gr x v2) (hl : Below w0.heap.size w0 W2) (hk : KeepBut W W2 g none) : DnoW w0 w W2 g gn gr x v2 :=
 ⟨hk.blk h.bn (by have := h.gn_; have := h.gc; omega) (by simp), hk.blk h.br (by have := h.gr_; have := h.gc; omega) (by simp), Kd.R_mono (Kd.R_keep (Kd.R_bound h.r2) hk (fun k h_ => by have := h_.2.1; have := h.gc; omega)) (fun _ h_ => h_.1), hl, dk_trans h.kp hk, h.gn_, h.gr_, h.ne, h.gc, h.g0⟩
theorem DnoW.below (h : DnoW w0 w W g gn gr x v2) (hb : Below W.heap.size W W2) : DnoW w0 w W2 g gn gr x v2 := h.keep (below_step h.low hb) (dk_below (KeepBut.refl _ _ _) hb)
theorem DnoW.ggn (h : DnoW w0 w W g gn gr x v2) : g ≠ gn := by have := h.gn_; have := h.gc; omega
theorem DnoW.w0w (h : DnoW w0 w W g gn gr x v2) : w0.heap.size ≤ w.heap.size := by have := h.g0; have := h.gc; omega
theorem DnoW.put (h : DnoW w0 w W g gn gr x v2) {y : S45} {u2 : Value} (j : Nat) (u : Value) (hb : (W.setCell ⟨gn, j, none⟩ u).heap[gn]? = some (.cells #[.int .i64 y.f0, .string y.f1, u2, .string y.f3, .int .i64 y.f4, .slice none 0 0] 45 (0, 0))) (hr : Kd.R k98 98 W w.heap.size (fun k => k ≠ gn ∧ k ≠ gr) u2 y.f2) : DnoW w0 w (W.setCell ⟨gn, j, none⟩ u) g gn gr y u2 :=
 ⟨hb, blk_far (p := ⟨gn, j, none⟩) h.br (Ne.symm h.ne) _, Kd.R_far (p := ⟨gn, j, none⟩) hr (fun _ h_ => h_.1) _, below_set h.low (Nat.le_trans h.w0w h.gn_), dk_set h.kp h.gn_ _, h.gn_, h.gr_, h.ne, h.gc, h.g0⟩
theorem DnoW.name (h : DnoW w0 w W g gn gr x v2) (s : ByteArray) : DnoW w0 w (W.setCell ⟨gn, 1, none⟩ (.string s)) g gn gr ⟨x.f0, s, x.f2, x.f3, x.f4, x.f5⟩ v2 := h.put 1 _ (blk_put h.bn 1 _ rfl) h.r2
theorem DnoW.text (h : DnoW w0 w W g gn gr x v2) (s : ByteArray) : DnoW w0 w (W.setCell ⟨gn, 3, none⟩ (.string s)) g gn gr ⟨x.f0, x.f1, x.f2, s, x.f4, x.f5⟩ v2 := h.put 3 _ (blk_put h.bn 3 _ rfl) h.r2
theorem DnoW.attrs (h : DnoW w0 w W g gn gr x v2) {u : Value} {ats : List S98} (hr : Kd.R k98 98 W w.heap.size (fun k => k ≠ gn ∧ k ≠ gr) u ats) : DnoW w0 w (W.setCell ⟨gn, 2, none⟩ u) g gn gr ⟨x.f0, x.f1, ats, x.f3, x.f4, x.f5⟩ u := h.put 2 _ (blk_put h.bn 2 _ rfl) hr
theorem dn_far (W : World) (gb : Nat) (x : S45) (v2 v5 : Value) (k : Nat) (hk : k ≠ gb) : (fillN W gb x v2 v5).heap[k]? = W.heap[k]? :=
 (show fillN W gb x v2 v5 = W.setCells gb 0 [.int .i64 x.f0, .string x.f1, v2, .string x.f3, .int .i64 x.f4, v5] from rfl) ▸ setCells_far _ _ k hk
theorem dn_size (W : World) (gb : Nat) (x : S45) (v2 v5 : Value) : W.heap.size ≤ (fillN W gb x v2 v5).heap.size :=
 (Kept.setCell (p := ⟨gb, 5, none⟩) (Kept.setCell (p := ⟨gb, 4, none⟩) (Kept.setCell (p := ⟨gb, 3, none⟩) (Kept.setCell (p := ⟨gb, 2, none⟩) (Kept.setCell (p := ⟨gb, 1, none⟩) (Kept.setCell (p := ⟨gb, 0, none⟩) (Kept.refl W (fun _ => True)) (.inl trivial) _) (.inl trivial) _) (.inl trivial) _) (.inl trivial) _) (.inl trivial) _) (.inl trivial) _).1
theorem DnoW.done (h : DnoW w0 w W g gn gr x v2) {b : List Int} {i h1 : Int} (hI : IsS117 w0 W g b i h1) : (fillN W gr x v2 (.slice none 0 0)).heap[gr]? = some (.cells #[.int .i64 x.f0, .string x.f1, v2, .string x.f3, .int .i64 x.f4, .slice none 0 0] 45 (0, 0)) ∧ Kd.R k98 98 (fillN W gr x v2 (.slice none 0 0)) w.heap.size (fun _ => True) v2 x.f2 ∧ Kd.R (Kd.int .i64) 3 (fillN W gr x v2 (.slice none 0 0)) w.heap.size (fun _ => True) (.slice none 0 0) [] ∧ IsS117 w0 (fillN W gr x v2 (.slice none 0 0)) g b i h1 ∧ Below w0.heap.size w0 (fillN W gr x v2 (.slice none 0 0)) ∧ KeepBut w (fillN W gr x v2 (.slice none 0 0)) g none := by
 have h0 : w0.heap.size ≤ gr := Nat.le_trans h.w0w h.gr_
 refine ⟨fillN_blk _ _ _ h.br, Kd.R_mono (Kd.R_step h.r2 (fun k hk _ => dn_far _ _ _ _ _ _ hk.2)) (fun _ _ => trivial), Kd.S_R (Kd.S_nil (Kd.int .i64) 3 _ _ _), ?_, below_set (below_set (below_set (below_set (below_set (below_set h.low h0) h0) h0) h0) h0) h0, Nat.le_trans h.kp.1 (dn_size _ _ _ _ _), fun i hi n1 n2 => (dn_far _ _ _ _ _ _ (by have := h.gr_; omega)).trans (h.kp.2 i hi n1 n2)⟩
 obtain ⟨A0, c0, hb, q1, q2⟩ := hI
 exact ⟨A0, c0, (dn_far _ _ _ _ _ _ (by have := h.gr_; have := h.gc; omega)).trans hb, q1, q2⟩
end
theorem spec_l6DrawNode.calls (k : Nat) (g : Nat) (s0_0 : List Int) (s0_1 : Int) (s0_2 : Int) (r1 : Int) (r2 : ByteArray) (r3 : List (S98)) (r4 : ByteArray) (r5 : Int) (r6 : List Int) (r7 : Int) (r8 : Int) (w0 w : World) (hI : IsS117 w0 w g s0_0 s0_1 s0_2) (hB : Below w0.heap.size w0 w) (h : spec_l6DrawNode.f k s0_0 s0_1 s0_2 = some (r1, r2, r3, r4, r5, r6, r7, r8)) :
 Calls Try.prog 120 #[.pointer (some ⟨g, 0, none⟩)] w fun e w' => ∃ v2_ v5_ : Value, e = .returned (.agg #[.int .i64 r1, .string r2, v2_, .string r4, .int .i64 r5, v5_]) ∧ Kd.R k98 98 w' w.heap.size (fun _ => True) v2_ r3 ∧ Kd.R (Kd.int .i64) 3 w' w.heap.size (fun _ => True) v5_ r6 ∧ IsS117 w0 w' g s0_0 r7 r8 ∧ Below w0.heap.size w0 w' ∧ KeepBut w w' g none := by
 unfold spec_l6DrawNode.f at h
 obtain ⟨⟨b, i1, h1⟩, A0, h⟩ := Option.bind_eq_some_iff.1 h
 dsimp only at A0 h
 replace A0 := Ak A0
 have HA := Ak h
 have HI0 := Ak hI
 have HB := Ak hB
 clear h hI hB
 go_enter Try.func120, Try.ntmps120
 go_upto_region 2 with (first | ((with_reducible refine gate_dst (N := 2) rfl ?_); refine box_event ?hg (N := 2) ?hd (cs := #[.int .i64 0, .string (⟨#[]⟩ : ByteArray), .slice none 0 0, .string (⟨#[]⟩ : ByteArray), .int .i64 0, .slice none 0 0]) (t := 45) ?hr ?_; (case hd => rfl); (case hg => rfl); (case hr => first | (go_simp; done) | (go_simp; rfl)); intro gr hg w1 hbox hb; have HR := Ak hbox; have HL1 := Ak hb; have HGR := Ak (show w.heap.size ≤ gr by rw [hg]; exact Nat.le_refl _); clear hbox hb hg) | (go_at_call 101; (with_reducible refine (spec_l1Below.calls g s0_0 s0_1 s0_2 4 b i1 h1 w0 w1 (HI0.out.below HL1.out) (below_step HB.out HL1.out) A0.out).mono ?_); rintro e w2 ⟨rfl, hi, hl, hk⟩; have HI2 := Ak hi; have HL2 := Ak hl; have HK2 := Ak (dk_trans (dk_below (KeepBut.refl w g none) HL1.out) hk); have HR2 := Ak (hk.blk HR.out (by have := HGR.out; have := HI0.out.lt; omega) (by simp)); clear hi hl hk) | ((with_reducible refine gate_dst (N := 3) rfl ?_); refine box_event ?hg (N := 3) ?hd (cs := #[.int .i64 0, .string (⟨#[]⟩ : ByteArray), .slice none 0 0, .string (⟨#[]⟩ : ByteArray), .int .i64 0, .slice none 0 0]) (t := 45) ?hr ?_; (case hd => rfl); (case hg => rfl); (case hr => first | (go_simp; done) | (go_simp; rfl)); intro gn hg w3 hbox hb; have HBN := Ak hbox; have HL3 := Ak hb; have HGN := Ak (show w2.heap.size ≤ gn by rw [hg]; exact Nat.le_refl _); have hz0 := blk_cell hbox 0; have hz1 := blk_cell hbox 1; have hz2 := blk_cell hbox 2; have hz3 := blk_cell hbox 3; have hz4 := blk_cell hbox 4; have hz5 := blk_cell hbox 5; have hf := blk_frozen hbox; clear hbox hb hg))
 generalize wrap64 (2 + b) = z at HA ⊢
 have HL4 := Ak (fillN_below (w := w2) (gb := gn) (⟨z, ⟨#[]⟩, [], ⟨#[]⟩, -1, []⟩ : S45) (.slice none 0 0) (.slice none 0 0) HL3.out HGN.out)
 show Code.wp _ _ _ _ (fillN w3 gn (⟨z, ⟨#[]⟩, [], ⟨#[]⟩, -1, []⟩ : S45) (.slice none 0 0) (.slice none 0 0))
 have HD := Ak (show DnoW w0 w (fillN w3 gn (⟨z, ⟨#[]⟩, [], ⟨#[]⟩, -1, []⟩ : S45) (.slice none 0 0) (.slice none 0 0)) g gn gr ⟨z, ⟨#[]⟩, [], ⟨#[]⟩, -1, []⟩ (.slice none 0 0) from ⟨fillN_blk _ _ _ HBN.out, blk_below HR2.out HL4.out, Kd.S_R (Kd.S_nil k98 98 _ _ _), below_step HL2.out HL4.out, dk_below HK2.out HL4.out, Nat.le_trans HK2.out.1 HGN.out, HGR.out, by have := blk_lt HR2.out; have := HGN.out; omega, HI0.out.lt, HI0.out.ge⟩)
 have HI := Ak (HI2.out.below HL4.out)
 generalize fillN w3 gn (⟨z, ⟨#[]⟩, [], ⟨#[]⟩, -1, []⟩ : S45) (.slice none 0 0) (.slice none 0 0) = w4 at HD HI ⊢
 clear HL4 HL3 HGN HBN HR2 HK2 HL2 HI2 HR HL1 HGR HI0 HB hz0 hz1 hz2 hz3 hz4 hz5 hf A0
 have hq0 := blk_cell HD.out.bn 0
 go_upto_region 3 with (fail)
 clear hq0
 have h := HA.out
 clear HA
 by_cases z2 : z = 2
 ·subst z2
  rw [if_pos rfl] at h
  obtain ⟨⟨s, i2, h2⟩, A1, h⟩ := Option.bind_eq_some_iff.1 h
  dsimp only at A1 h
  replace A1 := Ak A1
  simp only [Option.some.injEq, Prod.mk.injEq] at h
  obtain ⟨rfl, rfl, rfl, rfl, rfl, rfl, rfl, rfl⟩ := h
  go_wp2_with (first | ((with_reducible refine gate_dst (N := 13) rfl ?_); refine Kd.R_lit Kd.string _ 9 ?hg (N := 13) ?hd (xs := ([(⟨#[104, 116, 109, 108]⟩ : ByteArray), (⟨#[]⟩ : ByteArray), (⟨#[120]⟩ : ByteArray)] : List ByteArray)) (inner := [.string (⟨#[104, 116, 109, 108]⟩ : ByteArray), .string (⟨#[]⟩ : ByteArray), .string (⟨#[120]⟩ : ByteArray)]) (ok := fun _ => True) (okp := fun _ => True) ?hr ?hp (fun _ hk => hk) trivial (Below.refl _ _) (Nat.le_refl _) (by simp) ?_; (case hd => rfl); (case hg => rfl); (case hr => first | (go_simp; done) | (go_simp; rfl)); (case hp => exact (Reps.one (show Kd.M Kd.string _ _ _ (⟨#[104, 116, 109, 108]⟩ : ByteArray) [.string (⟨#[104, 116, 109, 108]⟩ : ByteArray)] from rfl) (Reps.one (show Kd.M Kd.string _ _ _ (⟨#[]⟩ : ByteArray) [.string (⟨#[]⟩ : ByteArray)] from rfl) (Reps.one (show Kd.M Kd.string _ _ _ (⟨#[120]⟩ : ByteArray) [.string (⟨#[120]⟩ : ByteArray)] from rfl) (Reps.none _ _))))); intro vp wp ho hb hg_ hnew_; (try simp only [Int.reduceToNat] at ho); generalize hys : ([(⟨#[104, 116, 109, 108]⟩ : ByteArray), (⟨#[]⟩ : ByteArray), (⟨#[120]⟩ : ByteArray)] : List ByteArray) = ys at ho A1; clear hys; have HP := Ak ho; have HDp := Ak (HD.out.below hb); have HIp := Ak (HI.out.below hb); clear ho hb hg_ hnew_; obtain ⟨Ap, cp, rfl⟩ := Kd.R_slice HP.out) | (go_at_call 132; (with_reducible refine (spec_l1Pick.calls g s0_0 i1 h1 Ap cp ys s i2 h2 w0 wp HIp.out HDp.out.low (Kd.R_reads' HP.out).2.2 (Kd.R_reads' HP.out).2.1 (far_slice (IsS117.own_ne HIp.out HP.out (by decide))) A1.out).mono ?_); rintro e wq ⟨rfl, hi, hl, hk⟩; have HDq := Ak (HDp.out.keep hl hk); have HIq := Ak hi; have hfq := blk_frozen HDq.out.bn; have hq0 := blk_cell HDq.out.bn 0; have hq1 := blk_cell HDq.out.bn 1; have hq2 := blk_cell HDq.out.bn 2; have hq3 := blk_cell HDq.out.bn 3; have hq4 := blk_cell HDq.out.bn 4; have hq5 := blk_cell HDq.out.bn 5; have hr0 := blk_cell HDq.out.br 0; have hr1 := blk_cell HDq.out.br 1; have hr2 := blk_cell HDq.out.br 2; have hr3 := blk_cell HDq.out.br 3; have hr4 := blk_cell HDq.out.br 4; have hr5 := blk_cell HDq.out.br 5; have hfr := blk_frozen HDq.out.br; have hne := HDq.out.ne; have hne2 := Ne.symm HDq.out.ne; clear hi hl hk))
  have HF := (HDq.out.name s).done (HIq.out.far (p := ⟨gn, 1, none⟩) HDq.out.ggn (.string s))
  refine bodyPost_ret (results_cell_row rfl _ _ gr 45 _ (0, 0) _ rfl HF.1 Try.underlying45 rfl (by kernel_rfl)) rfl ?_
  exact ⟨_, _, rfl, HF.2⟩
 rw [if_neg z2] at h
 have b2 : (z == 2) = false := beq_eq_false_iff_ne.2 z2
 by_cases z3 : z = 3
 ·subst z3
  rw [if_pos rfl] at h
  obtain ⟨⟨s, i2, h2⟩, A1, h⟩ := Option.bind_eq_some_iff.1 h
  dsimp only at A1 h
  replace A1 := Ak A1
  obtain ⟨⟨ats, i3, h3⟩, A2, h⟩ := Option.bind_eq_some_iff.1 h
  dsimp only at A2 h
  replace A2 := Ak A2
  obtain ⟨t, A3, h⟩ := Option.bind_eq_some_iff.1 h
  replace A3 := Ak A3
  have HA := Ak h
  clear h
  go_upto_region 7 with (first | ((with_reducible refine gate_dst (N := 19) rfl ?_); refine Kd.R_lit Kd.string _ 9 ?hg (N := 19) ?hd (xs := ([(⟨#[112]⟩ : ByteArray), (⟨#[98]⟩ : ByteArray), (⟨#[100, 105, 118]⟩ : ByteArray), (⟨#[98, 114]⟩ : ByteArray), (⟨#[115, 99, 114, 105, 112, 116]⟩ : ByteArray), (⟨#[120]⟩ : ByteArray)] : List ByteArray)) (inner := [.string (⟨#[112]⟩ : ByteArray), .string (⟨#[98]⟩ : ByteArray), .string (⟨#[100, 105, 118]⟩ : ByteArray), .string (⟨#[98, 114]⟩ : ByteArray), .string (⟨#[115, 99, 114, 105, 112, 116]⟩ : ByteArray), .string (⟨#[120]⟩ : ByteArray)]) (ok := fun _ => True) (okp := fun _ => True) ?hr ?hp (fun _ hk => hk) trivial (Below.refl _ _) (Nat.le_refl _) (by simp) ?_; (case hd => rfl); (case hg => rfl); (case hr => first | (go_simp; done) | (go_simp; rfl)); (case hp => exact (Reps.one (show Kd.M Kd.string _ _ _ (⟨#[112]⟩ : ByteArray) [.string (⟨#[112]⟩ : ByteArray)] from rfl) (Reps.one (show Kd.M Kd.string _ _ _ (⟨#[98]⟩ : ByteArray) [.string (⟨#[98]⟩ : ByteArray)] from rfl) (Reps.one (show Kd.M Kd.string _ _ _ (⟨#[100, 105, 118]⟩ : ByteArray) [.string (⟨#[100, 105, 118]⟩ : ByteArray)] from rfl) (Reps.one (show Kd.M Kd.string _ _ _ (⟨#[98, 114]⟩ : ByteArray) [.string (⟨#[98, 114]⟩ : ByteArray)] from rfl) (Reps.one (show Kd.M Kd.string _ _ _ (⟨#[115, 99, 114, 105, 112, 116]⟩ : ByteArray) [.string (⟨#[115, 99, 114, 105, 112, 116]⟩ : ByteArray)] from rfl) (Reps.one (show Kd.M Kd.string _ _ _ (⟨#[120]⟩ : ByteArray) [.string (⟨#[120]⟩ : ByteArray)] from rfl) (Reps.none _ _)))))))); intro vp wp ho hb hg_ hnew_; (try simp only [Int.reduceToNat] at ho); generalize hys : ([(⟨#[112]⟩ : ByteArray), (⟨#[98]⟩ : ByteArray), (⟨#[100, 105, 118]⟩ : ByteArray), (⟨#[98, 114]⟩ : ByteArray), (⟨#[115, 99, 114, 105, 112, 116]⟩ : ByteArray), (⟨#[120]⟩ : ByteArray)] : List ByteArray) = ys at ho A1; clear hys; have HP := Ak ho; have HDp := Ak (HD.out.below hb); have HIp := Ak (HI.out.below hb); clear ho hb hg_ hnew_; obtain ⟨Ap, cp, rfl⟩ := Kd.R_slice HP.out) | (go_at_call 132; (with_reducible refine (spec_l1Pick.calls g s0_0 i1 h1 Ap cp ys s i2 h2 w0 wp HIp.out HDp.out.low (Kd.R_reads' HP.out).2.2 (Kd.R_reads' HP.out).2.1 (far_slice (IsS117.own_ne HIp.out HP.out (by decide))) A1.out).mono ?_); rintro e wq ⟨rfl, hi, hl, hk⟩; have HDq := Ak (HDp.out.keep hl hk); have HIq := Ak hi; have hfq := blk_frozen HDq.out.bn; have hq1 := blk_cell HDq.out.bn 1; clear hi hl hk))
  clear hq1
  have HD_ := Ak (HDq.out.name s)
  have HI := Ak (HIq.out.far (p := ⟨gn, 1, none⟩) HD_.out.ggn (.string s))
  clear HDq HIq hfq
  generalize World.setCell wq ⟨gn, 1, none⟩ (.string s) = wr at HD_ HI ⊢
  clear HD
  have HD := HD_
  clear HD_
  go_upto_region 8 with (first | (go_at_call 133; (with_reducible refine (spec_l4DrawAttrs.calls k g s0_0 i2 h2 ats i3 h3 w0 wr HI.out HD.out.low A2.out).mono ?_); rintro e wq ⟨v, rfl, ho, hi, hl, hk⟩; have HO := Ak (Kd.R_lower (Kd.R_mono (Kd.R_bound ho) (fun k_ h_ => (show k_ ≠ gn ∧ k_ ≠ gr from by have := h_.2.1; have := blk_lt HD.out.bn; have := blk_lt HD.out.br; omega))) HD.out.kp.1); have HDq := Ak (HD.out.keep hl hk); have HIq := Ak hi; have hfq := blk_frozen HDq.out.bn; have hqo := blk_cell HDq.out.bn 2; clear ho hi hl hk; obtain ⟨Av, cv, rfl⟩ := Kd.R_slice HO.out))
  clear hqo
  have HD_ := Ak (HDq.out.attrs HO.out)
  have HI := Ak (HIq.out.far (p := ⟨gn, 2, none⟩) HD_.out.ggn (.slice Av ats.length cv))
  clear HDq HIq hfq
  generalize World.setCell wq ⟨gn, 2, none⟩ (.slice Av ats.length cv) = ws at HD_ HI ⊢
  clear HD
  have HD := HD_
  clear HD_
  have hq2 := blk_cell HD.out.bn 2
  cases t with
  | true =>
   have h := HA.out
   rw [if_pos rfl] at h
   simp only [Option.some.injEq, Prod.mk.injEq] at h
   obtain ⟨rfl, rfl, rfl, rfl, rfl, rfl, rfl, rfl⟩ := h
   go_wp2_with (first | (go_at_call 81; (with_reducible refine (spec_AttrsOk.calls k Av cv ats true ws (Kd.R_reads' HD.out.r2).2.2 (Kd.R_reads' HD.out.r2).2.1 A3.out).mono ?_); rintro e wt ⟨rfl, hb⟩; have HDq := Ak (HD.out.below hb); have HIq := Ak (HI.out.below hb); clear hb; have hq0 := blk_cell HDq.out.bn 0; have hq1 := blk_cell HDq.out.bn 1; have hq2 := blk_cell HDq.out.bn 2; have hq3 := blk_cell HDq.out.bn 3; have hq4 := blk_cell HDq.out.bn 4; have hq5 := blk_cell HDq.out.bn 5; have hr0 := blk_cell HDq.out.br 0; have hr1 := blk_cell HDq.out.br 1; have hr2 := blk_cell HDq.out.br 2; have hr3 := blk_cell HDq.out.br 3; have hr4 := blk_cell HDq.out.br 4; have hr5 := blk_cell HDq.out.br 5; have hfr := blk_frozen HDq.out.br; have hne := HDq.out.ne; have hne2 := Ne.symm HDq.out.ne))
   have HF := HDq.out.done HIq.out
   refine bodyPost_ret (results_cell_row rfl _ _ gr 45 _ (0, 0) _ rfl HF.1 Try.underlying45 rfl (by kernel_rfl)) rfl ?_
   exact ⟨_, _, rfl, HF.2⟩
  | false =>
   have h := HA.out
   rw [if_neg (by decide)] at h
   simp only [Option.some.injEq, Prod.mk.injEq] at h
   obtain ⟨rfl, rfl, rfl, rfl, rfl, rfl, rfl, rfl⟩ := h
   go_wp2_with (first | (go_at_call 81; (with_reducible refine (spec_AttrsOk.calls k Av cv ats false ws (Kd.R_reads' HD.out.r2).2.2 (Kd.R_reads' HD.out.r2).2.1 A3.out).mono ?_); rintro e wq ⟨rfl, hb⟩; have HDq := Ak (HD.out.below hb); have HIq := Ak (HI.out.below hb); have hfq := blk_frozen HDq.out.bn; have hq0 := blk_cell HDq.out.bn 0; have hq1 := blk_cell HDq.out.bn 1; have hq2 := blk_cell HDq.out.bn 2; have hq3 := blk_cell HDq.out.bn 3; have hq4 := blk_cell HDq.out.bn 4; have hq5 := blk_cell HDq.out.bn 5; have hr0 := blk_cell HDq.out.br 0; have hr1 := blk_cell HDq.out.br 1; have hr2 := blk_cell HDq.out.br 2; have hr3 := blk_cell HDq.out.br 3; have hr4 := blk_cell HDq.out.br 4; have hr5 := blk_cell HDq.out.br 5; have hfr := blk_frozen HDq.out.br; have hne := HDq.out.ne; have hne2 := Ne.symm HDq.out.ne; clear hb))
   have HF := (HDq.out.attrs (Kd.S_R (Kd.S_nil k98 98 wq w.heap.size _))).done (HIq.out.far (p := ⟨gn, 2, none⟩) HDq.out.ggn (.slice none 0 0))
   refine bodyPost_ret (results_cell_row rfl _ _ gr 45 _ (0, 0) _ rfl HF.1 Try.underlying45 rfl (by kernel_rfl)) rfl ?_
   exact ⟨_, _, rfl, HF.2⟩
 rw [if_neg z3] at h
 have b3 : (z == 3) = false := beq_eq_false_iff_ne.2 z3
 by_cases z4 : z = 4
 ·subst z4
  rw [if_pos rfl] at h
  obtain ⟨⟨s, i2, h2⟩, A1, h⟩ := Option.bind_eq_some_iff.1 h
  dsimp only at A1 h
  replace A1 := Ak A1
  simp only [Option.some.injEq, Prod.mk.injEq] at h
  obtain ⟨rfl, rfl, rfl, rfl, rfl, rfl, rfl, rfl⟩ := h
  go_wp2_with (first | ((with_reducible refine gate_dst (N := 33) rfl ?_); refine Kd.R_lit Kd.string _ 9 ?hg (N := 33) ?hd (xs := ([(⟨#[97]⟩ : ByteArray), (⟨#[120, 60, 121]⟩ : ByteArray), (⟨#[38]⟩ : ByteArray), (⟨#[194, 160]⟩ : ByteArray)] : List ByteArray)) (inner := [.string (⟨#[97]⟩ : ByteArray), .string (⟨#[120, 60, 121]⟩ : ByteArray), .string (⟨#[38]⟩ : ByteArray), .string (⟨#[194, 160]⟩ : ByteArray)]) (ok := fun _ => True) (okp := fun _ => True) ?hr ?hp (fun _ hk => hk) trivial (Below.refl _ _) (Nat.le_refl _) (by simp) ?_; (case hd => rfl); (case hg => rfl); (case hr => first | (go_simp; done) | (go_simp; rfl)); (case hp => exact (Reps.one (show Kd.M Kd.string _ _ _ (⟨#[97]⟩ : ByteArray) [.string (⟨#[97]⟩ : ByteArray)] from rfl) (Reps.one (show Kd.M Kd.string _ _ _ (⟨#[120, 60, 121]⟩ : ByteArray) [.string (⟨#[120, 60, 121]⟩ : ByteArray)] from rfl) (Reps.one (show Kd.M Kd.string _ _ _ (⟨#[38]⟩ : ByteArray) [.string (⟨#[38]⟩ : ByteArray)] from rfl) (Reps.one (show Kd.M Kd.string _ _ _ (⟨#[194, 160]⟩ : ByteArray) [.string (⟨#[194, 160]⟩ : ByteArray)] from rfl) (Reps.none _ _)))))); intro vp wp ho hb hg_ hnew_; (try simp only [Int.reduceToNat] at ho); generalize hys : ([(⟨#[97]⟩ : ByteArray), (⟨#[120, 60, 121]⟩ : ByteArray), (⟨#[38]⟩ : ByteArray), (⟨#[194, 160]⟩ : ByteArray)] : List ByteArray) = ys at ho A1; clear hys; have HP := Ak ho; have HDp := Ak (HD.out.below hb); have HIp := Ak (HI.out.below hb); clear ho hb hg_ hnew_; obtain ⟨Ap, cp, rfl⟩ := Kd.R_slice HP.out) | (go_at_call 132; (with_reducible refine (spec_l1Pick.calls g s0_0 i1 h1 Ap cp ys s i2 h2 w0 wp HIp.out HDp.out.low (Kd.R_reads' HP.out).2.2 (Kd.R_reads' HP.out).2.1 (far_slice (IsS117.own_ne HIp.out HP.out (by decide))) A1.out).mono ?_); rintro e wq ⟨rfl, hi, hl, hk⟩; have HDq := Ak (HDp.out.keep hl hk); have HIq := Ak hi; have hfq := blk_frozen HDq.out.bn; have hq0 := blk_cell HDq.out.bn 0; have hq1 := blk_cell HDq.out.bn 1; have hq2 := blk_cell HDq.out.bn 2; have hq3 := blk_cell HDq.out.bn 3; have hq4 := blk_cell HDq.out.bn 4; have hq5 := blk_cell HDq.out.bn 5; have hr0 := blk_cell HDq.out.br 0; have hr1 := blk_cell HDq.out.br 1; have hr2 := blk_cell HDq.out.br 2; have hr3 := blk_cell HDq.out.br 3; have hr4 := blk_cell HDq.out.br 4; have hr5 := blk_cell HDq.out.br 5; have hfr := blk_frozen HDq.out.br; have hne := HDq.out.ne; have hne2 := Ne.symm HDq.out.ne; clear hi hl hk))
  have HF := (HDq.out.text s).done (HIq.out.far (p := ⟨gn, 3, none⟩) HDq.out.ggn (.string s))
  refine bodyPost_ret (results_cell_row rfl _ _ gr 45 _ (0, 0) _ rfl HF.1 Try.underlying45 rfl (by kernel_rfl)) rfl ?_
  exact ⟨_, _, rfl, HF.2⟩
 rw [if_neg z4] at h
 have b4 : (z == 4) = false := beq_eq_false_iff_ne.2 z4
 by_cases z5 : z = 5
 ·subst z5
  rw [if_pos rfl] at h
  obtain ⟨⟨s, i2, h2⟩, A1, h⟩ := Option.bind_eq_some_iff.1 h
  dsimp only at A1 h
  replace A1 := Ak A1
  simp only [Option.some.injEq, Prod.mk.injEq] at h
  obtain ⟨rfl, rfl, rfl, rfl, rfl, rfl, rfl, rfl⟩ := h
  go_wp2_with (first | (go_at_call 134; (with_reducible refine (spec_l4DrawText.calls g s0_0 i1 h1 s i2 h2 w0 _ HI.out HD.out.low A1.out).mono ?_); rintro e wq ⟨rfl, hi, hl, hk⟩; have HDq := Ak (HD.out.keep hl hk); have HIq := Ak hi; have hfq := blk_frozen HDq.out.bn; have hq0 := blk_cell HDq.out.bn 0; have hq1 := blk_cell HDq.out.bn 1; have hq2 := blk_cell HDq.out.bn 2; have hq3 := blk_cell HDq.out.bn 3; have hq4 := blk_cell HDq.out.bn 4; have hq5 := blk_cell HDq.out.bn 5; have hr0 := blk_cell HDq.out.br 0; have hr1 := blk_cell HDq.out.br 1; have hr2 := blk_cell HDq.out.br 2; have hr3 := blk_cell HDq.out.br 3; have hr4 := blk_cell HDq.out.br 4; have hr5 := blk_cell HDq.out.br 5; have hfr := blk_frozen HDq.out.br; have hne := HDq.out.ne; have hne2 := Ne.symm HDq.out.ne; clear hi hl hk))
  have HF := (HDq.out.text s).done (HIq.out.far (p := ⟨gn, 3, none⟩) HDq.out.ggn (.string s))
  refine bodyPost_ret (results_cell_row rfl _ _ gr 45 _ (0, 0) _ rfl HF.1 Try.underlying45 rfl (by kernel_rfl)) rfl ?_
  exact ⟨_, _, rfl, HF.2⟩
 rw [if_neg z5] at h
 have b5 : (z == 5) = false := beq_eq_false_iff_ne.2 z5
 simp only [Option.some.injEq, Prod.mk.injEq] at h
 obtain ⟨rfl, rfl, rfl, rfl, rfl, rfl, rfl, rfl⟩ := h
 have hq0 := blk_cell HD.out.bn 0
 have hq1 := blk_cell HD.out.bn 1
 have hq2 := blk_cell HD.out.bn 2
 have hq3 := blk_cell HD.out.bn 3
 have hq4 := blk_cell HD.out.bn 4
 have hq5 := blk_cell HD.out.bn 5
 have hr0 := blk_cell HD.out.br 0
 have hr1 := blk_cell HD.out.br 1
 have hr2 := blk_cell HD.out.br 2
 have hr3 := blk_cell HD.out.br 3
 have hr4 := blk_cell HD.out.br 4
 have hr5 := blk_cell HD.out.br 5
 have hfr := blk_frozen HD.out.br
 have HF := HD.out.done HI.out
 go_wp2
 refine bodyPost_ret (results_cell_row rfl _ _ gr 45 _ (0, 0) _ rfl HF.1 Try.underlying45 rfl (by kernel_rfl)) rfl ?_
 exact ⟨_, _, rfl, HF.2⟩
def spec_l6Opens.f (l0_0 : List (S45)) (a1 : Int) : Option (Bool) := if 0 ≤ a1 then (if a1 < (l0_0.length : Int) then (if ((rd_T45 l0_0 a1).f0) = 1 then (some true) else (some (((rd_T45 l0_0 a1).f0) == 3))) else (none)) else (none)
theorem spec_l6Opens.calls (A0_0 : Option Addr) (c0_0 : Nat) (l0_0 : List (S45)) (a1 : Int) (r : Bool) (w : World) (hr0_0 : Kd.C k45 w A0_0 l0_0.length l0_0) (hc0_0 : l0_0.length ≤ c0_0) (h : spec_l6Opens.f l0_0 a1 = some r) :
 Calls Try.prog 121 #[.agg #[.slice A0_0 l0_0.length c0_0], .int .i64 a1] w fun e w' => e = .returned (.bool r) ∧ Below w.heap.size w w' := by
 have hu29 := Try.underlying29
 have HR0_0 := Ak hr0_0
 have HC0_0 := Ak hc0_0
 clear hr0_0 hc0_0
 have HB := Ak (Below.refl w.heap.size w)
 have H : (if 0 ≤ a1 then (if a1 < (l0_0.length : Int) then (if ((rd_T45 l0_0 a1).f0) = 1 then (some true) else (some (((rd_T45 l0_0 a1).f0) == 3))) else (none)) else (none)) = some r := h
 clear h
 by_cases c3 : 0 ≤ a1
 ·rw [if_pos c3] at H
  have c3b0 : decide (0 ≤ a1) = true := decide_eq_true c3
  clear c3
  by_cases c4 : a1 < (l0_0.length : Int)
  ·rw [if_pos c4] at H
   have c4b0 : decide (a1 < (l0_0.length : Int)) = true := decide_eq_true c4
   clear c4
   by_cases c5 : ((rd_T45 l0_0 a1).f0) = 1
   ·rw [if_pos c5] at H
    have c5b0 : (((rd_T45 l0_0 a1).f0) == 1) = true := beq_iff_eq.mpr c5
    have c5b1 : (((rd_T45 l0_0 a1).f0) != 1) = false := bne_eq_false_iff_eq.mpr c5
    clear c5
    obtain rfl := Option.some.inj H
    go_enter Try.func121, Try.ntmps121
    go_wp2_with (first | ((with_reducible refine gate_dst (N := 2) rfl ?_); refine box_event ?hg (N := 2) ?hd (cs := #[.slice A0_0 l0_0.length c0_0]) (t := 29) ?hr ?_; (case hd => rfl); (case hg => rfl); (case hr => go_simp); intro gb101 hg w6 hbox hb; have n0_ := Ak (below_step (HB.out) hb); have n1_ := Ak (hbox); have n2_ := Ak ((by rw [hg]; exact (below_size (HB.out)) : w.heap.size ≤ gb101)); have n3_ := n2_; clear HB; have HB := n0_; have BK101 := n1_; have GW101 := n2_; have GE101 := n3_; clear n0_ n1_ n2_ n3_; clear hb hbox hg; have hcz7_0 := blk_cell BK101.out 0; have hfz7_0 := blk_frozen BK101.out 0; have p102 : 0 ≤ (a1 : Int) := of_decide_eq_true (by assumption); have q102 : a1 < (l0_0.length : Int) := of_decide_eq_true (by assumption); obtain ⟨ad102, A102_2, c102_2, A102_5, c102_5, e102, hx102_0, hx102_1, hx102_2, hx102_3, hx102_4, hx102_5, hl102_2, hi102_2, hl102_5, hi102_5⟩ := at_T45 HR0_0.out a1 p102 q102; cases e102; replace hx102_0 := pw_cell_below HB.out hx102_0; replace hx102_1 := pw_cell_below HB.out hx102_1; replace hx102_2 := pw_cell_below HB.out hx102_2; replace hx102_3 := pw_cell_below HB.out hx102_3; replace hx102_4 := pw_cell_below HB.out hx102_4; replace hx102_5 := pw_cell_below HB.out hx102_5; have HR102_2 := Ak hi102_2; have HC102_2 := Ak hl102_2; clear hi102_2 hl102_2; have HR102_5 := Ak hi102_5; have HC102_5 := Ak hl102_5; clear hi102_5 hl102_5; replace p102 := eq_true p102; replace q102 := eq_true q102))
    go_ret
    exact ⟨by first | rfl | (simp [*] <;> rfl), HB.out⟩
   ·rw [if_neg c5] at H
    have c5b0 : (((rd_T45 l0_0 a1).f0) == 1) = false := beq_eq_false_iff_ne.mpr c5
    have c5b1 : (((rd_T45 l0_0 a1).f0) != 1) = true := bne_iff_ne.mpr c5
    obtain rfl := Option.some.inj H
    go_enter Try.func121, Try.ntmps121
    go_wp2_with (first | ((with_reducible refine gate_dst (N := 2) rfl ?_); refine box_event ?hg (N := 2) ?hd (cs := #[.slice A0_0 l0_0.length c0_0]) (t := 29) ?hr ?_; (case hd => rfl); (case hg => rfl); (case hr => go_simp); intro gb101 hg w8 hbox hb; have n0_ := Ak (below_step (HB.out) hb); have n1_ := Ak (hbox); have n2_ := Ak ((by rw [hg]; exact (below_size (HB.out)) : w.heap.size ≤ gb101)); have n3_ := n2_; clear HB; have HB := n0_; have BK101 := n1_; have GW101 := n2_; have GE101 := n3_; clear n0_ n1_ n2_ n3_; clear hb hbox hg; have hcz9_0 := blk_cell BK101.out 0; have hfz9_0 := blk_frozen BK101.out 0; have p102 : 0 ≤ (a1 : Int) := of_decide_eq_true (by assumption); have q102 : a1 < (l0_0.length : Int) := of_decide_eq_true (by assumption); obtain ⟨ad102, A102_2, c102_2, A102_5, c102_5, e102, hx102_0, hx102_1, hx102_2, hx102_3, hx102_4, hx102_5, hl102_2, hi102_2, hl102_5, hi102_5⟩ := at_T45 HR0_0.out a1 p102 q102; cases e102; replace hx102_0 := pw_cell_below HB.out hx102_0; replace hx102_1 := pw_cell_below HB.out hx102_1; replace hx102_2 := pw_cell_below HB.out hx102_2; replace hx102_3 := pw_cell_below HB.out hx102_3; replace hx102_4 := pw_cell_below HB.out hx102_4; replace hx102_5 := pw_cell_below HB.out hx102_5; have HR102_2 := Ak hi102_2; have HC102_2 := Ak hl102_2; clear hi102_2 hl102_2; have HR102_5 := Ak hi102_5; have HC102_5 := Ak hl102_5; clear hi102_5 hl102_5; replace p102 := eq_true p102; replace q102 := eq_true q102; have p103 : 0 ≤ (a1 : Int) := of_decide_eq_true (by assumption); have q103 : a1 < (l0_0.length : Int) := of_decide_eq_true (by assumption); obtain ⟨ad103, A103_2, c103_2, A103_5, c103_5, e103, hx103_0, hx103_1, hx103_2, hx103_3, hx103_4, hx103_5, hl103_2, hi103_2, hl103_5, hi103_5⟩ := at_T45 HR0_0.out a1 p103 q103; obtain rfl : ad102 = ad103 := (by injection e103); replace hx103_0 := pw_cell_below HB.out hx103_0; replace hx103_1 := pw_cell_below HB.out hx103_1; replace hx103_2 := pw_cell_below HB.out hx103_2; replace hx103_3 := pw_cell_below HB.out hx103_3; replace hx103_4 := pw_cell_below HB.out hx103_4; replace hx103_5 := pw_cell_below HB.out hx103_5; have HR103_2 := Ak hi103_2; have HC103_2 := Ak hl103_2; clear hi103_2 hl103_2; have HR103_5 := Ak hi103_5; have HC103_5 := Ak hl103_5; clear hi103_5 hl103_5; replace p103 := eq_true p103; replace q103 := eq_true q103; have ea_ := Option.some.inj (hx102_2.symm.trans hx103_2); injection ea_ with ea_ en_ ec_; subst ea_; subst ec_; clear en_; have ea_ := Option.some.inj (hx102_5.symm.trans hx103_5); injection ea_ with ea_ en_ ec_; subst ea_; subst ec_; clear en_))
    go_ret
    exact ⟨by first | rfl | (simp [*] <;> rfl), HB.out⟩
  ·rw [if_neg c4] at H
   exact absurd H (by simp)
 ·rw [if_neg c3] at H
  exact absurd H (by simp)
def spec_l6Less.l0 : Nat → List Int → Int → List Int → Int → Option (List Int)
 | 0, _, _, _, _ => none
 | k + 1, x0, x1, x5, x6 => if x6 < (x0.length : Int) then (if 0 ≤ x6 then (if (rd x0 x6) = x1 then (spec_l6Less.l0 k x0 x1 x5 (wrap64 (x6 + 1))) else (if x5.length < 17592186044416 then (spec_l6Less.l0 k x0 x1 (x5 ++ [rd x0 x6]) (wrap64 (x6 + 1))) else (none))) else (none)) else (some x5)
def spec_l6Less.f (k : Nat) (l0 : List Int) (a1 : Int) : Option (List Int) := spec_l6Less.l0 k l0 a1 (([] : List Int)) 0
theorem spec_l6Less.mono_l : ∀ k, (∀ y0 y1 y2 y3, LeO (spec_l6Less.l0 k y0 y1 y2 y3) (spec_l6Less.l0 (k + 1) y0 y1 y2 y3))
 | 0 => fun _ _ _ _ r h => by simp [spec_l6Less.l0] at h
 | k + 1 => by
  have ih0 := spec_l6Less.mono_l k
  ·intro y0 y1 y2 y3
   unfold spec_l6Less.l0
   repeat' first
   | (with_reducible exact ih0 _ _ _ _)
   | (with_reducible exact LeO.refl _)
   | (with_reducible exact LeO.none _)
   | (with_reducible refine LeO.ite ?_ ?_)
   | (with_reducible refine LeO.bind ?_ (fun _ => ?_))
   | exact ih0 _ _ _ _
   | exact LeO.none _
   | refine LeO.ite ?_ ?_
   | refine LeO.bind ?_ (fun _ => ?_)
theorem spec_l6Less.mono : ∀ a0 a1 k, LeO (spec_l6Less.f k a0 a1) (spec_l6Less.f (k + 1) a0 a1) := by
 intro a0 a1 k
 have ih0 := spec_l6Less.mono_l k
 unfold spec_l6Less.f
 repeat' first
  | (with_reducible exact ih0 _ _ _ _)
  | (with_reducible exact LeO.refl _)
  | (with_reducible exact LeO.none _)
  | (with_reducible refine LeO.ite ?_ ?_)
  | (with_reducible refine LeO.bind ?_ (fun _ => ?_))
  | exact ih0 _ _ _ _
  | exact LeO.none _
  | refine LeO.ite ?_ ?_
  | refine LeO.bind ?_ (fun _ => ?_)
theorem spec_l6Less.calls (k : Nat) (A0 : Option Addr) (c0 : Nat) (l0 : List Int) (a1 : Int) (r : List Int) (w : World) (hr0 : Kd.C (Kd.int .i64) w A0 l0.length l0) (hc0 : l0.length ≤ c0) (h : spec_l6Less.f k l0 a1 = some r) :
 Calls Try.prog 136 #[.slice A0 l0.length c0, .int .i64 a1] w fun e w' => ∃ v0_ : Value, e = .returned (v0_) ∧ Kd.R (Kd.int .i64) 3 w' w.heap.size (fun _ => True) v0_ r ∧ Below w.heap.size w w' := by
 have HR0 := Ak hr0
 have HC0 := Ak hc0
 clear hr0 hc0
 have HB := Ak (Below.refl w.heap.size w)
 have H : (spec_l6Less.l0 k l0 a1 (([] : List Int)) 0) = some r := h
 clear h
 obtain ⟨y101, hy101⟩ : ∃ y_ : List Int, y_ = (([] : List Int)) := ⟨_, rfl⟩
 replace H : (spec_l6Less.l0 k l0 a1 y101 0) = some r := by first | (rw [hy101]; with_reducible exact H) | (have H2_ := (Option.bind_some _ _).symm.trans H; rw [hy101]; with_reducible exact H2_) | (have H2_ := (Option.bind_some _ _).symm.trans H; with_reducible exact H2_) | with_reducible exact H | (rw [hy101]; exact H) | exact H
 have Ny101 := Ak hy101
 clear hy101
 have H' := Ak H
 clear H
 go_enter Try.func136, Try.ntmps136
 go_wp2_with (first | ((with_reducible refine gate_dst (N := 7) rfl ?_); refine Kd.R_lit (Kd.int .i64) _ 3 ?hg (N := 7) ?hd (xs := ([] : List Int)) (inner := []) (ok := fun _ => True) (okp := fun _ => True) ?hr ?hp (fun _ hk => hk) trivial (Below.refl _ _) (Nat.le_refl _) (by simp) ?_; (case hd => rfl); (case hg => rfl); (case hr => first | (go_simp; done) | (go_simp; rfl)); (case hp => exact (Reps.none _ _)); intro v102 w3 ho4 hb hg_ hnew_; clear hg_ hnew_; (first | rw [← Ny101.out] at ho4 | (simp only [Int.reduceToNat] at ho4; rw [← Ny101.out] at ho4)); have n0_ := Ak (Kd.R_lower ho4 (below_size (HB.out))); have n1_ := Ak (below_step (HB.out) hb); clear HB; have HO103 := n0_; have HB := n1_; clear n0_ n1_; clear hb ho4))
 go_loopg [5, 6] k (fun kq v5 v6 w' => ∃ (x5_1 : List Int) (x6_1 : Int), v6 = .int .i64 x6_1 ∧ Aside0 (spec_l6Less.l0 kq l0 a1 x5_1 x6_1 = some r) ∧ Aside0 (kq ≤ k) ∧ Aside0 (Kd.R (Kd.int .i64) 3 w' w.heap.size (fun _ => True) v5 x5_1) ∧ Aside0 (Below w.heap.size w w'))
 case atStart => exact ⟨(y101), (0), (by first | rfl | (simp; done) | (simp [*]; done)), H', ⟨Nat.le_refl _⟩, ⟨by (with_reducible repeat (first | apply Kd.R_alloc | apply Kd.R_drewN | apply Kd.R_drew)); exact HO103.out⟩, ⟨HB.out⟩⟩
 case round =>
  clear H'
  try clear c1
  try clear p2
  obtain ⟨x5_1, x6_1, rfl, HA, HK1, HO_5, HB⟩ := hrel
  cases gk with
  | zero => exact absurd HA.out (by simp [spec_l6Less.l0])
  | succ k1 =>
   have H := HA.out
   clear HA
   simp only [spec_l6Less.l0] at H
   by_cases c5 : x6_1 < (l0.length : Int)
   ·rw [if_pos c5] at H
    have c5b0 : decide (x6_1 < (l0.length : Int)) = true := decide_eq_true c5
    clear c5
    by_cases c6 : 0 ≤ x6_1
    ·rw [if_pos c6] at H
     have c6b0 : decide (0 ≤ x6_1) = true := decide_eq_true c6
     clear c6
     by_cases c7 : (rd l0 x6_1) = a1
     ·rw [if_pos c7] at H
      have c7b0 : ((rd l0 x6_1) == a1) = true := beq_iff_eq.mpr c7
      have c7b1 : ((rd l0 x6_1) != a1) = false := bne_eq_false_iff_eq.mpr c7
      clear c7
      have H' := Ak H
      clear H
      have p104 : 0 ≤ (x6_1 : Int) := of_decide_eq_true (by assumption)
      have q104 : x6_1 < (l0.length : Int) := of_decide_eq_true (by assumption)
      obtain ⟨ad104, e104, hx104_0⟩ := Kd.at_int HR0.out x6_1 p104 q104
      cases e104
      replace hx104_0 := pw_cell_below HB.out hx104_0
      replace p104 := eq_true p104
      replace q104 := eq_true q104
      go_wp2
      go_roundg k1
      case measure => have := HK1.out; omega
      case rel => exact ⟨(x5_1), (wrap64 (x6_1 + 1)), (by first | rfl | (simp; done) | (simp [*]; done)), H', ⟨by have := HK1.out; omega⟩, ⟨by (with_reducible repeat (first | apply Kd.R_alloc | apply Kd.R_drewN | apply Kd.R_drew)); exact HO_5.out⟩, ⟨HB.out⟩⟩
     ·rw [if_neg c7] at H
      have c7b0 : ((rd l0 x6_1) == a1) = false := beq_eq_false_iff_ne.mpr c7
      have c7b1 : ((rd l0 x6_1) != a1) = true := bne_iff_ne.mpr c7
      by_cases c8 : x5_1.length < 17592186044416
      ·rw [if_pos c8] at H
       have LMc8 := Ak c8
       clear c8
       obtain ⟨y106, hy106⟩ : ∃ y_ : List Int, y_ = (x5_1 ++ [rd l0 x6_1]) := ⟨_, rfl⟩
       replace H : (spec_l6Less.l0 k1 l0 a1 y106 (wrap64 (x6_1 + 1))) = some r := by first | (rw [hy106]; with_reducible exact H) | (have H2_ := (Option.bind_some _ _).symm.trans H; rw [hy106]; with_reducible exact H2_) | (have H2_ := (Option.bind_some _ _).symm.trans H; with_reducible exact H2_) | with_reducible exact H | (rw [hy106]; exact H) | exact H
       have Ny106 := Ak hy106
       clear hy106
       have H' := Ak H
       clear H
       have p104 : 0 ≤ (x6_1 : Int) := of_decide_eq_true (by assumption)
       have q104 : x6_1 < (l0.length : Int) := of_decide_eq_true (by assumption)
       obtain ⟨ad104, e104, hx104_0⟩ := Kd.at_int HR0.out x6_1 p104 q104
       cases e104
       replace hx104_0 := pw_cell_below HB.out hx104_0
       replace p104 := eq_true p104
       replace q104 := eq_true q104
       have p105 : 0 ≤ (x6_1 : Int) := of_decide_eq_true (by assumption)
       have q105 : x6_1 < (l0.length : Int) := of_decide_eq_true (by assumption)
       obtain ⟨ad105, e105, hx105_0⟩ := Kd.at_int HR0.out x6_1 p105 q105
       obtain rfl : ad104 = ad105 := (by injection e105)
       replace hx105_0 := pw_cell_below HB.out hx105_0
       replace p105 := eq_true p105
       replace q105 := eq_true q105
       go_wp2_with (first | ((with_reducible refine gate_builtin (b := .append) (xs := #[.tmp 20, .tmp 25]) rfl ?_); at_builtin; refine Kd.R_append (Kd.int .i64) (w0 := w) w.heap.size rfl (.tmp 20) (.tmp 25) 37 3 (.int .i64 0) 8 rfl Try.underlying37 info3 rfl (by decide) (by omega) u5 x5_1 (rd l0 x6_1) [.int .i64 (rd l0 x6_1)] (fun _ => True) (fun _ => False) rfl rfl ?aP (fun _ hk => hk.elim) ?aF ?aO ?aB ?aS ?aL ?_; (case aP => exact rfl); (case aB => exact (HB.out)); (case aF => exact (fun _ _ => trivial)); (case aO => exact HO_5.out); (case aS => exact (below_size (HB.out))); (case aL => have := LMc8.out; omega); intro v107 w9 ho hb hg hat; rw [← Ny106.out] at ho; have n0_ := Ak (hb); have n1_ := Ak (ho); clear HB; clear HO_5; have HB := n0_; have HO108 := n1_; clear n0_ n1_; clear ho hb hg hat))
       go_roundg k1
       case measure => have := HK1.out; omega
       case rel => exact ⟨(y106), (wrap64 (x6_1 + 1)), (by first | rfl | (simp; done) | (simp [*]; done)), H', ⟨by have := HK1.out; omega⟩, ⟨by (with_reducible repeat (first | apply Kd.R_alloc | apply Kd.R_drewN | apply Kd.R_drew)); exact HO108.out⟩, ⟨HB.out⟩⟩
      ·rw [if_neg c8] at H
       exact absurd H (by simp)
    ·rw [if_neg c6] at H
     exact absurd H (by simp)
   ·rw [if_neg c5] at H
    have c5b0 : decide (x6_1 < (l0.length : Int)) = false := decide_eq_false c5
    clear c5
    obtain rfl := Option.some.inj H
    go_wp2
    go_ret
    exact ⟨_, by first | rfl | (simp [*] <;> rfl), by (with_reducible repeat (first | apply Kd.R_alloc | apply Kd.R_drewN | apply Kd.R_drew)); exact HO_5.out, HB.out⟩
def spec_l6Take.f (k : Nat) (xs : List S45) (a1 : Int) : Option (List S45) := if 0 ≤ a1 then (if a1 < (xs.length : Int) then (if 0 ≤ (rd_T45 xs a1).f4 then (if (rd_T45 xs a1).f4 < (xs.length : Int) then (spec_l6Less.f k (rd_T45 xs (rd_T45 xs a1).f4).f5 a1).bind fun ks => some ((xs.set (rd_T45 xs a1).f4.toNat (⟨(rd_T45 xs (rd_T45 xs a1).f4).f0, (rd_T45 xs (rd_T45 xs a1).f4).f1, (rd_T45 xs (rd_T45 xs a1).f4).f2, (rd_T45 xs (rd_T45 xs a1).f4).f3, (rd_T45 xs (rd_T45 xs a1).f4).f4, ks⟩ : S45)).set a1.toNat ⟨(rd_T45 (xs.set (rd_T45 xs a1).f4.toNat (⟨(rd_T45 xs (rd_T45 xs a1).f4).f0, (rd_T45 xs (rd_T45 xs a1).f4).f1, (rd_T45 xs (rd_T45 xs a1).f4).f2, (rd_T45 xs (rd_T45 xs a1).f4).f3, (rd_T45 xs (rd_T45 xs a1).f4).f4, ks⟩ : S45)) a1).f0, (rd_T45 (xs.set (rd_T45 xs a1).f4.toNat (⟨(rd_T45 xs (rd_T45 xs a1).f4).f0, (rd_T45 xs (rd_T45 xs a1).f4).f1, (rd_T45 xs (rd_T45 xs a1).f4).f2, (rd_T45 xs (rd_T45 xs a1).f4).f3, (rd_T45 xs (rd_T45 xs a1).f4).f4, ks⟩ : S45)) a1).f1, (rd_T45 (xs.set (rd_T45 xs a1).f4.toNat (⟨(rd_T45 xs (rd_T45 xs a1).f4).f0, (rd_T45 xs (rd_T45 xs a1).f4).f1, (rd_T45 xs (rd_T45 xs a1).f4).f2, (rd_T45 xs (rd_T45 xs a1).f4).f3, (rd_T45 xs (rd_T45 xs a1).f4).f4, ks⟩ : S45)) a1).f2, (rd_T45 (xs.set (rd_T45 xs a1).f4.toNat (⟨(rd_T45 xs (rd_T45 xs a1).f4).f0, (rd_T45 xs (rd_T45 xs a1).f4).f1, (rd_T45 xs (rd_T45 xs a1).f4).f2, (rd_T45 xs (rd_T45 xs a1).f4).f3, (rd_T45 xs (rd_T45 xs a1).f4).f4, ks⟩ : S45)) a1).f3, (-1), (rd_T45 (xs.set (rd_T45 xs a1).f4.toNat (⟨(rd_T45 xs (rd_T45 xs a1).f4).f0, (rd_T45 xs (rd_T45 xs a1).f4).f1, (rd_T45 xs (rd_T45 xs a1).f4).f2, (rd_T45 xs (rd_T45 xs a1).f4).f3, (rd_T45 xs (rd_T45 xs a1).f4).f4, ks⟩ : S45)) a1).f5⟩) else none) else some xs) else none) else none
theorem spec_l6Take.mono : ∀ a0 a1 k, LeO (spec_l6Take.f k a0 a1) (spec_l6Take.f (k + 1) a0 a1) := fun _ _ k => LeO.ite (LeO.ite (LeO.ite (LeO.ite (LeO.bind (spec_l6Less.mono _ _ k) (fun _ => LeO.refl _)) (LeO.refl _)) (LeO.refl _)) (LeO.refl _)) (LeO.refl _)
theorem spec_l6Take.calls (k : Nat) (P_ : Nat → Prop) (g cap : Nat) (xs : List S45) (a1 : Int) (r : List S45) (w0 w : World) (hB : Below w0.heap.size w0 w) (hS : Kd.S k45 45 w w0.heap.size P_ (.slice (some ⟨g, 0, none⟩) xs.length cap) xs) (h : spec_l6Take.f k xs a1 = some r) :
 Calls Try.prog 135 #[.agg #[.slice (some ⟨g, 0, none⟩) xs.length cap], .int .i64 a1] w fun e w' => e = .returned (.agg #[.slice (some ⟨g, 0, none⟩) r.length cap]) ∧ r.length = xs.length ∧ Kd.S k45 45 w' w0.heap.size (fun k_ => P_ k_ ∨ w.heap.size ≤ k_) (.slice (some ⟨g, 0, none⟩) r.length cap) r ∧ Below w0.heap.size w0 w' ∧ Kept w w' P_ := by
 unfold spec_l6Take.f at h
 by_cases c1 : 0 ≤ a1
 ·rw [if_pos c1] at h
  by_cases c2 : a1 < (xs.length : Int)
  ·rw [if_pos c2] at h
   have HB := Ak hB
   have HS := Ak hS
   have HA := Ak h
   clear hB hS h
   have C1 := Ak c1
   have C2 := Ak c2
   replace c1 := eq_true c1
   replace c2 := eq_true c2
   go_enter Try.func135, Try.ntmps135
   go_upto_region 1 with (first | ((with_reducible refine gate_dst (N := 2) rfl ?_); refine box_event ?hg (N := 2) ?hd (cs := #[.slice (some ⟨g, 0, none⟩) xs.length cap]) (t := 29) ?hr ?_; (case hd => rfl); (case hg => rfl); (case hr => first | (go_simp; done) | (go_simp; rfl)); intro gt hg w1 hbox hb; have HT := Ak hbox; have HL := Ak hb; have HG1 := Ak (show w.heap.size ≤ gt by rw [hg]; exact Nat.le_refl _); clear hbox hb hg) | ((with_reducible refine gate_dst (N := 4) rfl ?_); refine box_event ?hg (N := 4) ?hd (cs := #[.slice none 0 0]) (t := 29) ?hr ?_; (case hd => rfl); (case hg => rfl); (case hr => first | (go_simp; done) | (go_simp; rfl)); intro gr hg w2 hbox hb; have HW := Ak (HngW.start (A := none) HS.out HB.out (below_step HL.out hb) (blk_below HT.out hb) hbox HG1.out (by rw [hg]; exact HL.out.size)); clear hbox hb hg HT HL HG1))
   obtain ⟨he4, A5, c5, he5, hl5, hC5⟩ := HW.out.elem a1 C1.out (by have := C2.out; omega)
   have hcg := HW.out.cell
   clear he5 hl5 hC5
   by_cases c3 : 0 ≤ (rd_T45 xs a1).f4
   ·have H := HA.out
    rw [if_pos c3] at H
    by_cases c4 : (rd_T45 xs a1).f4 < (xs.length : Int)
    ·rw [if_pos c4] at H
     obtain ⟨ks, A1, H⟩ := Option.bind_eq_some_iff.1 H
     obtain rfl := Option.some.inj H
     have HA1 := Ak A1
     have C3 := Ak c3
     have C4 := Ak c4
     have c3b : decide (0 ≤ (rd_T45 xs a1).f4) = true := decide_eq_true c3
     replace c3 := eq_true c3
     replace c4 := eq_true c4
     clear HA H A1
     go_upto_region 3 with (fail)
     clear hcg he4
     generalize hp : (rd_T45 xs a1).f4 = p at *
     have HWD := Ak (show HngW w0 w w2.drew P_ gt gr g xs.length cap xs from HW.out.below (pw_below_drewN (Below.refl _ _) 1))
     clear HW
     obtain ⟨he4, A5, c5, he5, hl5, hC5⟩ := HWD.out.elem p C3.out (by have := C4.out; omega)
     have hcg := HWD.out.cell
     have HL5 := Ak hl5
     have HC5 := Ak hC5
     clear he4 hl5 hC5
     refine wp_region_N (n := 13) (S := (fun w' => w'.cell? ⟨gt, 0, none⟩ = some (.slice (some ⟨g, 0, none⟩) xs.length cap) ∧ w'.cell? ⟨g, p.toNat * 6 + 5, none⟩ = some (.slice A5 (rd_T45 xs p).f5.length c5))) (by kernel_rfl) ⟨hcg, he5⟩ (fun hHeld => ?_)
     generalize w2.drew = WD at HWD HC5 hcg he5 hHeld ⊢
     refine wpAnyN_take (i := 0) (v := ?v100) rfl (by kernel_rfl) (by kernel_rfl) (by kernel_rfl) (by kernel_rfl) (fun _ _ _ h => h) (Or.inl ⟨by rfl, ?h100⟩) hHeld ?r100
     case h100 => (intro w_ hSw; (try dsimp only at hSw); go_simp; (try with_reducible rfl))
     refine wpAnyN_take (i := 1) (v := ?v201) rfl (by kernel_rfl) (by kernel_rfl) (by kernel_rfl) (by kernel_rfl) (fun _ _ _ h => h) (Or.inl ⟨by rfl, ?h201⟩) hHeld ?r201
     case h201 => (intro w_ hSw; (try dsimp only at hSw); go_simp; (try with_reducible rfl))
     refine wpAnyN_take (i := 2) (v := ?v302) rfl (by kernel_rfl) (by kernel_rfl) (by kernel_rfl) (by kernel_rfl) (fun _ _ _ h => h) (Or.inl ⟨by rfl, ?h302⟩) hHeld ?r302
     case h302 => (intro w_ hSw; (try dsimp only at hSw); go_simp; (try with_reducible rfl))
     refine wpAnyN_take (i := 3) (v := ?v403) rfl (by kernel_rfl) (by kernel_rfl) (by kernel_rfl) (by kernel_rfl) (fun _ _ _ h => h) (Or.inl ⟨by rfl, ?h403⟩) hHeld ?r403
     case h403 => (intro w_ hSw; (try dsimp only at hSw); go_simp; (try with_reducible rfl))
     refine wpAnyN_take (i := 4) (v := ?v504) rfl (by kernel_rfl) (by kernel_rfl) (by kernel_rfl) (by kernel_rfl) (fun _ _ _ h => h) (Or.inl ⟨by rfl, ?h504⟩) hHeld ?r504
     case h504 => (intro w_ hSw; (try dsimp only at hSw); go_simp; (try with_reducible rfl))
     refine wpAnyN_take (i := 5) (v := ?v605) rfl (by kernel_rfl) (by kernel_rfl) (by kernel_rfl) (by kernel_rfl) (fun _ _ _ h => h) (Or.inl ⟨by rfl, ?h605⟩) hHeld ?r605
     case h605 => (intro w_ hSw; (try dsimp only at hSw); go_simp; (try with_reducible rfl))
     refine wpAnyN_take (i := 6) (v := ?v706) rfl (by kernel_rfl) (by kernel_rfl) (by kernel_rfl) (by kernel_rfl) (fun _ _ _ h => h) (Or.inl ⟨by rfl, ?h706⟩) hHeld ?r706
     case h706 => (intro w_ hSw; (try dsimp only at hSw); go_simp; (try with_reducible rfl))
     refine wpAnyN_take (i := 7) (v := ?v807) rfl (by kernel_rfl) (by kernel_rfl) (by kernel_rfl) (by kernel_rfl) (fun _ _ _ h => h) (Or.inl ⟨by rfl, ?h807⟩) hHeld ?r807
     case h807 => (intro w_ hSw; (try dsimp only at hSw); go_simp; (try with_reducible rfl))
     refine wpAnyN_take (i := 8) (v := ?v908) rfl (by kernel_rfl) (by kernel_rfl) (by kernel_rfl) (by kernel_rfl) (fun _ _ _ h => h) (Or.inl ⟨by rfl, ?h908⟩) hHeld ?r908
     case h908 => (intro w_ hSw; (try dsimp only at hSw); go_simp; (try with_reducible rfl))
     refine wpAnyN_take (i := 9) (v := ?v1009) rfl (by kernel_rfl) (by kernel_rfl) (by kernel_rfl) (by kernel_rfl) (fun _ _ _ h => h) (Or.inl ⟨by rfl, ?h1009⟩) hHeld ?r1009
     case h1009 => (intro w_ hSw; (try dsimp only at hSw); go_simp; (try with_reducible rfl))
     refine wpAnyN_one (i := 10) (by kernel_rfl) rfl (fun K hK => ?_)
     go_simp
     go_at_call 136
     with_reducible refine (spec_l6Less.calls k A5 c5 (rd_T45 xs p).f5 a1 ks _ HC5.out HL5.out HA1.out).mono ?_
     rintro e wq ⟨v, rfl, hr, hb⟩
     obtain ⟨B5, d5, rfl⟩ := Kd.R_slice hr
     have HR5 := Ak hr
     have HB5 := Ak hb
     have HW5 := Ak (HWD.out.below hb)
     have hfg := HW5.out.free
     have hce := pw_cell_below hb he5
     clear hr hb
     go_wp2_with fail
     refine hK.out _ _ ?_ (fun hH10 => ?_)
     ·(try dsimp only); exact ⟨HW5.out.cell, hce⟩
     clear hK K
     refine wpAnyN_one (i := 11) (by kernel_rfl) rfl (fun K hK => ?_)
     go_simp
     refine hK.out _ _ ?_ (fun hH11 => ?_)
     ·(try dsimp only); exact hH10
     clear hK K
     refine wpAnyN_one (i := 12) (by kernel_rfl) rfl (fun K hK => ?_)
     go_simp
     refine hK.out _ _ ?_ (fun hH12 => ?_)
     ·(try dsimp only); exact hH11
     clear hK K
     refine wpAnyN_last (by kernel_rfl) (by kernel_rfl) rfl (fun K hK => ?_)
     go_simp
     refine hK.out _ _ ?_
     clear hK K
     have HW4 := Ak (HWD.out.kid p C3.out (by have := C4.out; omega) HB5.out HR5.out)
     clear HWD HB5 HR5 HL5 HC5 hcg he5 hfg hce HW5 HA1
     generalize World.setCell wq ⟨g, p.toNat * 6 + 5, none⟩ (.slice B5 ks.length d5) = w5 at HW4 ⊢
     have hcg := HW4.out.cell
     have he4 := (HW4.out.elem a1 C1.out (by have := C2.out; omega)).1
     have hf4 := HW4.out.free
     go_upto_region 5 with (fail)
     have HW6 := Ak (HW4.out.par a1 (-1) C1.out (by have := C2.out; omega))
     clear hcg he4 hf4 HW4
     generalize World.setCell w5 ⟨g, a1.toNat * 6 + 4, none⟩ (.int .i64 (-1)) = w6 at HW6 ⊢
     have hcg := HW6.out.cell
     have hcr := blk_cell HW6.out.br 0
     have hfr := blk_frozen HW6.out.br
     go_wp2_with fail
     refine bodyPost_ret (results_cell_row rfl _ _ gr 29 #[.slice (some ⟨g, 0, none⟩) xs.length cap] (0, 0) _ rfl (blk_put (cs := #[.slice none 0 0]) HW6.out.br 0 _ rfl) Try.underlying29 rfl (by kernel_rfl)) rfl ?_
     have h3 := HW6.out.done (.slice (some ⟨g, 0, none⟩) xs.length cap)
     subst hp
     have hlen := HW6.out.len
     refine ⟨by rw [← hlen], hlen.symm, by rw [← hlen]; exact h3.1, h3.2.1, h3.2.2⟩
    ·rw [if_neg c4] at H; cases H
   ·have H := HA.out
    rw [if_neg c3] at H
    obtain rfl := Option.some.inj H
    have c3b : decide (0 ≤ (rd_T45 xs a1).f4) = false := decide_eq_false c3
    clear c3
    have hcr := blk_cell HW.out.br 0
    have hfr := blk_frozen HW.out.br
    go_wp2_with fail
    refine bodyPost_ret (results_cell_row rfl _ _ gr 29 #[.slice (some ⟨g, 0, none⟩) xs.length cap] (0, 0) _ rfl (blk_put (cs := #[.slice none 0 0]) HW.out.br 0 _ rfl) Try.underlying29 rfl (by kernel_rfl)) rfl ?_
    have h3 := HW.out.done (.slice (some ⟨g, 0, none⟩) xs.length cap)
    exact ⟨rfl, h3.1, h3.2.1, h3.2.2⟩
  ·rw [if_neg c2] at h; cases h
 ·rw [if_neg c1] at h; cases h
def spec_l6Hang.f (k : Nat) (xs : List S45) (a1 a2 : Int) : Option (List S45) := (spec_l6Take.f k xs a1).bind fun ys => if 0 ≤ a2 then (if a2 < (ys.length : Int) then (spec_l6Less.f k (rd_T45 ys a2).f5 a1).bind fun ks => if 0 ≤ a1 then (if a1 < (ys.length : Int) then (if ks.length < 1000000 then some ((ys.set a2.toNat (⟨(rd_T45 ys a2).f0, (rd_T45 ys a2).f1, (rd_T45 ys a2).f2, (rd_T45 ys a2).f3, (rd_T45 ys a2).f4, (ks ++ [a1])⟩ : S45)).set a1.toNat ⟨(rd_T45 (ys.set a2.toNat (⟨(rd_T45 ys a2).f0, (rd_T45 ys a2).f1, (rd_T45 ys a2).f2, (rd_T45 ys a2).f3, (rd_T45 ys a2).f4, (ks ++ [a1])⟩ : S45)) a1).f0, (rd_T45 (ys.set a2.toNat (⟨(rd_T45 ys a2).f0, (rd_T45 ys a2).f1, (rd_T45 ys a2).f2, (rd_T45 ys a2).f3, (rd_T45 ys a2).f4, (ks ++ [a1])⟩ : S45)) a1).f1, (rd_T45 (ys.set a2.toNat (⟨(rd_T45 ys a2).f0, (rd_T45 ys a2).f1, (rd_T45 ys a2).f2, (rd_T45 ys a2).f3, (rd_T45 ys a2).f4, (ks ++ [a1])⟩ : S45)) a1).f2, (rd_T45 (ys.set a2.toNat (⟨(rd_T45 ys a2).f0, (rd_T45 ys a2).f1, (rd_T45 ys a2).f2, (rd_T45 ys a2).f3, (rd_T45 ys a2).f4, (ks ++ [a1])⟩ : S45)) a1).f3, a2, (rd_T45 (ys.set a2.toNat (⟨(rd_T45 ys a2).f0, (rd_T45 ys a2).f1, (rd_T45 ys a2).f2, (rd_T45 ys a2).f3, (rd_T45 ys a2).f4, (ks ++ [a1])⟩ : S45)) a1).f5⟩) else none) else none) else none else none) else none
theorem spec_l6Hang.mono : ∀ a0 a1 a2 k, LeO (spec_l6Hang.f k a0 a1 a2) (spec_l6Hang.f (k + 1) a0 a1 a2) := fun _ _ _ k => LeO.bind (spec_l6Take.mono _ _ k) (fun _ => LeO.ite (LeO.ite (LeO.bind (spec_l6Less.mono _ _ k) (fun _ => LeO.refl _)) (LeO.refl _)) (LeO.refl _))
theorem R_snoc_step {P : Program} {ops : Array Oper} {o : Oper} {a : Act} {Q : Exit → Act → World → Prop} {Kc : Act → World → Prop} {W w0 : World} (hw : Region.wanted o (yielded ops a.tmps) = true) (s x : Operand) (t : TypeId) (ho : o.op = .call { callee := .builtin .append, args := #[s, x], argTypes := #[t, t] })
 (ht : P.underlying t = some (.slice 3)) (hinfo : (P.info? 3).map (fun i => (i.zero, i.size, i.bytes)) = some (some (.int .i64 0), 1, 8)) (v : Value) (ks : List Int) (g1 : Nat) (y : Int) (hs : a.eval s = v) (hx : a.eval x = .slice (some ⟨g1, 0, none⟩) 1 1) (HO : Kd.R (Kd.int .i64) 3 W w0.heap.size (fun _ => True) v ks) (hblk : W.heap[g1]? = some (.cells #[.int .i64 y] 3 (0, 0))) (HB : Below w0.heap.size w0 W) (hl : ks.length < 1000000)
 (h : ∀ v1 w1, Kd.R (Kd.int .i64) 3 w1 w0.heap.size (fun _ => True) v1 (ks ++ [y]) → Below w0.heap.size w0 w1 → Kc (a.put o.dst v1) w1) :
 if Region.wanted o (yielded ops a.tmps) = true then Oper.wp P o a W Kc Q else Kc (a.put o.dst undef) W := by
 refine Kd.R_append_rows_step (Kd.int .i64) (Rr := fun q c => q = y ∧ c = [.int .i64 y]) (w0 := w0) w0.heap.size hw s x t 3 (.int .i64 0) 8 ho ht hinfo rfl (by decide) (by omega) v ks [y] _ 1 1 (fun _ => True) (fun _ => False) hs hx HO ⟨rfl, by decide, fun _ => ⟨_, rfl, ?_⟩⟩ (by rintro q c ⟨rfl, rfl⟩; rfl) (fun _ h_ => h_.elim) (fun _ _ => trivial) HB HB.size (by omega) (fun v1 w1 hr hb _ _ => h v1 w1 hr hb)
 intro j q hq
 cases j with
 | succ j => simp at hq
 | zero =>
  refine ⟨[.int .i64 y], rfl, ⟨by simpa using hq.symm, rfl⟩, fun i u hu => ?_⟩
  have h0 : (⟨g1, 0, none⟩ : Addr).add (0 * (Kd.int .i64).sz + i) = ⟨g1, i, none⟩ := by simp [Addr.add]; exact fun e_ => e_.symm
  rw [h0]
  exact (blk_cell hblk i).trans (by simpa using hu)
theorem spec_l6Hang.calls (k : Nat) (P_ : Nat → Prop) (g cap : Nat) (xs : List S45) (a1 a2 : Int) (r : List S45) (w0 w : World) (hB : Below w0.heap.size w0 w) (hS : Kd.S k45 45 w w0.heap.size P_ (.slice (some ⟨g, 0, none⟩) xs.length cap) xs) (h : spec_l6Hang.f k xs a1 a2 = some r) :
 Calls Try.prog 122 #[.agg #[.slice (some ⟨g, 0, none⟩) xs.length cap], .int .i64 a1, .int .i64 a2] w fun e w' => e = .returned (.agg #[.slice (some ⟨g, 0, none⟩) r.length cap]) ∧ r.length = xs.length ∧ Kd.S k45 45 w' w0.heap.size (fun k_ => P_ k_ ∨ w.heap.size ≤ k_) (.slice (some ⟨g, 0, none⟩) r.length cap) r ∧ Below w0.heap.size w0 w' ∧ Kept w w' P_ := by
 unfold spec_l6Hang.f at h
 obtain ⟨ys, A0, h⟩ := Option.bind_eq_some_iff.1 h
 by_cases c1 : 0 ≤ a2
 ·rw [if_pos c1] at h
  by_cases c2 : a2 < (ys.length : Int)
  ·rw [if_pos c2] at h
   obtain ⟨ks, A1, h⟩ := Option.bind_eq_some_iff.1 h
   by_cases c3 : 0 ≤ a1
   ·rw [if_pos c3] at h
    by_cases c4 : a1 < (ys.length : Int)
    ·rw [if_pos c4] at h
     by_cases c5 : ks.length < 1000000
     ·rw [if_pos c5] at h
      obtain rfl := Option.some.inj h
      have HB := Ak hB
      have HS := Ak hS
      have HA0 := Ak A0
      have HA1 := Ak A1
      have C1 := Ak c1
      have C2 := Ak c2
      have C3 := Ak c3
      have C4 := Ak c4
      have C5 := Ak c5
      clear hB hS h A0 A1 c5
      replace c1 := eq_true c1
      replace c2 := eq_true c2
      replace c3 := eq_true c3
      replace c4 := eq_true c4
      go_enter Try.func122, Try.ntmps122
      go_upto_region 1 with (first | ((with_reducible refine gate_dst (N := 3) rfl ?_); refine box_event ?hg (N := 3) ?hd (cs := #[.slice (some ⟨g, 0, none⟩) xs.length cap]) (t := 29) ?hr ?_; (case hd => rfl); (case hg => rfl); (case hr => first | (go_simp; done) | (go_simp; rfl)); intro gt hg w1 hbox hb; have HT := Ak hbox; have HL := Ak hb; have HG1 := Ak (show w.heap.size ≤ gt by rw [hg]; exact Nat.le_refl _); clear hbox hb hg) | ((with_reducible refine gate_dst (N := 6) rfl ?_); refine box_event ?hg (N := 6) ?hd (cs := #[.slice none 0 0]) (t := 29) ?hr ?_; (case hd => rfl); (case hg => rfl); (case hr => first | (go_simp; done) | (go_simp; rfl)); intro gr hg w2 hbox hb; have HW := Ak (HngW.start (A := none) HS.out HB.out (below_step HL.out hb) (blk_below HT.out hb) hbox HG1.out (by rw [hg]; exact HL.out.size)); clear hbox hb hg HT HL HG1))
      have hct := HW.out.cell
      have hft := blk_frozen HW.out.bt
      go_upto_region 2 with (first | (go_at_call 135; (with_reducible refine (spec_l6Take.calls k (fun k_ => (P_ k_ ∧ k_ < w.heap.size) ∨ (w.heap.size ≤ k_ ∧ k_ ≠ gt ∧ k_ ≠ gr)) g cap xs a1 ys w0 w2 HW.out.low HW.out.s HA0.out).mono ?_); rintro e w3 ⟨rfl, hlen, hS, hl, hk⟩; have HW3 := Ak (HW.out.call hlen hS hl hk); have HLEN := Ak hlen; have hct3 := HW3.out.cell; have hft3 := blk_frozen HW3.out.bt; clear hlen hS hl hk))
      have HW4 := Ak (HW3.out.same)
      clear hct hft hct3 hft3 HW3
      generalize World.setCell w3 ⟨gt, 0, none⟩ (.slice (some ⟨g, 0, none⟩) ys.length cap) = w4 at HW4 ⊢
      have HWD := Ak (show HngW w0 w w4.drew P_ gt gr g ys.length cap ys from HW4.out.below (pw_below_drewN (Below.refl _ _) 1))
      clear HW HW4
      obtain ⟨he4, A5, c5, he5, hl5, hC5⟩ := HWD.out.elem a2 C1.out C2.out
      have hcg := HWD.out.cell
      have HL5 := Ak hl5
      have HC5 := Ak hC5
      clear he4 hl5 hC5
      refine region_join (σ := Option Addr × Nat × Option Addr × Nat × Nat) (fun s_ => [(10, .pointer (some ⟨gt, 0, none⟩)), (11, .slice (some ⟨g, 0, none⟩) ys.length cap), (12, .int .i64 a2), (13, .pointer (some ⟨gt, 0, none⟩)), (14, .slice (some ⟨g, 0, none⟩) ys.length cap), (15, .int .i64 a2), (16, .pointer (some ⟨g, a2.toNat * 6, none⟩)), (17, .pointer (some ⟨g, a2.toNat * 6 + 5, none⟩)), (18, .slice A5 (rd_T45 ys a2).f5.length c5), (19, .int .i64 a1), (20, .slice s_.1 ks.length s_.2.1), (21, .int .i64 a1), (22, .slice (some ⟨s_.2.2.2.2, 0, none⟩) 1 1), (23, .slice s_.2.2.1 (ks.length + 1) s_.2.2.2.1), (24, .pointer (some ⟨g, a2.toNat * 6, none⟩)), (25, .pointer (some ⟨g, a2.toNat * 6 + 5, none⟩))]) (fun s_ w' => HngW w0 w w' P_ gt gr g ys.length cap (ys.set a2.toNat (⟨(rd_T45 ys a2).f0, (rd_T45 ys a2).f1, (rd_T45 ys a2).f2, (rd_T45 ys a2).f3, (rd_T45 ys a2).f4, (ks ++ [a1])⟩ : S45))) ?_ ?_
      ·skip
       refine wp_region_N (n := 16) (S := (fun w' => w'.cell? ⟨gt, 0, none⟩ = some (.slice (some ⟨g, 0, none⟩) ys.length cap) ∧ w'.cell? ⟨g, a2.toNat * 6 + 5, none⟩ = some (.slice A5 (rd_T45 ys a2).f5.length c5))) (by kernel_rfl) ⟨hcg, he5⟩ (fun hHeld => ?_)
       generalize w4.drew = WD at HWD HC5 hcg he5 hHeld ⊢
       have HLB := Ak (Below.refl WD.heap.size WD)
       have HX := HWD
       refine wpAnyN_take (i := 0) (v := ?v1100) rfl (by kernel_rfl) (by kernel_rfl) (by kernel_rfl) (by kernel_rfl) (fun _ _ _ h => h) (Or.inl ⟨by rfl, ?h1100⟩) hHeld ?r1100
       case h1100 => (intro w_ hSw; (try dsimp only at hSw); go_simp; (try with_reducible rfl))
       refine wpAnyN_take (i := 1) (v := ?v1201) rfl (by kernel_rfl) (by kernel_rfl) (by kernel_rfl) (by kernel_rfl) (fun _ _ _ h => h) (Or.inl ⟨by rfl, ?h1201⟩) hHeld ?r1201
       case h1201 => (intro w_ hSw; (try dsimp only at hSw); go_simp; (try with_reducible rfl))
       refine wpAnyN_take (i := 2) (v := ?v1302) rfl (by kernel_rfl) (by kernel_rfl) (by kernel_rfl) (by kernel_rfl) (fun _ _ _ h => h) (Or.inl ⟨by rfl, ?h1302⟩) hHeld ?r1302
       case h1302 => (intro w_ hSw; (try dsimp only at hSw); go_simp; (try with_reducible rfl))
       refine wpAnyN_take (i := 3) (v := ?v1403) rfl (by kernel_rfl) (by kernel_rfl) (by kernel_rfl) (by kernel_rfl) (fun _ _ _ h => h) (Or.inl ⟨by rfl, ?h1403⟩) hHeld ?r1403
       case h1403 => (intro w_ hSw; (try dsimp only at hSw); go_simp; (try with_reducible rfl))
       refine wpAnyN_take (i := 4) (v := ?v1504) rfl (by kernel_rfl) (by kernel_rfl) (by kernel_rfl) (by kernel_rfl) (fun _ _ _ h => h) (Or.inl ⟨by rfl, ?h1504⟩) hHeld ?r1504
       case h1504 => (intro w_ hSw; (try dsimp only at hSw); go_simp; (try with_reducible rfl))
       refine wpAnyN_take (i := 5) (v := ?v1605) rfl (by kernel_rfl) (by kernel_rfl) (by kernel_rfl) (by kernel_rfl) (fun _ _ _ h => h) (Or.inl ⟨by rfl, ?h1605⟩) hHeld ?r1605
       case h1605 => (intro w_ hSw; (try dsimp only at hSw); go_simp; (try with_reducible rfl))
       refine wpAnyN_take (i := 6) (v := ?v1706) rfl (by kernel_rfl) (by kernel_rfl) (by kernel_rfl) (by kernel_rfl) (fun _ _ _ h => h) (Or.inl ⟨by rfl, ?h1706⟩) hHeld ?r1706
       case h1706 => (intro w_ hSw; (try dsimp only at hSw); go_simp; (try with_reducible rfl))
       refine wpAnyN_take (i := 7) (v := ?v1807) rfl (by kernel_rfl) (by kernel_rfl) (by kernel_rfl) (by kernel_rfl) (fun _ _ _ h => h) (Or.inl ⟨by rfl, ?h1807⟩) hHeld ?r1807
       case h1807 => (intro w_ hSw; (try dsimp only at hSw); go_simp; (try with_reducible rfl))
       refine wpAnyN_take (i := 8) (v := ?v1908) rfl (by kernel_rfl) (by kernel_rfl) (by kernel_rfl) (by kernel_rfl) (fun _ _ _ h => h) (Or.inl ⟨by rfl, ?h1908⟩) hHeld ?r1908
       case h1908 => (intro w_ hSw; (try dsimp only at hSw); go_simp; (try with_reducible rfl))
       refine wpAnyN_take (i := 9) (v := ?v2009) rfl (by kernel_rfl) (by kernel_rfl) (by kernel_rfl) (by kernel_rfl) (fun _ _ _ h => h) (Or.inl ⟨by rfl, ?h2009⟩) hHeld ?r2009
       case h2009 => (intro w_ hSw; (try dsimp only at hSw); go_simp; (try with_reducible rfl))
       refine wpAnyN_take (i := 11) (v := ?v2111) rfl (by kernel_rfl) (by kernel_rfl) (by kernel_rfl) (by kernel_rfl) (fun _ _ _ h => h) (Or.inl ⟨by rfl, ?h2111⟩) hHeld ?r2111
       case h2111 => (intro w_ hSw; (try dsimp only at hSw); go_simp; (try with_reducible rfl))
       refine wpAnyN_two (i := 10) (j := 12) (by kernel_rfl) rfl rfl (fun K hK => ?_) (fun K hK => ?_)
       ·skip
        go_simp
        go_at_call 136
        with_reducible refine (spec_l6Less.calls k A5 c5 (rd_T45 ys a2).f5 a1 ks _ (Kd.C_below HC5.out HLB.out) HL5.out HA1.out).mono ?_
        rintro e wq ⟨v, rfl, hr, hb⟩
        obtain ⟨B5, d5, rfl⟩ := Kd.R_slice hr
        have HR5 := Ak (Kd.R_lower hr HLB.out.size)
        replace HX := Ak (HX.out.below hb)
        replace HLB := Ak (below_step HLB.out hb)
        clear hr hb
        go_wp2_with fail
        refine hK.out _ _ ?_ (fun hQ1 => ?_)
        ·(try dsimp only); exact ⟨HX.out.cell, pw_cell_below HLB.out he5⟩
        clear hK K
        refine wpAnyN_one (i := 12) (by kernel_rfl) rfl (fun K hK => ?_)
        go_simp
        refine hK.out _ _ ?_ (fun hQ2 => ?_)
        ·(try dsimp only); exact ⟨(HX.out.below (below_alloc (Below.refl _ _) _)).cell, pw_cell_below (below_step HLB.out (below_alloc (Below.refl _ _) _)) he5⟩
        clear hK K
        have hX := blk_new wq (.cells #[.int .i64 a1] 3)
        have hb := below_alloc (Below.refl (wq).heap.size wq) (.cells #[.int .i64 a1] 3)
        generalize World.alloc wq (.cells #[.int .i64 a1] 3) = wz at hX hb ⊢
        obtain ⟨gz, hg⟩ : ∃ g_, g_ = (wq).heap.size := ⟨_, rfl⟩
        rw [← hg] at hX ⊢
        replace HR5 := Ak (Kd.R_below HR5.out hb)
        have HG := Ak hX
        replace HX := Ak (HX.out.below hb)
        replace HLB := Ak (below_step HLB.out hb)
        clear hX hb hg
        refine wpAnyN_one (i := 13) (by kernel_rfl) rfl (fun K hK => ?_)
        refine R_snoc_step (w0 := WD) (by rfl) (.tmp 20) (.tmp 22) 37 rfl Try.underlying37 info3 _ ks gz a1 rfl rfl HR5.out HG.out HLB.out C5.out ?_
        intro v1 wn hr hb
        obtain ⟨Bn, dn, ev_⟩ := Kd.R_slice hr
        rw [List.length_append, List.length_singleton] at ev_
        subst ev_
        have HRn := Ak hr
        replace HLB := Ak hb
        replace HX := Ak (HWD.out.below hb)
        clear hr hb
        refine hK.out _ _ ?_ (fun hQ3 => ?_)
        ·(try dsimp only); exact ⟨HX.out.cell, pw_cell_below HLB.out he5⟩
        clear hK K
        refine wpAnyN_one (i := 14) (by kernel_rfl) rfl (fun K hK => ?_)
        go_simp
        refine hK.out _ _ ?_ (fun hQ4 => ?_)
        ·(try dsimp only); exact hQ3
        clear hK K
        refine wpAnyN_one (i := 15) (by kernel_rfl) rfl (fun K hK => ?_)
        go_simp
        refine hK.out _ _ ?_ (fun hQ5 => ?_)
        ·(try dsimp only); exact hQ3
        clear hK K
        have hfg := HX.out.free
        have hce := pw_cell_below HLB.out he5
        refine wpAnyN_last (by kernel_rfl) (by kernel_rfl) rfl (fun K hK => ?_)
        go_simp
        refine hK.out _ _ ?_
        clear hK K
        exact ⟨⟨B5, d5, Bn, dn, gz⟩, by simp only [putAll, List.foldl_cons, List.foldl_nil, Act.put, List.setIfInBounds_toArray, List.set_cons_zero, List.set_cons_succ], by have h_ := HWD.out.kid a2 C1.out C2.out HLB.out HRn.out; exact h_⟩
       ·skip
        go_simp
        refine hK.out _ _ ?_ (fun hQ6 => ?_)
        ·(try dsimp only); exact ⟨(HX.out.below (below_alloc (Below.refl _ _) _)).cell, pw_cell_below (below_step HLB.out (below_alloc (Below.refl _ _) _)) he5⟩
        clear hK K
        have hX := blk_new WD (.cells #[.int .i64 a1] 3)
        have hb := below_alloc (Below.refl (WD).heap.size WD) (.cells #[.int .i64 a1] 3)
        generalize World.alloc WD (.cells #[.int .i64 a1] 3) = wz at hX hb ⊢
        obtain ⟨gz, hg⟩ : ∃ g_, g_ = (WD).heap.size := ⟨_, rfl⟩
        rw [← hg] at hX ⊢
        have HG := Ak hX
        replace HX := Ak (HX.out.below hb)
        replace HLB := Ak (below_step HLB.out hb)
        clear hX hb hg
        refine wpAnyN_one (i := 10) (by kernel_rfl) rfl (fun K hK => ?_)
        go_simp
        go_at_call 136
        with_reducible refine (spec_l6Less.calls k A5 c5 (rd_T45 ys a2).f5 a1 ks _ (Kd.C_below HC5.out HLB.out) HL5.out HA1.out).mono ?_
        rintro e wq ⟨v, rfl, hr, hb⟩
        obtain ⟨B5, d5, rfl⟩ := Kd.R_slice hr
        have HR5 := Ak (Kd.R_lower hr HLB.out.size)
        replace HG := Ak (blk_below HG.out hb)
        replace HX := Ak (HX.out.below hb)
        replace HLB := Ak (below_step HLB.out hb)
        clear hr hb
        go_wp2_with fail
        refine hK.out _ _ ?_ (fun hQ7 => ?_)
        ·(try dsimp only); exact ⟨HX.out.cell, pw_cell_below HLB.out he5⟩
        clear hK K
        refine wpAnyN_one (i := 13) (by kernel_rfl) rfl (fun K hK => ?_)
        refine R_snoc_step (w0 := WD) (by rfl) (.tmp 20) (.tmp 22) 37 rfl Try.underlying37 info3 _ ks gz a1 rfl rfl HR5.out HG.out HLB.out C5.out ?_
        intro v1 wn hr hb
        obtain ⟨Bn, dn, ev_⟩ := Kd.R_slice hr
        rw [List.length_append, List.length_singleton] at ev_
        subst ev_
        have HRn := Ak hr
        replace HLB := Ak hb
        replace HX := Ak (HWD.out.below hb)
        clear hr hb
        refine hK.out _ _ ?_ (fun hQ8 => ?_)
        ·(try dsimp only); exact ⟨HX.out.cell, pw_cell_below HLB.out he5⟩
        clear hK K
        refine wpAnyN_one (i := 14) (by kernel_rfl) rfl (fun K hK => ?_)
        go_simp
        refine hK.out _ _ ?_ (fun hQ9 => ?_)
        ·(try dsimp only); exact hQ8
        clear hK K
        refine wpAnyN_one (i := 15) (by kernel_rfl) rfl (fun K hK => ?_)
        go_simp
        refine hK.out _ _ ?_ (fun hQ10 => ?_)
        ·(try dsimp only); exact hQ8
        clear hK K
        have hfg := HX.out.free
        have hce := pw_cell_below HLB.out he5
        refine wpAnyN_last (by kernel_rfl) (by kernel_rfl) rfl (fun K hK => ?_)
        go_simp
        refine hK.out _ _ ?_
        clear hK K
        exact ⟨⟨B5, d5, Bn, dn, gz⟩, by simp only [putAll, List.foldl_cons, List.foldl_nil, Act.put, List.setIfInBounds_toArray, List.set_cons_zero, List.set_cons_succ], by have h_ := HWD.out.kid a2 C1.out C2.out HLB.out HRn.out; exact h_⟩
      rintro ⟨B5, d5, Bn, dn, gz⟩ w6 HW6_
      have HW6 := Ak HW6_
      clear HW6_
      simp only [putAll, List.foldl_cons, List.foldl_nil, Act.put, List.setIfInBounds_toArray, List.set_cons_zero, List.set_cons_succ]
      have hcg := HW6.out.cell
      have he4 := (HW6.out.elem a1 C3.out C4.out).1
      have hf4 := HW6.out.free
      go_upto_region 4 with (fail)
      have HW7 := Ak (HW6.out.par a1 a2 C3.out C4.out)
      clear hcg he4 hf4 HW6
      generalize World.setCell w6 ⟨g, a1.toNat * 6 + 4, none⟩ (.int .i64 a2) = w7 at HW7 ⊢
      have hcg := HW7.out.cell
      have hcr := blk_cell HW7.out.br 0
      have hfr := blk_frozen HW7.out.br
      go_wp2_with fail
      refine bodyPost_ret (results_cell_row rfl _ _ gr 29 #[.slice (some ⟨g, 0, none⟩) ys.length cap] (0, 0) _ rfl (blk_put (cs := #[.slice none 0 0]) HW7.out.br 0 _ rfl) Try.underlying29 rfl (by kernel_rfl)) rfl ?_
      have h3 := HW7.out.done (.slice (some ⟨g, 0, none⟩) ys.length cap)
      have hlen := HW7.out.len
      refine ⟨by rw [← hlen], by rw [← hlen]; exact HLEN.out, by rw [← hlen]; exact h3.1, h3.2.1, h3.2.2⟩
     ·rw [if_neg c5] at h; cases h
    ·rw [if_neg c4] at h; cases h
   ·rw [if_neg c3] at h; cases h
  ·rw [if_neg c2] at h; cases h
 ·rw [if_neg c1] at h; cases h
def spec_l6Copy.l0 : Nat → Int → List S45 → List S45 → Option (List S45)
 | 0, _, _, _ => none
 | k + 1, j, xs, outs => if j < (xs.length : Int) then (if 0 ≤ j then (if (rd_T45 xs j).f2.length ≤ 1048576 then (if (rd_T45 xs j).f5.length ≤ 1048576 then (if outs.length < 1000000 then spec_l6Copy.l0 k (wrap64 (j + 1)) xs (outs ++ [⟨(rd_T45 xs j).f0, (rd_T45 xs j).f1, (rd_T45 xs j).f2, (rd_T45 xs j).f3, (rd_T45 xs j).f4, (rd_T45 xs j).f5⟩]) else none) else none) else none) else none) else some outs
def spec_l6Copy.f (k : Nat) (l0_0 : List S45) : Option (List S45) := spec_l6Copy.l0 k 0 l0_0 []
theorem spec_l6Copy.mono_l : ∀ k, (∀ y0 y1 y2, LeO (spec_l6Copy.l0 k y0 y1 y2) (spec_l6Copy.l0 (k + 1) y0 y1 y2))
 | 0 => fun _ _ _ r h => by simp [spec_l6Copy.l0] at h
 | k + 1 => by
  have ih := spec_l6Copy.mono_l k
  intro y0 y1 y2
  rw [spec_l6Copy.l0, spec_l6Copy.l0]
  exact LeO.ite (LeO.ite (LeO.ite (LeO.ite (LeO.ite (ih _ _ _) (LeO.refl _)) (LeO.refl _)) (LeO.refl _)) (LeO.refl _)) (LeO.refl _)
theorem spec_l6Copy.mono : ∀ a0 k, LeO (spec_l6Copy.f k a0) (spec_l6Copy.f (k + 1) a0) := fun _ k => spec_l6Copy.mono_l k _ _ _
theorem spec_l6Copy.calls (k : Nat) (A0 : Option Addr) (c0 : Nat) (xs : List S45) (r : List S45) (w : World) (hr0_0 : Kd.C k45 w A0 xs.length xs) (hc0_0 : xs.length ≤ c0) (h : spec_l6Copy.f k xs = some r) :
 Calls Try.prog 52 #[.agg #[.slice A0 xs.length c0]] w fun e w' => ∃ v0_ : Value, e = .returned (.agg #[v0_]) ∧ Kd.S k45 45 w' w.heap.size (fun _ => True) v0_ r ∧ Below w.heap.size w w' := by
 have HA := Ak h
 have HC := Ak hr0_0
 clear h hr0_0 hc0_0
 go_enter Try.func52, Try.ntmps52
 go_upto_region 1 with (first | ((with_reducible refine gate_dst (N := 1) rfl ?_); refine box_event ?hg (N := 1) ?hd (cs := #[.slice A0 xs.length c0]) (t := 29) ?hr ?_; (case hd => rfl); (case hg => rfl); (case hr => first | (go_simp; done) | (go_simp; rfl)); intro gt hg w1 hbox hb; have HT := Ak hbox; have HL := Ak hb; clear hbox hb hg) | ((with_reducible refine gate_dst (N := 2) rfl ?_); refine box_event ?hg (N := 2) ?hd (cs := #[.slice none 0 0]) (t := 29) ?hr ?_; (case hd => rfl); (case hg => rfl); (case hr => first | (go_simp; done) | (go_simp; rfl)); intro gr hg w2 hbox hb; have HT2 := Ak (blk_below HT.out hb); have HR := Ak hbox; have HL2 := Ak (below_step HL.out hb); have HGR := Ak (show w.heap.size ≤ gr by rw [hg]; exact HL.out.size); clear hbox hb hg))
 go_upto_region 2 with (fail)
 have HQ0 := Ak (show OutW w2 (w2.alloc (.cells #[.slice none 0 0] 29)) w2.heap.size (.slice none 0 0) [] from ⟨blk_new _ _, Kd.S_nil _ _ _ _ _, below_alloc (Below.refl _ _) _, Nat.le_refl _⟩)
 generalize w2.alloc (.cells #[.slice none 0 0] 29) = w3 at HQ0 ⊢
 generalize hq_ : w2.heap.size = gq at HQ0 ⊢
 clear hq_
 go_wp2_with fail
 go_loopg [4] k (fun kq v4 w' => ∃ (j : Int) (outs : List S45) (vo : Value), v4 = .int .i64 j ∧ Aside0 (spec_l6Copy.l0 kq j xs outs = some r) ∧ Aside0 (kq ≤ k) ∧ Aside0 (OutW w2 w' gq vo outs))
 case atStart => exact ⟨0, _, _, rfl, HA, ⟨Nat.le_refl _⟩, HQ0⟩
 case round =>
  clear HA HQ0
  obtain ⟨j, outs, vo, rfl, HA, HK, HQ⟩ := hrel
  have hcg := pw_cell_below HQ.out.low (blk_cell HT2.out 0)
  cases gk with
  | zero => exact absurd HA.out (by simp [spec_l6Copy.l0])
  | succ k1 =>
   have H := HA.out
   clear HA
   simp only [spec_l6Copy.l0] at H
   by_cases c1 : j < (xs.length : Int)
   ·rw [if_pos c1] at H
    by_cases c2 : 0 ≤ j
    ·rw [if_pos c2] at H
     by_cases c3 : (rd_T45 xs j).f2.length ≤ 1048576
     ·rw [if_pos c3] at H
      by_cases c4 : (rd_T45 xs j).f5.length ≤ 1048576
      ·rw [if_pos c4] at H
       by_cases c5 : outs.length < 1000000
       ·rw [if_pos c5] at H
        have c1b : decide (j < (xs.length : Int)) = true := decide_eq_true c1
        obtain ⟨ad, A_2, c_2, A_5, c_5, e1, hx0, hx1, hx2, hx3, hx4, hx5, hl2, hi2, hl5, hi5⟩ := at_T45 HC.out j c2 c1
        subst e1
        have HLB := Ak HL2.out
        replace hx0 := pw_cell_below (below_step HL2.out HQ.out.low) hx0
        replace hx1 := pw_cell_below (below_step HL2.out HQ.out.low) hx1
        replace hx2 := pw_cell_below (below_step HL2.out HQ.out.low) hx2
        replace hx3 := pw_cell_below (below_step HL2.out HQ.out.low) hx3
        replace hx4 := pw_cell_below (below_step HL2.out HQ.out.low) hx4
        replace hx5 := pw_cell_below (below_step HL2.out HQ.out.low) hx5
        have HI2 := Ak hi2
        have HI5 := Ak hi5
        have HA := Ak H
        have H3 := Ak c3
        have H4 := Ak c4
        have H5 := Ak c5
        clear hl2 hi2 hl5 hi5 H c3 c4 c5
        replace c1 := eq_true c1
        replace c2 := eq_true c2
        go_upto_region 6 with (fail)
        clear hx0 hx1 hx2 hx3 hx4 hx5 hcg
        have hX := blk_new wr (.cells #[.int .i64 (rd_T45 xs j).f0, .string (rd_T45 xs j).f1, .slice A_2 (rd_T45 xs j).f2.length c_2, .string (rd_T45 xs j).f3, .int .i64 (rd_T45 xs j).f4, .slice A_5 (rd_T45 xs j).f5.length c_5] 45)
        have hl := below_alloc (Below.refl wr.heap.size wr) (.cells #[.int .i64 (rd_T45 xs j).f0, .string (rd_T45 xs j).f1, .slice A_2 (rd_T45 xs j).f2.length c_2, .string (rd_T45 xs j).f3, .int .i64 (rd_T45 xs j).f4, .slice A_5 (rd_T45 xs j).f5.length c_5] 45)
        generalize wr.alloc (.cells #[.int .i64 (rd_T45 xs j).f0, .string (rd_T45 xs j).f1, .slice A_2 (rd_T45 xs j).f2.length c_2, .string (rd_T45 xs j).f3, .int .i64 (rd_T45 xs j).f4, .slice A_5 (rd_T45 xs j).f5.length c_5] 45) = w5 at hX hl ⊢
        obtain ⟨gb, hgb⟩ : ∃ g_, g_ = wr.heap.size := ⟨_, rfl⟩
        rw [← hgb] at hX ⊢
        have HGB := Ak (show wr.heap.size ≤ gb from Nat.le_of_eq hgb.symm)
        have HB := Ak hX
        have HL := Ak hl
        clear hX hl hgb
        have hb2 := blk_cell HB.out 2
        go_upto_region 7 with (first | ((with_reducible refine gate_dst (N := 19) rfl ?_); refine Kd.R_lit (w0 := wr) k98 wr.heap.size 98 ?hg (N := 19) ?hd (xs := ([] : List S98)) (inner := []) (ok := fun k_ => k_ ≠ gb) (okp := fun _ => False) ?hr ?hp (fun _ hk => hk.elim) (by have := blk_lt HB.out; omega) HL.out HL.out.size (by simp) ?_; (case hd => rfl); (case hg => rfl); (case hr => first | (go_simp; done) | (go_simp; rfl)); (case hp => exact (Reps.none _ _)); intro vl wl ho hb hg hnew_; have HRl := Ak ho; have HLl := Ak hb; have HGl := Ak hg; have HBl := Ak (blk_grown HB.out hg (by simp)); have hyl := blk_cell HBl.out 2; clear ho hb hg hnew_) | ((with_reducible refine gate_builtin (b := .append) (xs := #[.tmp 19, .tmp 21]) rfl ?_); at_builtin; refine Kd.R_append_rows k98 (w0 := wr) wr.heap.size rfl (.tmp 19) (.tmp 21) 43 98 (.agg #[(.string ⟨#[]⟩), (.string ⟨#[]⟩)]) 32 rfl Try.underlying43 info98 rfl (by decide) (by omega) vl [] (rd_T45 xs j).f2 _ _ _ (fun k_ => k_ ≠ gb) (fun _ => False) rfl rfl HRl.out (Kd.C_below HI2.out (below_step (below_step HLB.out HQ.out.low) HLl.out)) (fun _ _ h => h) (fun _ h => h.elim) (fun k_ hk => by have := blk_lt HBl.out; omega) HLl.out HLl.out.size (by have := H3.out; simp only [List.length_nil]; omega) ?_; intro vn wn ho8 hb8 hg8 hat; rw [List.nil_append] at ho8; obtain ⟨B2, d2, rfl⟩ := Kd.R_slice ho8; have HRn := Ak ho8; have HLn := Ak hb8; have HGn := Ak hg8; have HBn := Ak (blk_grown HBl.out hg8 (fun e_ => HRl.out.1 gb e_.symm rfl)); have hfn := blk_frozen HBn.out; have hyn := blk_cell HBn.out 2; clear ho8 hb8 hg8 hat))
        have HB6 := Ak (blk_set HBn.out 2 (.slice B2 (rd_T45 xs j).f2.length d2))
        have HL6 := Ak (below_set (j := 2) (v := .slice B2 (rd_T45 xs j).f2.length d2) HLn.out HGB.out)
        have HR2 := Ak (Kd.R_far (p := ⟨gb, 2, none⟩) HRn.out (fun _ hk => hk) (.slice B2 (rd_T45 xs j).f2.length d2))
        clear hfn hyn hyl hb2 HBn HLn HRn HRl HLl HBl HGl HGn HB HL
        generalize wn.setCell ⟨gb, 2, none⟩ (.slice B2 (rd_T45 xs j).f2.length d2) = w6 at HB6 HL6 HR2 ⊢
        have HB := HB6
        have HL := HL6
        clear HB6 HL6
        have hb5 := blk_cell HB.out 5
        go_upto_region 8 with (first | ((with_reducible refine gate_dst (N := 24) rfl ?_); refine Kd.R_lit (w0 := wr) (Kd.int .i64) wr.heap.size 3 ?hg (N := 24) ?hd (xs := ([] : List Int)) (inner := []) (ok := fun k_ => k_ ≠ gb) (okp := fun _ => False) ?hr ?hp (fun _ hk => hk.elim) (by have := blk_lt HB.out; omega) HL.out HL.out.size (by simp) ?_; (case hd => rfl); (case hg => rfl); (case hr => first | (go_simp; done) | (go_simp; rfl)); (case hp => exact (Reps.none _ _)); intro vl wl ho hb hg hnew_; have HRl := Ak ho; have HLl := Ak hb; have HGl := Ak hg; have HBl := Ak (blk_grown HB.out hg (by simp)); have hyl := blk_cell HBl.out 5; clear ho hb hg hnew_) | ((with_reducible refine gate_builtin (b := .append) (xs := #[.tmp 24, .tmp 26]) rfl ?_); at_builtin; refine Kd.R_append_rows (Kd.int .i64) (w0 := wr) wr.heap.size rfl (.tmp 24) (.tmp 26) 37 3 (.int .i64 0) 8 rfl Try.underlying37 info3 rfl (by decide) (by omega) vl [] (rd_T45 xs j).f5 _ _ _ (fun k_ => k_ ≠ gb) (fun _ => False) rfl rfl HRl.out (Kd.C_below HI5.out (below_step (below_step HLB.out HQ.out.low) HLl.out)) (fun _ _ h => h) (fun _ h => h.elim) (fun k_ hk => by have := blk_lt HBl.out; omega) HLl.out HLl.out.size (by have := H4.out; simp only [List.length_nil]; omega) ?_; intro vn wn ho8 hb8 hg8 hat; rw [List.nil_append] at ho8; obtain ⟨B5, d5, rfl⟩ := Kd.R_slice ho8; have HRn := Ak ho8; have HLn := Ak hb8; have HGn := Ak hg8; have HBn := Ak (blk_grown HBl.out hg8 (fun e_ => HRl.out.1 gb e_.symm rfl)); have hfn := blk_frozen HBn.out; have hyn := blk_cell HBn.out 5; clear ho8 hb8 hg8 hat))
        have HN := Ak (show NodW wr (wn.setCell ⟨gb, 5, none⟩ (.slice B5 (rd_T45 xs j).f5.length d5)) gb ⟨(rd_T45 xs j).f0, (rd_T45 xs j).f1, (rd_T45 xs j).f2, (rd_T45 xs j).f3, (rd_T45 xs j).f4, (rd_T45 xs j).f5⟩ (.slice B2 (rd_T45 xs j).f2.length d2) (.slice B5 (rd_T45 xs j).f5.length d5) from ⟨blk_set HBn.out 5 _, Kd.R_far (p := ⟨gb, 5, none⟩) (Kd.R_over' (Kd.R_grown HR2.out HGl.out (fun _ _ => by simp)) (Kd.R_typed HRl.out) (by decide) HGn.out) (fun _ hk => hk) _, Kd.R_far (p := ⟨gb, 5, none⟩) HRn.out (fun _ hk => hk) _, below_set HLn.out HGB.out, HGB.out⟩)
        clear hfn hyn hyl hb5 HBn HLn HRn HRl HLl HBl HGl HGn HB HL HR2
        generalize wn.setCell ⟨gb, 5, none⟩ (.slice B5 (rd_T45 xs j).f5.length d5) = w7 at HN ⊢
        obtain ⟨hq0, hq1, hq2, hq3, hq4, hq5⟩ := HN.out.cells
        have hqo := pw_cell_below HN.out.low HQ.out.cell
        go_wp2_with (first | ((with_reducible refine gate_builtin (b := .append) (xs := #[.tmp 30, .tmp 32]) rfl ?_); at_builtin; refine Kd.S_append (w0 := w2) k45 w2.heap.size rfl (.tmp 30) (.tmp 32) 27 45 (.agg #[(.int .i64 0), (.string ⟨#[]⟩), (.slice none 0 0), (.string ⟨#[]⟩), (.int .i64 0), (.slice none 0 0)]) 96 rfl Try.underlying27 info45 rfl (by decide) (by omega) vo outs _ _ (fun k_ => k_ ≠ gq) (fun k_ => wr.heap.size ≤ k_ ∧ k_ < w7.heap.size) rfl rfl (NodW.elem HN.out HQ.out.low) (HQ.out.okp) (fun k_ hk => by have := HQ.out.lt; have := HN.out.low.size; omega) (HQ.out.apart HN.out.low) (below_step HQ.out.low HN.out.low) (below_step HQ.out.low HN.out.low).size (by have := H5.out; omega) ?_; intro v1 w9 hS hlow hgw hat; obtain ⟨A1, c1', ev1⟩ := Kd.S_slice hS; rw [List.length_append, List.length_singleton] at ev1; subst ev1; have HQ2 := Ak (HQ.out.put HN.out.low hS hlow hgw); have hcq2 := (blk_cell (blk_grown (blk_below HQ.out.blk HN.out.low) hgw (fun e_ => (HQ.out.row |> Kd.S_R).1 gq e_.symm rfl)) 0).trans (show (#[vo] : Array Value)[0]? = some vo from rfl); have hfq2 := blk_frozen (blk_grown (blk_below HQ.out.blk HN.out.low) hgw (fun e_ => (HQ.out.row |> Kd.S_R).1 gq e_.symm rfl)); clear hS hlow hgw hat))
        go_roundg k1
        case measure => have := HK.out; omega
        case rel => exact ⟨_, _, _, rfl, HA, ⟨by have := HK.out; omega⟩, HQ2⟩
       ·rw [if_neg c5] at H; cases H
      ·rw [if_neg c4] at H; cases H
     ·rw [if_neg c3] at H; cases H
    ·rw [if_neg c2] at H; cases H
   ·rw [if_neg c1] at H
    obtain rfl := Option.some.inj H
    clear H
    have c1b : decide (j < (xs.length : Int)) = false := decide_eq_false c1
    clear c1
    obtain ⟨Ao, co, rfl⟩ := Kd.S_slice HQ.out.row
    have hcq := HQ.out.cell
    have HRR := Ak (blk_below HR.out HQ.out.low)
    have hcr := blk_cell HRR.out 0
    have hfr := blk_frozen HRR.out
    go_wp2_with fail
    refine bodyPost_ret (results_cell_row rfl _ _ gr 29 #[.slice Ao outs.length co] (0, 0) _ rfl (blk_put (cs := #[.slice none 0 0]) HRR.out 0 _ rfl) Try.underlying29 rfl (by kernel_rfl)) rfl ?_
    exact ⟨_, rfl, Kd.S_mono (Kd.S_lower (Kd.S_far (p := ⟨gr, 0, none⟩) (Kd.S_types HQ.out.row HRR.out (by decide)) (fun _ hk => hk.2) _) HL2.out.size) (fun _ _ => trivial), below_set (below_step HL2.out HQ.out.low) HGR.out⟩
theorem S_reads_M {α : Type} {d : Kd α} {e base : Nat} {ok : Nat → Prop} {w : World} {v : Value} {xs : List α} (h : Kd.S d e w base ok v xs) : ∃ f A c, v = .slice A xs.length c ∧ xs.length ≤ c ∧ ReadsRow ((Kd.tag f d).M w base (fun k => ok k ∧ some k ≠ v.ownBlock)) d.sz w A xs.length xs.zipIdx := by
 obtain ⟨f, h0, ho⟩ := h
 obtain ⟨A, c, he, hl, hr⟩ := OwnRow.reads ho
 rw [List.length_zipIdx] at he hl hr
 exact ⟨f, A, c, he, hl, hr⟩
theorem R_empty_any {α β : Type} {d : Kd α} {d' : Kd β} {e base : Nat} {ok : Nat → Prop} {w : World} {v : Value} (hs : d.sz = d'.sz) (h : d.R e w base ok v []) : d'.R e w base ok v [] := by
 obtain ⟨h0, inner, ho, hr⟩ := h
 refine ⟨h0, inner, ?_, ?_, fun j p hp => by simp at hp⟩
 ·rw [← hs]; exact ho
 ·have := hr.1; simpa using this
section
variable {P : Program} {ops : Array Oper} {o : Oper} {a : Act} {Q : Exit → Act → World → Prop} {Kc : Act → World → Prop} {α : Type}
theorem S_copy_step (d : Kd α) {w0 W : World} (base : Nat) (hw : Region.wanted o (yielded ops a.tmps) = true) (s x : Operand) (t e : TypeId) (z : Value) (bytes : Nat)
 (ho : o.op = .call { callee := .builtin .append, args := #[s, x], argTypes := #[t, t] })
 (ht : P.underlying t = some (.slice e)) (hinfo : (P.info? e).map (fun i => (i.zero, i.size, i.bytes)) = some (some z, d.sz, bytes)) (hz : z.cells.size = d.sz) (hs0 : 0 < d.sz) (hb0 : 0 < bytes)
 (v0 vs : Value) (xs : List α) (ok oks : Nat → Prop) (hs : a.eval s = v0) (hx : a.eval x = vs) (H0 : Kd.R d e W base ok v0 []) (HS : Kd.S d e W base oks vs xs) (hok : ∀ k, oks k → ok k ∧ some k ≠ v0.ownBlock) (hfresh : ∀ k, W.heap.size ≤ k → ok k)
 (HB : Below base w0 W) (hbase : base ≤ W.heap.size) (hl : xs.length * bytes ≤ 140737488355328)
 (h : ∀ v1 w1, Kd.S d e w1 base ok v1 xs → Below base w0 w1 → W.grownBy w1 v0.ownBlock → (v1.ownBlock = v0.ownBlock ∨ ∃ b, v1.ownBlock = some b ∧ W.heap.size ≤ b) → Kc (a.put o.dst v1) w1) :
 if Region.wanted o (yielded ops a.tmps) = true then Oper.wp P o a W Kc Q else Kc (a.put o.dst undef) W := by
 obtain ⟨f, A, c, hv, hc, hr⟩ := S_reads_M HS
 refine Kd.R_append_rows_step (Kd.tag f d) base hw s x t e z bytes ho ht hinfo hz hs0 hb0 v0 [] xs.zipIdx A xs.length c ok (fun k => oks k ∧ some k ≠ vs.ownBlock) hs (hx.trans hv) (R_empty_any (d := d) (d' := Kd.tag f d) rfl H0) hr (fun _ _ h => h) (fun k hk => hok k hk.1) hfresh HB hbase (by simpa using hl) ?_
 intro v1 w1 hr1
 exact h v1 w1 ⟨f, hr1⟩
theorem S_append_at (d : Kd α) {w0 W : World} (base : Nat) (hw : Region.wanted o (yielded ops a.tmps) = true) (s x : Operand) (t e : TypeId) (z : Value) (bytes : Nat)
 (ho : o.op = .call { callee := .builtin .append, args := #[s, x], argTypes := #[t, t] })
 (ht : P.underlying t = some (.slice e)) (hinfo : (P.info? e).map (fun i => (i.zero, i.size, i.bytes)) = some (some z, d.sz, bytes)) (hz : z.cells.size = d.sz) (hs0 : 0 < d.sz) (hb0 : 0 < bytes)
 (v : Value) (xs : List α) (p : α) (cs : List Value) (g1 c1 : Nat) (ok okp : Nat → Prop) (hs : a.eval s = v) (hx : a.eval x = .slice (some ⟨g1, 0, none⟩) 1 c1) (hblk : W.heap[g1]? = some (.cells cs.toArray e (0, 0))) (hlen : cs.length = d.sz) (hp : d.M W base okp p cs) (hokp : ∀ k, okp k → ok k ∧ some k ≠ v.ownBlock) (hfresh : ∀ k, W.heap.size ≤ k → ok k)
 (HO : Kd.S d e W base (fun k => ok k ∧ ¬ okp k) v xs) (HB : Below base w0 W) (hbase : base ≤ W.heap.size) (hl : (xs.length + 1) * bytes ≤ 140737488355328)
 (h : ∀ v1 w1, Kd.S d e w1 base ok v1 (xs ++ [p]) → Below base w0 w1 → W.grownBy w1 v.ownBlock → (v1.ownBlock = v.ownBlock ∨ ∃ b, v1.ownBlock = some b ∧ W.heap.size ≤ b) → Kc (a.put o.dst v1) w1) :
 if Region.wanted o (yielded ops a.tmps) = true then Oper.wp P o a W Kc Q else Kc (a.put o.dst undef) W := by
 obtain ⟨f, hf, hR⟩ := Kd.S_tag HO xs.length okp (fun _ hk h2 => h2.2 hk)
 refine Kd.R_append_rows_step (Kd.tag f d) (Rr := fun q c => q = (p, xs.length) ∧ c = cs) base hw s x t e z bytes ho ht hinfo hz hs0 hb0 v xs.zipIdx [(p, xs.length)] _ 1 c1 ok okp hs hx (Kd.R_mono hR (fun _ hk => hk.1)) ⟨rfl, by decide, fun _ => ⟨_, rfl, ?_⟩⟩ ?_ hokp hfresh HB hbase (by rw [List.length_zipIdx]; exact hl) ?_
 ·intro j q hq
  cases j with
  | succ j => simp at hq
  | zero =>
   refine ⟨cs, hlen, ⟨by simpa using hq.symm, rfl⟩, fun i u hu => ?_⟩
   have h0 : (⟨g1, 0, none⟩ : Addr).add (0 * (Kd.tag f d).sz + i) = ⟨g1, i, none⟩ := by simp [Addr.add]; exact fun e_ => e_.symm
   rw [h0]
   exact (blk_cell hblk i).trans (by simpa using hu)
 ·rintro q c ⟨rfl, rfl⟩
  exact d.M_mono (fun k hk => ⟨hk, hf k hk⟩) hp
 ·intro v1 w1 hr
  rw [← Kd.zip_snoc] at hr
  exact h v1 w1 ⟨f, hr⟩
end
def spec_l6Add.f (l0_0 : List S45) (a1_0 : Int) (a1_1 : ByteArray) (l1_2 : List S98) (a1_3 : ByteArray) (a1_4 : Int) (l1_5 : List Int) : Option ((List S45) × Int) := if l1_2.length < 4398046511104 then (if l0_0.length < 1000000 then some (l0_0 ++ [⟨a1_0, a1_1, l1_2, a1_3, -1, []⟩], (l0_0.length : Int)) else none) else none
structure AddW (w0 w W : World) (P_ : Nat → Prop) (n5 gt gb gr : Nat) (A0 : Option Addr) (c0 : Nat) (xs : List S45) (a0 : Int) (a1 : ByteArray) (A9 : Option Addr) (c9 : Nat) (a2 : List S98) (a3 : ByteArray) : Prop where
 bt : W.heap[gt]? = some (.cells #[.slice A0 xs.length c0] 29 (0, 0))
 bb : W.heap[gb]? = some (.cells #[.int .i64 a0, .string a1, .slice A9 a2.length c9, .string a3, .int .i64 (-1), .slice none 0 0] 45 (0, 0))
 br : W.heap[gr]? = some (.cells #[.slice none 0 0] 29 (0, 0))
 s : Kd.S k45 45 W w0.heap.size (fun k => P_ k ∧ k < w.heap.size) (.slice A0 xs.length c0) xs
 r2 : Kd.R k98 98 W w0.heap.size (fun k => w.heap.size ≤ k ∧ k < n5 ∧ k ≠ gt ∧ k ≠ gb ∧ k ≠ gr) (.slice A9 a2.length c9) a2
 low : Below w.heap.size w W
 base : w0.heap.size ≤ W.heap.size
 ge5 : w.heap.size ≤ n5
 gt_ : w.heap.size ≤ gt
 ge : w.heap.size ≤ gb ∧ w.heap.size ≤ gr
 lt : gt < n5 ∧ gb < n5 ∧ gr < n5
 ne : gr ≠ gt
theorem set_size (W : World) (p : Addr) (u : Value) : W.heap.size ≤ (W.setCell p u).heap.size := (Kept.setCell (Kept.refl W (fun _ => True)) (.inl trivial) u).1
theorem empty_row {α : Type} (d : Kd α) (e : Nat) (W : World) (base : Nat) (ok : Nat → Prop) (hb : base ≤ W.heap.size) (hok : ok W.heap.size) : d.R e (W.alloc (.cells #[] e)) base ok (.slice (some ⟨W.heap.size, 0, none⟩) 0 0) [] :=
 ⟨fun k hk => by simp only [Value.ownBlock, Option.some.injEq] at hk; subst hk; exact hok, OwnRow.lit W base (inner := []) (Reps.none _ _) hb (by simp)⟩
section
variable {w0 w W W2 : World} {P_ : Nat → Prop} {n5 gt gb gr c0 c9 : Nat} {A0 A9 : Option Addr} {xs : List S45} {a0 : Int} {a1 a3 : ByteArray} {a2 : List S98}
theorem AddW.below (h : AddW w0 w W P_ n5 gt gb gr A0 c0 xs a0 a1 A9 c9 a2 a3) (hb : Below W.heap.size W W2) : AddW w0 w W2 P_ n5 gt gb gr A0 c0 xs a0 a1 A9 c9 a2 a3 :=
 ⟨blk_below h.bt hb, blk_below h.bb hb, blk_below h.br hb, Kd.S_below h.s hb, Kd.R_below h.r2 hb, below_step h.low hb, Nat.le_trans h.base hb.size, h.ge5, h.gt_, h.ge, h.lt, h.ne⟩
theorem AddW.grown (h : AddW w0 w W P_ n5 gt gb gr A0 c0 xs a0 a1 A9 c9 a2 a3) {row : Option Nat} (hlow : Below w0.heap.size w0 W2) (hg : W.grownBy W2 row) (hr : ∀ k, row = some k → n5 ≤ k) : AddW w0 w W2 P_ n5 gt gb gr A0 c0 xs a0 a1 A9 c9 a2 a3 :=
 ⟨blk_grown h.bt hg (fun e => by have := hr _ e.symm; have := h.lt; omega), blk_grown h.bb hg (fun e => by have := hr _ e.symm; have := h.lt; omega), blk_grown h.br hg (fun e => by have := hr _ e.symm; have := h.lt; omega), Kd.S_grown h.s hg (fun k hk e => by have := hr _ e.symm; have := h.ge5; omega), Kd.R_grown h.r2 hg (fun k hk e => by have := hr _ e.symm; omega), pw_below_grown h.low row h.low.size hg (fun k e => Nat.le_trans h.ge5 (hr k e)), hlow.size, h.ge5, h.gt_, h.ge, h.lt, h.ne⟩
theorem AddW.far (h : AddW w0 w W P_ n5 gt gb gr A0 c0 xs a0 a1 A9 c9 a2 a3) {k : Nat} (hk : n5 ≤ k) : w.heap.size ≤ k ∧ k ≠ gt ∧ k ≠ gb ∧ k ≠ gr := by have := h.ge5; have := h.lt; omega
theorem AddW.held (h : AddW w0 w W P_ n5 gt gb gr A0 c0 xs a0 a1 A9 c9 a2 a3) : W.cell? ⟨gt, 0, none⟩ = some (.slice A0 xs.length c0) ∧ W.cell? ⟨gb, 0, none⟩ = some (.int .i64 a0) ∧ W.cell? ⟨gb, 1, none⟩ = some (.string a1) ∧ W.cell? ⟨gb, 2, none⟩ = some (.slice A9 a2.length c9) ∧ W.cell? ⟨gb, 3, none⟩ = some (.string a3) ∧ W.cell? ⟨gb, 4, none⟩ = some (.int .i64 (-1)) ∧ W.cell? ⟨gb, 5, none⟩ = some (.slice none 0 0) :=
 ⟨(blk_cell h.bt 0).trans rfl, (blk_cell h.bb 0).trans rfl, (blk_cell h.bb 1).trans rfl, (blk_cell h.bb 2).trans rfl, (blk_cell h.bb 3).trans rfl, (blk_cell h.bb 4).trans rfl, (blk_cell h.bb 5).trans rfl⟩
end
theorem spec_l6Add.calls (P_ : Nat → Prop) (A0 : Option Addr) (c0 : Nat) (xs : List S45) (a0 : Int) (a1 : ByteArray) (A2 : Option Addr) (c2 : Nat) (a2 : List S98) (a3 : ByteArray) (a4 : Int) (u5 : Value) (a5 : List Int) (r1 : List S45) (r2 : Int) (w0 w : World) (hB : Below w0.heap.size w0 w) (hS : Kd.S k45 45 w w0.heap.size P_ (.slice A0 xs.length c0) xs) (h2 : Kd.C k98 w A2 a2.length a2) (hc2 : a2.length ≤ c2) (h5 : u5.cells.toList = [u5] ∧ u5.oneCell' = true) (h : spec_l6Add.f xs a0 a1 a2 a3 a4 a5 = some (r1, r2)) :
 Calls Try.prog 53 #[.agg #[.slice A0 xs.length c0], .agg #[.int .i64 a0, .string a1, .slice A2 a2.length c2, .string a3, .int .i64 a4, u5]] w fun e w' => ∃ v_ : Value, e = .returned (.tuple #[.agg #[v_], .int .i64 r2]) ∧ Kd.S k45 45 w' w0.heap.size (fun k_ => P_ k_ ∨ w.heap.size ≤ k_) v_ r1 ∧ Below w.heap.size w w' := by
 unfold spec_l6Add.f at h
 by_cases l2 : a2.length < 4398046511104
 ·rw [if_pos l2] at h
  by_cases l1 : xs.length < 1000000
  ·rw [if_pos l1] at h
   injection h with h
   injection h with e1 e2
   subst e1 e2
   have HL1 := Ak l1
   have HL2 := Ak l2
   have HB := Ak hB
   have HS := Ak hS
   have HC2 := Ak h2
   have HCC2 := Ak hc2
   clear hB hS h2 hc2 l1 l2
   go_enter Try.func53, Try.ntmps53
   go_upto_region 1 with (first | ((with_reducible refine gate_dst (N := 2) rfl ?_); refine box_event ?hg (N := 2) ?hd (cs := #[.slice A0 xs.length c0]) (t := 29) ?hr ?_; (case hd => rfl); (case hg => rfl); (case hr => first | (go_simp; done) | (go_simp; rfl)); intro gt hg w1 hbox hb; have HT := Ak hbox; have HL := Ak hb; have HGT := Ak hg; clear hbox hb hg) | ((with_reducible refine gate_dst (N := 3) rfl ?_); refine box_event ?hg (N := 3) ?hd (cs := #[.int .i64 a0, .string a1, .slice A2 a2.length c2, .string a3, .int .i64 a4, u5]) (t := 45) ?hr ?_; (case hd => rfl); (case hg => rfl); (case hr => first | (go_simp; done) | (go_simp; rfl)); intro gb hg w2 hbox hb; have HT2 := Ak (blk_below HT.out hb); have HBB := Ak hbox; have HLL := Ak (below_step HL.out hb); have HGB := Ak (show gt < gb ∧ w.heap.size ≤ gb from ⟨by rw [hg]; exact blk_lt HT.out, by rw [hg]; exact HL.out.size⟩); clear hbox hb hg) | ((with_reducible refine gate_dst (N := 4) rfl ?_); refine box_event ?hg (N := 4) ?hd (cs := #[.slice none 0 0]) (t := 29) ?hr ?_; (case hd => rfl); (case hg => rfl); (case hr => first | (go_simp; done) | (go_simp; rfl)); intro gr hg w3 hbox hb; have HT3 := Ak (blk_below HT2.out hb); have HBB3 := Ak (blk_below HBB.out hb); have HRR := Ak hbox; have HL3 := Ak (below_step HLL.out hb); have HGR := Ak (show gb < gr ∧ w.heap.size ≤ gr from ⟨by rw [hg]; exact blk_lt HBB.out, by rw [hg]; exact HLL.out.size⟩); clear hbox hb hg))
   have hy4 := blk_cell HBB3.out 4
   have hy5 := blk_cell HBB3.out 5
   have hyf := blk_frozen HBB3.out
   go_upto_region 3 with (fail)
   have HB4 := Ak (blk_set (blk_set HBB3.out 4 (.int .i64 (-1))) 5 (.slice none 0 0))
   have HT4 := Ak (blk_far (p := ⟨gb, 5, none⟩) (blk_far (p := ⟨gb, 4, none⟩) HT3.out (Nat.ne_of_lt HGB.out.1) (.int .i64 (-1))) (Nat.ne_of_lt HGB.out.1) (.slice none 0 0))
   have HR4 := Ak (blk_far (p := ⟨gb, 5, none⟩) (blk_far (p := ⟨gb, 4, none⟩) HRR.out (Nat.ne_of_gt HGR.out.1) (.int .i64 (-1))) (Nat.ne_of_gt HGR.out.1) (.slice none 0 0))
   have HL4 := Ak (below_set (j := 5) (v := .slice none 0 0) (below_set (j := 4) (v := .int .i64 (-1)) HL3.out HGB.out.2) HGB.out.2)
   clear hy4 hy5 hyf
   generalize (w3.setCell ⟨gb, 4, none⟩ (.int .i64 (-1))).setCell ⟨gb, 5, none⟩ (.slice none 0 0) = w4 at HB4 HT4 HR4 HL4 ⊢
   clear HT HT2 HT3 HBB HBB3 HRR HL HLL HL3
   have HS4 := Ak (Kd.S_below (Kd.S_mono (Kd.S_bound HS.out) (ok' := fun k_ => P_ k_ ∧ k_ < w.heap.size) (fun k_ hk => ⟨hk.1, hk.2.2.1⟩)) HL4.out)
   have HGT' := Ak (show w.heap.size ≤ gt by rw [HGT.out]; exact Nat.le_refl _)
   have hy2 := blk_cell HB4.out 2
   have hyf := blk_frozen HB4.out
   go_upto_region 4 with (first | ((with_reducible refine gate_dst (N := 8) rfl ?_); refine Kd.R_lit (w0 := w0) k98 w0.heap.size 98 ?hg (N := 8) ?hd (xs := ([] : List S98)) (inner := []) (ok := fun k_ => w.heap.size ≤ k_ ∧ k_ ≠ gt ∧ k_ ≠ gb ∧ k_ ≠ gr) (okp := fun _ => False) ?hr ?hp (fun _ hk => hk.elim) (by have := blk_lt HT4.out; have := blk_lt HB4.out; have := blk_lt HR4.out; have := HL4.out.size; omega) (below_step HB.out HL4.out) (below_step HB.out HL4.out).size (by simp) ?_; (case hd => rfl); (case hg => rfl); (case hr => first | (go_simp; done) | (go_simp; rfl)); (case hp => exact (Reps.none _ _)); intro v2l wa ho hb hg hnew_; have HR2 := Ak ho; have HLa := Ak hb; have HGa := Ak hg; have HBa := Ak (blk_grown HB4.out hg (by simp)); have hy2a := blk_cell HBa.out 2; clear ho hb hg hnew_) | ((with_reducible refine gate_builtin (b := .append) (xs := #[.tmp 8, .tmp 10]) rfl ?_); at_builtin; refine Kd.R_append_rows k98 (w0 := w0) w0.heap.size rfl (.tmp 8) (.tmp 10) 43 98 (.agg #[(.string ⟨#[]⟩), (.string ⟨#[]⟩)]) 32 rfl Try.underlying43 info98 rfl (by decide) (by omega) v2l [] a2 _ _ _ (fun k_ => w.heap.size ≤ k_ ∧ k_ ≠ gt ∧ k_ ≠ gb ∧ k_ ≠ gr) (fun _ => False) rfl rfl HR2.out (Kd.C_below HC2.out (pw_below_grown HL4.out none HL4.out.size HGa.out (by simp))) (fun _ _ h => h) (fun _ h => h.elim) (fun k_ hk => by have := HGa.out.size; have := blk_lt HT4.out; have := blk_lt HB4.out; have := blk_lt HR4.out; have := HL4.out.size; omega) HLa.out HLa.out.size (by have := HL2.out; simp only [List.length_nil]; omega) ?_; intro v2n w5 ho8 hb8 hg8 hat; rw [List.nil_append] at ho8; obtain ⟨A9, c9, rfl⟩ := Kd.R_slice ho8; have HA5 := Ak ho8; have HB5 := Ak (blk_grown HBa.out hg8 (Kd.R_ne HR2.out HBa.out (by decide))); have HT5 := Ak (blk_grown (blk_grown HT4.out HGa.out (by simp)) hg8 (Kd.R_ne HR2.out (blk_grown HT4.out HGa.out (by simp)) (by decide))); have HR5 := Ak (blk_grown (blk_grown HR4.out HGa.out (by simp)) hg8 (Kd.R_ne HR2.out (blk_grown HR4.out HGa.out (by simp)) (by decide))); have HS5 := Ak (Kd.S_grown (Kd.S_grown HS4.out HGa.out (by simp)) hg8 (fun k_ hk e_ => by have := (HR2.out.1 k_ e_.symm).1; omega)); have HL5 := Ak (pw_below_grown (pw_below_grown HL4.out none HL4.out.size HGa.out (by simp)) _ (Nat.le_trans HL4.out.size HGa.out.size) hg8 (fun k_ e_ => (HR2.out.1 k_ e_).1)); have hy2b := blk_cell HB5.out 2; have hyfb := blk_frozen HB5.out; clear ho8 hb8 hg8 hat))
   have HB6 := Ak (blk_set HB5.out 2 (.slice A9 a2.length c9))
   have HT6 := Ak (blk_far (p := ⟨gb, 2, none⟩) HT5.out (Nat.ne_of_lt HGB.out.1) (.slice A9 a2.length c9))
   have HR6 := Ak (blk_far (p := ⟨gb, 2, none⟩) HR5.out (Nat.ne_of_gt HGR.out.1) (.slice A9 a2.length c9))
   have HW := Ak (show AddW w0 w (w5.setCell ⟨gb, 2, none⟩ (.slice A9 a2.length c9)) P_ w5.heap.size gt gb gr A0 c0 xs a0 a1 A9 c9 a2 a3 from ⟨HT6.out, HB6.out, HR6.out, Kd.S_far (p := ⟨gb, 2, none⟩) HS5.out (fun k_ hk => by have := HGB.out.2; show k_ ≠ gb; omega) _, Kd.R_far (p := ⟨gb, 2, none⟩) (Kd.R_mono (Kd.R_bound HA5.out) (fun k_ hk => ⟨hk.1.1, hk.2.2.1, hk.1.2⟩)) (fun k_ hk => hk.2.2.2.1) _, below_set HL5.out HGB.out.2, Nat.le_trans HB.out.size (Nat.le_trans HL5.out.size (set_size w5 _ _)), HL5.out.size, HGT'.out, ⟨HGB.out.2, HGR.out.2⟩, ⟨blk_lt HT5.out, blk_lt HB5.out, blk_lt HR5.out⟩, Nat.ne_of_gt (Nat.lt_trans HGB.out.1 HGR.out.1)⟩)
   have HN := Ak (show w5.heap.size ≤ (w5.setCell ⟨gb, 2, none⟩ (.slice A9 a2.length c9)).heap.size from set_size w5 _ _)
   clear hy2 hyf hy2b HB6 HT6 HR6 HB5 HT5 HR5 HS5 HA5 HL5 HB4 HT4 HR4 HL4 HS4 HR2 HS HGB HGR HGT HGT'
   generalize w5.setCell ⟨gb, 2, none⟩ (.slice A9 a2.length c9) = W5 at HW HN ⊢
   generalize w5.heap.size = n5 at HW HN ⊢
   have HWD := Ak (show AddW w0 w W5.drew P_ n5 gt gb gr A0 c0 xs a0 a1 A9 c9 a2 a3 from HW.out.below (pw_below_drewN (Below.refl _ _) 1))
   have HND := Ak (show n5 ≤ W5.drew.heap.size from HN.out)
   clear HW HN
   have HW := HWD
   have HN := HND
   clear HWD HND
   refine region_join (σ := Value × Value × Nat × Nat) (fun s_ => [(13, .slice (some ⟨s_.2.2.1, 0, none⟩) 0 0), (14, .pointer (some ⟨gt, 0, none⟩)), (15, .slice A0 xs.length c0), (16, s_.1), (17, .agg #[.int .i64 a0, .string a1, .slice A9 a2.length c9, .string a3, .int .i64 (-1), .slice none 0 0]), (18, .slice (some ⟨s_.2.2.2, 0, none⟩) 1 1), (19, s_.2.1), (20, .pointer (some ⟨gt, 0, none⟩))]) (fun s_ w' => w'.heap[gt]? = some (.cells #[s_.2.1] 29 (0, 0)) ∧ w'.heap[gr]? = some (.cells #[.slice none 0 0] 29 (0, 0)) ∧ Kd.S k45 45 w' w0.heap.size (fun k_ => (P_ k_ ∧ k_ < w.heap.size) ∨ (w.heap.size ≤ k_ ∧ k_ ≠ gt ∧ k_ ≠ gb ∧ k_ ≠ gr)) s_.2.1 (xs ++ [⟨a0, a1, a2, a3, -1, []⟩]) ∧ Below w.heap.size w w') ?_ ?_
   ·skip
    refine wp_region_N (n := 8) (S := (fun w' => w'.cell? ⟨gt, 0, none⟩ = some (.slice A0 xs.length c0) ∧ w'.cell? ⟨gb, 0, none⟩ = some (.int .i64 a0) ∧ w'.cell? ⟨gb, 1, none⟩ = some (.string a1) ∧ w'.cell? ⟨gb, 2, none⟩ = some (.slice A9 a2.length c9) ∧ w'.cell? ⟨gb, 3, none⟩ = some (.string a3) ∧ w'.cell? ⟨gb, 4, none⟩ = some (.int .i64 (-1)) ∧ w'.cell? ⟨gb, 5, none⟩ = some (.slice none 0 0))) (by kernel_rfl) (AddW.held HW.out) (fun hHeld => ?_)
    generalize W5.drew = WD at HW HN hHeld ⊢
    refine wpAnyN_take (i := 1) (v := ?v101) rfl (by kernel_rfl) (by kernel_rfl) (by kernel_rfl) (by kernel_rfl) (fun _ _ _ h => h) (Or.inl ⟨by rfl, ?h101⟩) hHeld ?r101
    case h101 => (intro w_ hSw; (try dsimp only at hSw); go_simp; (try with_reducible rfl))
    refine wpAnyN_take (i := 2) (v := ?v202) rfl (by kernel_rfl) (by kernel_rfl) (by kernel_rfl) (by kernel_rfl) (fun _ _ _ h => h) (Or.inl ⟨by rfl, ?h202⟩) hHeld ?r202
    case h202 => (intro w_ hSw; (try dsimp only at hSw); go_simp; (try with_reducible rfl))
    refine wpAnyN_take (i := 4) (v := ?v304) rfl (by kernel_rfl) (by kernel_rfl) (by kernel_rfl) (by kernel_rfl) (fun _ _ _ h => h) (Or.inl ⟨by rfl, ?h304⟩) hHeld ?r304
    case h304 => (intro w_ hSw; (try dsimp only at hSw); go_simp; (try with_reducible rfl))
    refine wpAnyN_two (i := 0) (j := 5) (by kernel_rfl) rfl rfl (fun K hK => ?_) (fun K hK => ?_)
    ·skip
     go_simp
     refine hK.out _ _ ?_ (fun hH0 => ?_)
     ·(try dsimp only); exact AddW.held (HW.out.below (below_alloc (Below.refl _ _) _))
     clear hK K
     have hX := blk_new WD (.cells #[] 45)
     have hb := below_alloc (Below.refl (WD).heap.size WD) (.cells #[] 45)
     have hE := empty_row k45 45 WD w0.heap.size (fun k_ => (P_ k_ ∧ k_ < w.heap.size) ∨ n5 ≤ k_) HW.out.base (.inr HN.out)
     generalize World.alloc WD (.cells #[] 45) = wz0 at hX hb hE ⊢
     obtain ⟨g0, hg⟩ : ∃ g_, g_ = (WD).heap.size := ⟨_, rfl⟩
     rw [← hg] at hX hE ⊢
     replace HW := Ak (HW.out.below hb)
     have HN0 := Ak (show n5 ≤ g0 by rw [hg]; exact HN.out)
     replace HN := Ak (Nat.le_trans HN.out hb.size)
     have HE := Ak hE
     have HE0 := HE
     clear hX hb hg hE
     refine wpAnyN_two (i := 3) (j := 5) (by kernel_rfl) rfl rfl (fun K hK => ?_) (fun K hK => ?_)
     ·skip
      refine S_copy_step (w0 := w0) k45 w0.heap.size (by rfl) (.tmp 13) (.tmp 15) 27 45 (.agg #[(.int .i64 0), (.string ⟨#[]⟩), (.slice none 0 0), (.string ⟨#[]⟩), (.int .i64 0), (.slice none 0 0)]) 96 rfl Try.underlying27 info45 rfl (by decide) (by omega) (.slice (some ⟨g0, 0, none⟩) 0 0) (.slice A0 xs.length c0) xs (fun k_ => (P_ k_ ∧ k_ < w.heap.size) ∨ n5 ≤ k_) (fun k_ => P_ k_ ∧ k_ < w.heap.size) rfl rfl HE.out HW.out.s (fun k_ hk => ⟨.inl hk, fun e_ => by have h3 : k_ = g0 := Option.some.inj e_; have := HN0.out; have := HW.out.ge5; omega⟩) (fun k_ hk => .inr (Nat.le_trans HN.out hk)) (below_step HB.out HW.out.low) HW.out.base (by have := HL1.out; omega) ?_
      intro v1 wc hS hlow hg hat
      have hb1 : ∀ k_, v1.ownBlock = some k_ → n5 ≤ k_ := fun k_ e_ => hat.elim (fun h_ => by have h3 : g0 = k_ := Option.some.inj (h_.symm.trans e_); rw [← h3]; exact HN0.out) (fun ⟨b_, h_, h2⟩ => by have h3 : b_ = k_ := Option.some.inj (h_.symm.trans e_); rw [← h3]; exact Nat.le_trans HN.out h2)
      replace HW := Ak (HW.out.grown hlow hg (fun k_ e_ => by have h3 : g0 = k_ := Option.some.inj e_; rw [← h3]; exact HN0.out))
      replace HN := Ak (Nat.le_trans HN.out hg.size)
      have HR := Ak hS
      have HB1 := Ak hb1
      clear hS hlow hg hat hb1
      refine hK.out _ _ ?_ (fun hH1 => ?_)
      ·(try dsimp only); exact AddW.held HW.out
      clear hK K
      refine wpAnyN_one (i := 5) (by kernel_rfl) rfl (fun K hK => ?_)
      go_simp
      refine hK.out _ _ ?_ (fun hH2 => ?_)
      ·(try dsimp only); exact AddW.held (HW.out.below (below_alloc (Below.refl _ _) _))
      clear hK K
      have hX := blk_new wc (.cells #[.int .i64 a0, .string a1, .slice A9 a2.length c9, .string a3, .int .i64 (-1), .slice none 0 0] 45)
      have hb := below_alloc (Below.refl (wc).heap.size wc) (.cells #[.int .i64 a0, .string a1, .slice A9 a2.length c9, .string a3, .int .i64 (-1), .slice none 0 0] 45)
      generalize World.alloc wc (.cells #[.int .i64 a0, .string a1, .slice A9 a2.length c9, .string a3, .int .i64 (-1), .slice none 0 0] 45) = wz1 at hX hb ⊢
      obtain ⟨g1, hg⟩ : ∃ g_, g_ = (wc).heap.size := ⟨_, rfl⟩
      rw [← hg] at hX ⊢
      replace HW := Ak (HW.out.below hb)
      have HN1 := Ak (show n5 ≤ g1 by rw [hg]; exact HN.out)
      replace HN := Ak (Nat.le_trans HN.out hb.size)
      replace HR := Ak (Kd.S_below HR.out hb)
      have HG1 := Ak hX
      have HLT1 := Ak (show g1 < (wz1).heap.size from blk_lt hX)
      clear hX hb hg
      refine wpAnyN_one (i := 6) (by kernel_rfl) rfl (fun K hK => ?_)
      refine S_append_at (w0 := w0) k45 w0.heap.size (by rfl) (.tmp 16) (.tmp 18) 27 45 (.agg #[(.int .i64 0), (.string ⟨#[]⟩), (.slice none 0 0), (.string ⟨#[]⟩), (.int .i64 0), (.slice none 0 0)]) 96 rfl Try.underlying27 info45 rfl (by decide) (by omega) v1 xs ⟨a0, a1, a2, a3, -1, []⟩ [.int .i64 a0, .string a1, .slice A9 a2.length c9, .string a3, .int .i64 (-1), .slice none 0 0] g1 1 (fun k_ => (P_ k_ ∧ k_ < w.heap.size) ∨ (w.heap.size ≤ k_ ∧ k_ ≠ gt ∧ k_ ≠ gb ∧ k_ ≠ gr)) (fun k_ => w.heap.size ≤ k_ ∧ k_ < n5 ∧ k_ ≠ gt ∧ k_ ≠ gb ∧ k_ ≠ gr) rfl rfl HG1.out rfl (k45_mkM _ _ _ ⟨a0, a1, a2, a3, -1, []⟩ HW.out.r2 (Kd.R_nil _ _ _ _ _)) (fun k_ hk => ⟨.inr ⟨hk.1, hk.2.2⟩, fun e_ => by have := HB1.out k_ e_.symm; omega⟩) (fun k_ hk => .inr (HW.out.far (Nat.le_trans HN.out hk))) (Kd.S_mono HR.out (fun k_ hk => hk.elim (fun hk => ⟨.inl hk, fun h_ => by omega⟩) (fun hk => ⟨.inr (HW.out.far hk), fun h_ => by omega⟩))) (below_step HB.out HW.out.low) HW.out.base (by have := HL1.out; omega) ?_
      intro v2 wd hS hlow hg hat
      obtain ⟨Ay, cy, ev_⟩ := Kd.S_slice hS
      rw [List.length_append, List.length_singleton] at ev_
      subst ev_
      replace HW := Ak (HW.out.grown hlow hg (fun k_ e_ => HB1.out k_ e_))
      have HR2 := Ak hS
      clear hS hlow hg hat HR
      refine hK.out _ _ ?_ (fun hH3 => ?_)
      ·(try dsimp only); exact AddW.held HW.out
      clear hK K
      refine wpAnyN_one (i := 7) (by kernel_rfl) rfl (fun K hK => ?_)
      go_simp
      refine hK.out _ _ ?_ (fun hH7 => ?_)
      ·(try dsimp only); exact hH3
      clear hK K
      have ht0 := blk_cell HW.out.bt 0
      have htf := blk_frozen HW.out.bt
      refine wpAnyN_last (by kernel_rfl) (by kernel_rfl) rfl (fun K hK => ?_)
      go_simp
      refine hK.out _ _ ?_
      clear hK K
      exact ⟨⟨v1, _, g0, g1⟩, by simp only [putAll, List.foldl_cons, List.foldl_nil, Act.put, List.setIfInBounds_toArray, List.set_cons_zero, List.set_cons_succ], blk_set HW.out.bt 0 _, blk_far (p := ⟨gt, 0, none⟩) HW.out.br HW.out.ne _, Kd.S_mono (Kd.S_far (p := ⟨gt, 0, none⟩) (Kd.S_types HR2.out HW.out.bt (by decide)) (fun _ h_ => h_.2) _) (fun _ h_ => h_.1), below_set HW.out.low HW.out.gt_⟩
     ·skip
      go_simp
      refine hK.out _ _ ?_ (fun hH4 => ?_)
      ·(try dsimp only); exact AddW.held (HW.out.below (below_alloc (Below.refl _ _) _))
      clear hK K
      have hX := blk_new wz0 (.cells #[.int .i64 a0, .string a1, .slice A9 a2.length c9, .string a3, .int .i64 (-1), .slice none 0 0] 45)
      have hb := below_alloc (Below.refl (wz0).heap.size wz0) (.cells #[.int .i64 a0, .string a1, .slice A9 a2.length c9, .string a3, .int .i64 (-1), .slice none 0 0] 45)
      generalize World.alloc wz0 (.cells #[.int .i64 a0, .string a1, .slice A9 a2.length c9, .string a3, .int .i64 (-1), .slice none 0 0] 45) = wz1 at hX hb ⊢
      obtain ⟨g1, hg⟩ : ∃ g_, g_ = (wz0).heap.size := ⟨_, rfl⟩
      rw [← hg] at hX ⊢
      replace HW := Ak (HW.out.below hb)
      have HN1 := Ak (show n5 ≤ g1 by rw [hg]; exact HN.out)
      replace HN := Ak (Nat.le_trans HN.out hb.size)
      replace HE := Ak (Kd.R_below HE.out hb)
      have HNE := Ak (show g1 ≠ g0 by rw [hg]; exact Nat.ne_of_gt (Kd.R_lt HE0.out g0 rfl))
      have HG1 := Ak hX
      have HLT1 := Ak (show g1 < (wz1).heap.size from blk_lt hX)
      clear hX hb hg
      refine wpAnyN_one (i := 3) (by kernel_rfl) rfl (fun K hK => ?_)
      refine S_copy_step (w0 := w0) k45 w0.heap.size (by rfl) (.tmp 13) (.tmp 15) 27 45 (.agg #[(.int .i64 0), (.string ⟨#[]⟩), (.slice none 0 0), (.string ⟨#[]⟩), (.int .i64 0), (.slice none 0 0)]) 96 rfl Try.underlying27 info45 rfl (by decide) (by omega) (.slice (some ⟨g0, 0, none⟩) 0 0) (.slice A0 xs.length c0) xs (fun k_ => (P_ k_ ∧ k_ < w.heap.size) ∨ n5 ≤ k_) (fun k_ => P_ k_ ∧ k_ < w.heap.size) rfl rfl HE.out HW.out.s (fun k_ hk => ⟨.inl hk, fun e_ => by have h3 : k_ = g0 := Option.some.inj e_; have := HN0.out; have := HW.out.ge5; omega⟩) (fun k_ hk => .inr (Nat.le_trans HN.out hk)) (below_step HB.out HW.out.low) HW.out.base (by have := HL1.out; omega) ?_
      intro v1 wc hS hlow hg hat
      have hb1 : ∀ k_, v1.ownBlock = some k_ → n5 ≤ k_ := fun k_ e_ => hat.elim (fun h_ => by have h3 : g0 = k_ := Option.some.inj (h_.symm.trans e_); rw [← h3]; exact HN0.out) (fun ⟨b_, h_, h2⟩ => by have h3 : b_ = k_ := Option.some.inj (h_.symm.trans e_); rw [← h3]; exact Nat.le_trans HN.out h2)
      replace HW := Ak (HW.out.grown hlow hg (fun k_ e_ => by have h3 : g0 = k_ := Option.some.inj e_; rw [← h3]; exact HN0.out))
      replace HG1 := Ak (blk_grown HG1.out hg (fun e_ => HNE.out (Option.some.inj e_)))
      replace HN := Ak (Nat.le_trans HN.out hg.size)
      have HR := Ak hS
      have HB1 := Ak hb1
      clear hS hlow hg hat hb1
      refine hK.out _ _ ?_ (fun hH5 => ?_)
      ·(try dsimp only); exact AddW.held HW.out
      clear hK K
      refine wpAnyN_one (i := 6) (by kernel_rfl) rfl (fun K hK => ?_)
      refine S_append_at (w0 := w0) k45 w0.heap.size (by rfl) (.tmp 16) (.tmp 18) 27 45 (.agg #[(.int .i64 0), (.string ⟨#[]⟩), (.slice none 0 0), (.string ⟨#[]⟩), (.int .i64 0), (.slice none 0 0)]) 96 rfl Try.underlying27 info45 rfl (by decide) (by omega) v1 xs ⟨a0, a1, a2, a3, -1, []⟩ [.int .i64 a0, .string a1, .slice A9 a2.length c9, .string a3, .int .i64 (-1), .slice none 0 0] g1 1 (fun k_ => (P_ k_ ∧ k_ < w.heap.size) ∨ (w.heap.size ≤ k_ ∧ k_ ≠ gt ∧ k_ ≠ gb ∧ k_ ≠ gr)) (fun k_ => w.heap.size ≤ k_ ∧ k_ < n5 ∧ k_ ≠ gt ∧ k_ ≠ gb ∧ k_ ≠ gr) rfl rfl HG1.out rfl (k45_mkM _ _ _ ⟨a0, a1, a2, a3, -1, []⟩ HW.out.r2 (Kd.R_nil _ _ _ _ _)) (fun k_ hk => ⟨.inr ⟨hk.1, hk.2.2⟩, fun e_ => by have := HB1.out k_ e_.symm; omega⟩) (fun k_ hk => .inr (HW.out.far (Nat.le_trans HN.out hk))) (Kd.S_mono HR.out (fun k_ hk => hk.elim (fun hk => ⟨.inl hk, fun h_ => by omega⟩) (fun hk => ⟨.inr (HW.out.far hk), fun h_ => by omega⟩))) (below_step HB.out HW.out.low) HW.out.base (by have := HL1.out; omega) ?_
      intro v2 wd hS hlow hg hat
      obtain ⟨Ay, cy, ev_⟩ := Kd.S_slice hS
      rw [List.length_append, List.length_singleton] at ev_
      subst ev_
      replace HW := Ak (HW.out.grown hlow hg (fun k_ e_ => HB1.out k_ e_))
      have HR2 := Ak hS
      clear hS hlow hg hat HR
      refine hK.out _ _ ?_ (fun hH6 => ?_)
      ·(try dsimp only); exact AddW.held HW.out
      clear hK K
      refine wpAnyN_one (i := 7) (by kernel_rfl) rfl (fun K hK => ?_)
      go_simp
      refine hK.out _ _ ?_ (fun hH7 => ?_)
      ·(try dsimp only); exact hH6
      clear hK K
      have ht0 := blk_cell HW.out.bt 0
      have htf := blk_frozen HW.out.bt
      refine wpAnyN_last (by kernel_rfl) (by kernel_rfl) rfl (fun K hK => ?_)
      go_simp
      refine hK.out _ _ ?_
      clear hK K
      exact ⟨⟨v1, _, g0, g1⟩, by simp only [putAll, List.foldl_cons, List.foldl_nil, Act.put, List.setIfInBounds_toArray, List.set_cons_zero, List.set_cons_succ], blk_set HW.out.bt 0 _, blk_far (p := ⟨gt, 0, none⟩) HW.out.br HW.out.ne _, Kd.S_mono (Kd.S_far (p := ⟨gt, 0, none⟩) (Kd.S_types HR2.out HW.out.bt (by decide)) (fun _ h_ => h_.2) _) (fun _ h_ => h_.1), below_set HW.out.low HW.out.gt_⟩
    ·skip
     go_simp
     refine hK.out _ _ ?_ (fun hH7 => ?_)
     ·(try dsimp only); exact AddW.held (HW.out.below (below_alloc (Below.refl _ _) _))
     clear hK K
     have hX := blk_new WD (.cells #[.int .i64 a0, .string a1, .slice A9 a2.length c9, .string a3, .int .i64 (-1), .slice none 0 0] 45)
     have hb := below_alloc (Below.refl (WD).heap.size WD) (.cells #[.int .i64 a0, .string a1, .slice A9 a2.length c9, .string a3, .int .i64 (-1), .slice none 0 0] 45)
     generalize World.alloc WD (.cells #[.int .i64 a0, .string a1, .slice A9 a2.length c9, .string a3, .int .i64 (-1), .slice none 0 0] 45) = wz1 at hX hb ⊢
     obtain ⟨g1, hg⟩ : ∃ g_, g_ = (WD).heap.size := ⟨_, rfl⟩
     rw [← hg] at hX ⊢
     replace HW := Ak (HW.out.below hb)
     have HN1 := Ak (show n5 ≤ g1 by rw [hg]; exact HN.out)
     replace HN := Ak (Nat.le_trans HN.out hb.size)
     have HG1 := Ak hX
     have HLT1 := Ak (show g1 < (wz1).heap.size from blk_lt hX)
     clear hX hb hg
     refine wpAnyN_one (i := 0) (by kernel_rfl) rfl (fun K hK => ?_)
     go_simp
     refine hK.out _ _ ?_ (fun hH8 => ?_)
     ·(try dsimp only); exact AddW.held (HW.out.below (below_alloc (Below.refl _ _) _))
     clear hK K
     have hX := blk_new wz1 (.cells #[] 45)
     have hb := below_alloc (Below.refl (wz1).heap.size wz1) (.cells #[] 45)
     have hE := empty_row k45 45 wz1 w0.heap.size (fun k_ => (P_ k_ ∧ k_ < w.heap.size) ∨ n5 ≤ k_) HW.out.base (.inr HN.out)
     generalize World.alloc wz1 (.cells #[] 45) = wz0 at hX hb hE ⊢
     obtain ⟨g0, hg⟩ : ∃ g_, g_ = (wz1).heap.size := ⟨_, rfl⟩
     rw [← hg] at hX hE ⊢
     replace HW := Ak (HW.out.below hb)
     have HN0 := Ak (show n5 ≤ g0 by rw [hg]; exact HN.out)
     replace HN := Ak (Nat.le_trans HN.out hb.size)
     replace HG1 := Ak (blk_below HG1.out hb)
     have HNE := Ak (show g1 ≠ g0 by have := blk_lt HG1.out; have := hg; have := HLT1.out; omega)
     have HE := Ak hE
     clear hX hb hg hE
     refine wpAnyN_one (i := 3) (by kernel_rfl) rfl (fun K hK => ?_)
     refine S_copy_step (w0 := w0) k45 w0.heap.size (by rfl) (.tmp 13) (.tmp 15) 27 45 (.agg #[(.int .i64 0), (.string ⟨#[]⟩), (.slice none 0 0), (.string ⟨#[]⟩), (.int .i64 0), (.slice none 0 0)]) 96 rfl Try.underlying27 info45 rfl (by decide) (by omega) (.slice (some ⟨g0, 0, none⟩) 0 0) (.slice A0 xs.length c0) xs (fun k_ => (P_ k_ ∧ k_ < w.heap.size) ∨ n5 ≤ k_) (fun k_ => P_ k_ ∧ k_ < w.heap.size) rfl rfl HE.out HW.out.s (fun k_ hk => ⟨.inl hk, fun e_ => by have h3 : k_ = g0 := Option.some.inj e_; have := HN0.out; have := HW.out.ge5; omega⟩) (fun k_ hk => .inr (Nat.le_trans HN.out hk)) (below_step HB.out HW.out.low) HW.out.base (by have := HL1.out; omega) ?_
     intro v1 wc hS hlow hg hat
     have hb1 : ∀ k_, v1.ownBlock = some k_ → n5 ≤ k_ := fun k_ e_ => hat.elim (fun h_ => by have h3 : g0 = k_ := Option.some.inj (h_.symm.trans e_); rw [← h3]; exact HN0.out) (fun ⟨b_, h_, h2⟩ => by have h3 : b_ = k_ := Option.some.inj (h_.symm.trans e_); rw [← h3]; exact Nat.le_trans HN.out h2)
     replace HW := Ak (HW.out.grown hlow hg (fun k_ e_ => by have h3 : g0 = k_ := Option.some.inj e_; rw [← h3]; exact HN0.out))
     replace HG1 := Ak (blk_grown HG1.out hg (fun e_ => HNE.out (Option.some.inj e_)))
     replace HN := Ak (Nat.le_trans HN.out hg.size)
     have HR := Ak hS
     have HB1 := Ak hb1
     clear hS hlow hg hat hb1
     refine hK.out _ _ ?_ (fun hH9 => ?_)
     ·(try dsimp only); exact AddW.held HW.out
     clear hK K
     refine wpAnyN_one (i := 6) (by kernel_rfl) rfl (fun K hK => ?_)
     refine S_append_at (w0 := w0) k45 w0.heap.size (by rfl) (.tmp 16) (.tmp 18) 27 45 (.agg #[(.int .i64 0), (.string ⟨#[]⟩), (.slice none 0 0), (.string ⟨#[]⟩), (.int .i64 0), (.slice none 0 0)]) 96 rfl Try.underlying27 info45 rfl (by decide) (by omega) v1 xs ⟨a0, a1, a2, a3, -1, []⟩ [.int .i64 a0, .string a1, .slice A9 a2.length c9, .string a3, .int .i64 (-1), .slice none 0 0] g1 1 (fun k_ => (P_ k_ ∧ k_ < w.heap.size) ∨ (w.heap.size ≤ k_ ∧ k_ ≠ gt ∧ k_ ≠ gb ∧ k_ ≠ gr)) (fun k_ => w.heap.size ≤ k_ ∧ k_ < n5 ∧ k_ ≠ gt ∧ k_ ≠ gb ∧ k_ ≠ gr) rfl rfl HG1.out rfl (k45_mkM _ _ _ ⟨a0, a1, a2, a3, -1, []⟩ HW.out.r2 (Kd.R_nil _ _ _ _ _)) (fun k_ hk => ⟨.inr ⟨hk.1, hk.2.2⟩, fun e_ => by have := HB1.out k_ e_.symm; omega⟩) (fun k_ hk => .inr (HW.out.far (Nat.le_trans HN.out hk))) (Kd.S_mono HR.out (fun k_ hk => hk.elim (fun hk => ⟨.inl hk, fun h_ => by omega⟩) (fun hk => ⟨.inr (HW.out.far hk), fun h_ => by omega⟩))) (below_step HB.out HW.out.low) HW.out.base (by have := HL1.out; omega) ?_
     intro v2 wd hS hlow hg hat
     obtain ⟨Ay, cy, ev_⟩ := Kd.S_slice hS
     rw [List.length_append, List.length_singleton] at ev_
     subst ev_
     replace HW := Ak (HW.out.grown hlow hg (fun k_ e_ => HB1.out k_ e_))
     have HR2 := Ak hS
     clear hS hlow hg hat HR
     refine hK.out _ _ ?_ (fun hH10 => ?_)
     ·(try dsimp only); exact AddW.held HW.out
     clear hK K
     refine wpAnyN_one (i := 7) (by kernel_rfl) rfl (fun K hK => ?_)
     go_simp
     refine hK.out _ _ ?_ (fun hH7 => ?_)
     ·(try dsimp only); exact hH10
     clear hK K
     have ht0 := blk_cell HW.out.bt 0
     have htf := blk_frozen HW.out.bt
     refine wpAnyN_last (by kernel_rfl) (by kernel_rfl) rfl (fun K hK => ?_)
     go_simp
     refine hK.out _ _ ?_
     clear hK K
     exact ⟨⟨v1, _, g0, g1⟩, by simp only [putAll, List.foldl_cons, List.foldl_nil, Act.put, List.setIfInBounds_toArray, List.set_cons_zero, List.set_cons_succ], blk_set HW.out.bt 0 _, blk_far (p := ⟨gt, 0, none⟩) HW.out.br HW.out.ne _, Kd.S_mono (Kd.S_far (p := ⟨gt, 0, none⟩) (Kd.S_types HR2.out HW.out.bt (by decide)) (fun _ h_ => h_.2) _) (fun _ h_ => h_.1), below_set HW.out.low HW.out.gt_⟩
   rintro ⟨v1, v2, g0, g1⟩ W6 ⟨hT, hR, hS, hl⟩
   simp only [putAll, List.foldl_cons, List.foldl_nil, Act.put, List.setIfInBounds_toArray, List.set_cons_zero, List.set_cons_succ]
   dsimp only at hT hR hS hl
   obtain ⟨Az, cz, ev_⟩ := Kd.S_slice hS
   rw [List.length_append, List.length_singleton] at ev_
   subst ev_
   have HT := Ak hT
   have HR := Ak hR
   have HS := Ak hS
   have HL := Ak hl
   have HGR := Ak (show w.heap.size ≤ gr ∧ gr ≠ gt from ⟨HW.out.ge.2, HW.out.ne⟩)
   clear hT hR hS hl HW HN
   have ht0 := blk_cell HT.out 0
   go_upto_region 5 with (fail)
   clear ht0
   have hw : IntKind.i64.wrap (xs.length : Int) = (xs.length : Int) := by rw [IntKind.wrap_i64]; have := HL1.out; omega
   have HTD := Ak (show W6.drew.heap[gt]? = some (.cells #[.slice Az (xs.length + 1) cz] 29 (0, 0)) from HT.out)
   have HRD := Ak (show W6.drew.heap[gr]? = some (.cells #[.slice none 0 0] 29 (0, 0)) from HR.out)
   have HSD := Ak (Kd.S_drew HS.out)
   have HLD := Ak (show Below w.heap.size w W6.drew from pw_below_drewN HL.out 1)
   have ht0 : W6.drew.cell? ⟨gt, 0, none⟩ = some (.slice Az (xs.length + 1) cz) := (blk_cell HTD.out 0).trans rfl
   clear HT HR HS HL
   refine wp_region_N (n := 6) (S := (fun w' => w'.cell? ⟨gt, 0, none⟩ = some (.slice Az (xs.length + 1) cz))) (by kernel_rfl) ht0 (fun hHeld => ?_)
   generalize W6.drew = W7 at HTD HRD HSD HLD hHeld ht0 ⊢
   have ht0' : (W7.setCell ⟨gr, 0, none⟩ (.slice Az (xs.length + 1) cz)).cell? ⟨gt, 0, none⟩ = some (.slice Az (xs.length + 1) cz) := (blk_cell (blk_far (p := ⟨gr, 0, none⟩) HTD.out (Ne.symm HGR.out.2) _) 0).trans rfl
   refine wpAnyN_take (i := 0) (v := ?v400) rfl (by kernel_rfl) (by kernel_rfl) (by kernel_rfl) (by kernel_rfl) (fun _ _ _ h => h) (Or.inl ⟨by rfl, ?h400⟩) hHeld ?r400
   case h400 => (intro w_ hSw; (try dsimp only at hSw); go_simp; (try with_reducible rfl))
   refine wpAnyN_take (i := 1) (v := ?v501) rfl (by kernel_rfl) (by kernel_rfl) (by kernel_rfl) (by kernel_rfl) (fun _ _ _ h => h) (Or.inl ⟨by rfl, ?h501⟩) hHeld ?r501
   case h501 => (intro w_ hSw; (try dsimp only at hSw); go_simp; (try with_reducible rfl))
   refine wpAnyN_take (i := 2) (v := ?v602) rfl (by kernel_rfl) (by kernel_rfl) (by kernel_rfl) (by kernel_rfl) (fun _ _ _ h => h) (Or.inl ⟨by rfl, ?h602⟩) hHeld ?r602
   case h602 => (intro w_ hSw; (try dsimp only at hSw); go_simp; (try with_reducible rfl))
   refine wpAnyN_take (i := 3) (v := ?v703) rfl (by kernel_rfl) (by kernel_rfl) (by kernel_rfl) (by kernel_rfl) (fun _ _ _ h => h) (Or.inl ⟨by rfl, ?h703⟩) hHeld ?r703
   case h703 => (intro w_ hSw; (try dsimp only at hSw); go_simp; (try with_reducible rfl))
   refine wpAnyN_take (i := 4) (v := ?v804) rfl (by kernel_rfl) (by kernel_rfl) (by kernel_rfl) (by kernel_rfl) (fun _ _ _ h => h) (Or.inl ⟨by rfl, ?h804⟩) hHeld ?r804
   case h804 => (intro w_ hSw; (try dsimp only at hSw); go_simp; (try with_reducible rfl))
   have hr0 := blk_cell HRD.out 0
   have hrf := blk_frozen HRD.out
   refine wpAnyN_one (i := 5) (by kernel_rfl) rfl (fun K hK => ?_)
   go_simp
   refine hK.out _ _ ?_ (fun hH5 => ?_)
   ·(try dsimp only); exact ht0'
   clear hK K
   refine wpAnyN_last (by kernel_rfl) (by kernel_rfl) rfl (fun K hK => ?_)
   go_simp
   refine hK.out _ _ ?_
   clear hK K
   go_wp2_with fail
   refine bodyPost_ret (results_ct rfl _ _ gr 29 #[.slice Az (xs.length + 1) cz] (0, 0) _ rfl (blk_put (cs := #[.slice none 0 0]) HRD.out 0 _ rfl) Try.underlying29 rfl (by kernel_rfl)) rfl ?_
   exact ⟨_, rfl, Kd.S_mono (Kd.S_far (p := ⟨gr, 0, none⟩) (Kd.S_types HSD.out HRD.out (by decide)) (fun _ h_ => h_.2) _) (fun _ h_ => h_.1.elim (fun h2_ => .inl h2_.1) (fun h2_ => .inr h2_.1)), below_set HLD.out HGR.out.1⟩
  ·rw [if_neg l1] at h; cases h
 ·rw [if_neg l2] at h; cases h
def spec_l6DrawRight.node (k : Nat) (j : Int) (b : List Int) (i h : Int) : Option (S45 × Int × Int) := (spec_l6DrawNode.f k b i h).bind fun y => if 0 < j then (spec_l1Once.f b y.2.2.2.2.2.2.1 y.2.2.2.2.2.2.2 2).bind fun q => if q.1 = true then some (⟨3, ⟨#[112]⟩, [], ⟨#[]⟩, 0, []⟩, q.2.1, q.2.2) else some (⟨y.1, y.2.1, y.2.2.1, y.2.2.2.1, y.2.2.2.2.1, y.2.2.2.2.2.1⟩, q.2.1, q.2.2) else some (⟨y.1, y.2.1, y.2.2.1, y.2.2.2.1, y.2.2.2.2.1, y.2.2.2.2.2.1⟩, y.2.2.2.2.2.2.1, y.2.2.2.2.2.2.2)
def spec_l6DrawRight.hang (k : Nat) (zs : List S45) (z2 : Int) (b : List Int) (i h : Int) : Option (List S45 × Int × Int) := (spec_l1Below.f b i h z2).bind fun p => (spec_l6Opens.f zs p.1).bind fun o => if o = true then (spec_l1Once.f b p.2.1 p.2.2 9).bind fun q => if q.1 = true then some (zs, q.2.1, q.2.2) else (spec_l6Hang.f k zs z2 p.1).bind fun us => some (us, q.2.1, q.2.2) else some (zs, p.2.1, p.2.2)
def spec_l6DrawRight.l0 : Nat → Int → Int → List S45 → List Int → Int → Int → Option (List S45 × Int × Int)
 | 0, _, _, _, _, _, _ => none
 | k + 1, j, n, xs, b, i, h => if j < n then (spec_l6DrawRight.node k j b i h).bind fun x => (spec_l6Copy.f k xs).bind fun ys => (spec_l6Add.f ys x.1.f0 x.1.f1 x.1.f2 x.1.f3 x.1.f4 []).bind fun z => if 500 < (z.1.length : Int) then some (xs, x.2.1, x.2.2) else (spec_l6DrawRight.hang k z.1 z.2 b x.2.1 x.2.2).bind fun u => spec_l6DrawRight.l0 k (wrap64 (j + 1)) n u.1 b u.2.1 u.2.2 else some (xs, i, h)
def spec_l6DrawRight.f (k : Nat) (b : List Int) (i h : Int) : Option (List S45 × Int × Int) := (spec_TreeNew.f).bind fun xs => (spec_l1Below.f b i h 9).bind fun n => (spec_l1Once.f b n.2.1 n.2.2 40).bind fun q => spec_l6DrawRight.l0 k 0 (if q.1 = true then 500 else n.1) xs b q.2.1 q.2.2
theorem spec_l6DrawRight.mono_node (k : Nat) (y0 y1 y2 y3) : LeO (spec_l6DrawRight.node k y0 y1 y2 y3) (spec_l6DrawRight.node (k + 1) y0 y1 y2 y3) := LeO.bind (spec_l6DrawNode.mono _ _ _ k) (fun _ => LeO.refl _)
theorem spec_l6DrawRight.mono_hang (k : Nat) (y0 y1 y2 y3 y4) : LeO (spec_l6DrawRight.hang k y0 y1 y2 y3 y4) (spec_l6DrawRight.hang (k + 1) y0 y1 y2 y3 y4) := LeO.bind (LeO.refl _) (fun _ => LeO.bind (LeO.refl _) (fun _ => LeO.ite (LeO.bind (LeO.refl _) (fun _ => LeO.ite (LeO.refl _) (LeO.bind (spec_l6Hang.mono _ _ _ k) (fun _ => LeO.refl _)))) (LeO.refl _)))
theorem spec_l6DrawRight.mono_l : ∀ k, (∀ y0 y1 y2 y3 y4 y5, LeO (spec_l6DrawRight.l0 k y0 y1 y2 y3 y4 y5) (spec_l6DrawRight.l0 (k + 1) y0 y1 y2 y3 y4 y5))
 | 0 => fun _ _ _ _ _ _ r h => by simp [spec_l6DrawRight.l0] at h
 | k + 1 => by
  have ih := spec_l6DrawRight.mono_l k
  intro y0 y1 y2 y3 y4 y5
  rw [spec_l6DrawRight.l0, spec_l6DrawRight.l0]
  exact LeO.ite (LeO.bind (spec_l6DrawRight.mono_node k _ _ _ _) (fun _ => LeO.bind (spec_l6Copy.mono _ k) (fun _ => LeO.bind (LeO.refl _) (fun _ => LeO.ite (LeO.refl _) (LeO.bind (spec_l6DrawRight.mono_hang k _ _ _ _ _) (fun _ => ih _ _ _ _ _ _)))))) (LeO.refl _)
theorem spec_l6DrawRight.mono : ∀ a0 a1 a2 k, LeO (spec_l6DrawRight.f k a0 a1 a2) (spec_l6DrawRight.f (k + 1) a0 a1 a2) := fun _ _ _ k => LeO.bind (LeO.refl _) (fun _ => LeO.bind (LeO.refl _) (fun _ => LeO.bind (LeO.refl _) (fun _ => spec_l6DrawRight.mono_l k _ _ _ _ _ _)))
structure V3 where
 u : Value
 v : Value
 q : Bool
structure DrwW (w0 w W : World) (g gt gr : Nat) (v : Value) (xs : List S45) : Prop where
 bt : W.heap[gt]? = some (.cells #[v] 29 (0, 0))
 br : W.heap[gr]? = some (.cells #[.slice none 0 0] 29 (0, 0))
 s : Kd.S k45 45 W w0.heap.size (fun k => w.heap.size ≤ k ∧ k ≠ gt ∧ k ≠ gr) v xs
 low : Below w0.heap.size w0 W
 kp : KeepBut w W g none
 gt_ : w.heap.size ≤ gt
 gr_ : w.heap.size ≤ gr
 ne : gr ≠ gt
 gc : g < w.heap.size
 g0 : w0.heap.size ≤ g
structure DnW (WB W : World) (gt gx : Nat) (v0 u0 u1 u2 u3 u4 u5 : Value) : Prop where
 bt : W.heap[gt]? = some (.cells #[v0] 29 (0, 0))
 bb : W.heap[gx]? = some (.cells #[u0, u1, u2, u3, u4, u5] 45 (0, 0))
 low : Below WB.heap.size WB W
 lt : gt < WB.heap.size ∧ gx < WB.heap.size
section
variable {w0 w W W2 WB : World} {g gt gr gx : Nat} {v : Value} {xs : List S45} {v0 u0 u1 u2 u3 u4 u5 : Value}
theorem DnW.below (h : DnW WB W gt gx v0 u0 u1 u2 u3 u4 u5) (hb : Below W.heap.size W W2) : DnW WB W2 gt gx v0 u0 u1 u2 u3 u4 u5 := ⟨blk_below h.bt hb, blk_below h.bb hb, below_step h.low hb, h.lt⟩
theorem DnW.set (h : DnW WB W gt gx v0 u0 u1 u2 u3 u4 u5) {k j : Nat} {u : Value} (hg : WB.heap.size ≤ k) : DnW WB (W.setCell ⟨k, j, none⟩ u) gt gx v0 u0 u1 u2 u3 u4 u5 := ⟨blk_far (p := ⟨k, j, none⟩) h.bt (by have := h.lt; show gt ≠ k; omega) _, blk_far (p := ⟨k, j, none⟩) h.bb (by have := h.lt; show gx ≠ k; omega) _, below_set h.low hg, h.lt⟩
theorem DnW.held (h : DnW WB W gt gx v0 u0 u1 u2 u3 u4 u5) : W.cell? ⟨gt, 0, none⟩ = some v0 ∧ W.cell? ⟨gx, 0, none⟩ = some u0 ∧ W.cell? ⟨gx, 1, none⟩ = some u1 ∧ W.cell? ⟨gx, 2, none⟩ = some u2 ∧ W.cell? ⟨gx, 3, none⟩ = some u3 ∧ W.cell? ⟨gx, 4, none⟩ = some u4 ∧ W.cell? ⟨gx, 5, none⟩ = some u5 :=
 ⟨(blk_cell h.bt 0).trans rfl, (blk_cell h.bb 0).trans rfl, (blk_cell h.bb 1).trans rfl, (blk_cell h.bb 2).trans rfl, (blk_cell h.bb 3).trans rfl, (blk_cell h.bb 4).trans rfl, (blk_cell h.bb 5).trans rfl⟩
theorem keep_trans (h : KeepBut w W g none) (hk : KeepBut W W2 g none) : KeepBut w W2 g none := ⟨Nat.le_trans h.1 hk.1, fun i hi h1 h2 => (hk.2 i (Nat.lt_of_lt_of_le hi h.1) h1 h2).trans (h.2 i hi h1 h2)⟩
theorem keep_below (h : KeepBut w W g none) (hb : Below W.heap.size W W2) : KeepBut w W2 g none := Kept.keep h (Kept.of_below hb (fun _ => False)) (fun _ hk => hk.elim)
theorem keep_set (h : KeepBut w W g none) {k j : Nat} (hk : w.heap.size ≤ k) (u : Value) : KeepBut w (W.setCell ⟨k, j, none⟩ u) g none := Kept.keep h (Kept.setCell (p := ⟨k, j, none⟩) (Kept.refl W (fun x => x = k)) (.inl rfl) u) (fun x hx => by subst hx; exact hk)
theorem DrwW.below (h : DrwW w0 w W g gt gr v xs) (hb : Below W.heap.size W W2) : DrwW w0 w W2 g gt gr v xs := ⟨blk_below h.bt hb, blk_below h.br hb, Kd.S_below h.s hb, below_step h.low hb, keep_below h.kp hb, h.gt_, h.gr_, h.ne, h.gc, h.g0⟩
theorem DrwW.keep (h : DrwW w0 w W g gt gr v xs) (hl : Below w0.heap.size w0 W2) (hk : KeepBut W W2 g none) : DrwW w0 w W2 g gt gr v xs :=
 ⟨hk.blk h.bt (by have := h.gt_; have := h.gc; omega) (by simp), hk.blk h.br (by have := h.gr_; have := h.gc; omega) (by simp), Kd.S_keep h.s hk (fun k h_ => by have := h.gc; omega), hl, keep_trans h.kp hk, h.gt_, h.gr_, h.ne, h.gc, h.g0⟩
theorem DrwW.w0w (h : DrwW w0 w W g gt gr v xs) : w0.heap.size ≤ w.heap.size := by have := h.g0; have := h.gc; omega
theorem DrwW.far (h : DrwW w0 w W g gt gr v xs) {k j : Nat} (hk : w.heap.size ≤ k) (h1 : k ≠ gt) (h2 : k ≠ gr) (h0 : w0.heap.size ≤ k) (hS : Kd.S k45 45 (W.setCell ⟨k, j, none⟩ v0) w0.heap.size (fun k => w.heap.size ≤ k ∧ k ≠ gt ∧ k ≠ gr) v xs) : DrwW w0 w (W.setCell ⟨k, j, none⟩ v0) g gt gr v xs :=
 ⟨blk_far (p := ⟨k, j, none⟩) h.bt (Ne.symm h1) _, blk_far (p := ⟨k, j, none⟩) h.br (Ne.symm h2) _, hS, below_set h.low h0, keep_set h.kp hk _, h.gt_, h.gr_, h.ne, h.gc, h.g0⟩
theorem fillN_far (W : World) (gb : Nat) (x : S45) (v2 v5 : Value) (k : Nat) (hk : k ≠ gb) : (fillN W gb x v2 v5).heap[k]? = W.heap[k]? :=
 (show fillN W gb x v2 v5 = W.setCells gb 0 [.int .i64 x.f0, .string x.f1, v2, .string x.f3, .int .i64 x.f4, v5] from rfl) ▸ setCells_far _ _ k hk
theorem fillN_size (W : World) (gb : Nat) (x : S45) (v2 v5 : Value) : W.heap.size ≤ (fillN W gb x v2 v5).heap.size :=
 (Kept.setCell (p := ⟨gb, 5, none⟩) (Kept.setCell (p := ⟨gb, 4, none⟩) (Kept.setCell (p := ⟨gb, 3, none⟩) (Kept.setCell (p := ⟨gb, 2, none⟩) (Kept.setCell (p := ⟨gb, 1, none⟩) (Kept.setCell (p := ⟨gb, 0, none⟩) (Kept.refl W (fun _ => True)) (.inl trivial) _) (.inl trivial) _) (.inl trivial) _) (.inl trivial) _) (.inl trivial) _) (.inl trivial) _).1
theorem DrwW.fill (h : DrwW w0 w W g gt gr v xs) (h1 : w.heap.size ≤ gx) (h2 : gx ≠ gt) (h3 : gx ≠ gr) (x : S45) (v2 v5 : Value) (hS : Kd.S k45 45 W w0.heap.size (fun k => (w.heap.size ≤ k ∧ k ≠ gt ∧ k ≠ gr) ∧ k ≠ gx) v xs) : DrwW w0 w (fillN W gx x v2 v5) g gt gr v xs :=
 have h0 : w0.heap.size ≤ gx := Nat.le_trans h.w0w h1
 ⟨(fillN_far _ _ _ _ _ _ (Ne.symm h2)).trans h.bt, (fillN_far _ _ _ _ _ _ (Ne.symm h3)).trans h.br, Kd.S_mono (Kd.S_step hS (fun k hk _ => fillN_far _ _ _ _ _ _ hk.2)) (fun _ hk => hk.1), below_set (below_set (below_set (below_set (below_set (below_set h.low h0) h0) h0) h0) h0) h0, ⟨Nat.le_trans h.kp.1 (fillN_size _ _ _ _ _), fun i hi n1 n2 => (fillN_far _ _ _ _ _ _ (by omega)).trans (h.kp.2 i hi n1 n2)⟩, h.gt_, h.gr_, h.ne, h.gc, h.g0⟩
theorem IsS117.fill {b : List Int} {i h : Int} (hI : IsS117 w0 W g b i h) (hg : g ≠ gx) (x : S45) (v2 v5 : Value) : IsS117 w0 (fillN W gx x v2 v5) g b i h := by
 obtain ⟨A0, c0, hb, h1, h2⟩ := hI
 exact ⟨A0, c0, (fillN_far _ _ _ _ _ _ hg).trans hb, h1, h2⟩
structure DrwB (w0 w W : World) (g gt gr : Nat) : Prop where
 bt : ∃ v, W.heap[gt]? = some (.cells #[v] 29 (0, 0))
 br : W.heap[gr]? = some (.cells #[.slice none 0 0] 29 (0, 0))
 low : Below w0.heap.size w0 W
 kp : KeepBut w W g none
 gt_ : w.heap.size ≤ gt
 gr_ : w.heap.size ≤ gr
 ne : gr ≠ gt
 gc : g < w.heap.size
 w0w : w0.heap.size ≤ w.heap.size
theorem DrwW.b (h : DrwW w0 w W g gt gr v xs) : DrwB w0 w W g gt gr := ⟨⟨_, h.bt⟩, h.br, h.low, h.kp, h.gt_, h.gr_, h.ne, h.gc, h.w0w⟩
theorem DrwB.below (h : DrwB w0 w W g gt gr) (hb : Below W.heap.size W W2) : DrwB w0 w W2 g gt gr := ⟨⟨_, blk_below h.bt.choose_spec hb⟩, blk_below h.br hb, below_step h.low hb, keep_below h.kp hb, h.gt_, h.gr_, h.ne, h.gc, h.w0w⟩
theorem DrwB.keep (h : DrwB w0 w W g gt gr) (hl : Below w0.heap.size w0 W2) (hk : KeepBut W W2 g none) : DrwB w0 w W2 g gt gr :=
 ⟨⟨_, hk.blk h.bt.choose_spec (by have := h.gt_; have := h.gc; omega) (by simp)⟩, hk.blk h.br (by have := h.gr_; have := h.gc; omega) (by simp), hl, keep_trans h.kp hk, h.gt_, h.gr_, h.ne, h.gc, h.w0w⟩
theorem DrwB.kept (h : DrwB w0 w W g gt gr) (hl : Below w0.heap.size w0 W2) {S : Nat → Prop} (hk : Kept W W2 S) (h1 : ∀ k, S k → w.heap.size ≤ k ∧ k ≠ gt ∧ k ≠ gr) : DrwB w0 w W2 g gt gr :=
 ⟨⟨_, blk_kept h.bt.choose_spec hk (fun h_ => (h1 _ h_).2.1 rfl)⟩, blk_kept h.br hk (fun h_ => (h1 _ h_).2.2 rfl), hl, Kept.keep h.kp hk (fun k hk_ => (h1 k hk_).1), h.gt_, h.gr_, h.ne, h.gc, h.w0w⟩
theorem DrwB.set (h : DrwB w0 w W g gt gr) {k j : Nat} {u : Value} (h1 : w.heap.size ≤ k) (h2 : k ≠ gt) (h3 : k ≠ gr) : DrwB w0 w (W.setCell ⟨k, j, none⟩ u) g gt gr :=
 ⟨⟨_, blk_far (p := ⟨k, j, none⟩) h.bt.choose_spec (Ne.symm h2) _⟩, blk_far (p := ⟨k, j, none⟩) h.br (Ne.symm h3) _, below_set h.low (Nat.le_trans h.w0w h1), keep_set h.kp h1 _, h.gt_, h.gr_, h.ne, h.gc, h.w0w⟩
theorem DrwB.put {v2 : Value} {ys : List S45} (h : DrwB w0 w W g gt gr) (g0 : w0.heap.size ≤ g) {ok : Nat → Prop} (hS : Kd.S k45 45 W w0.heap.size ok v2 ys) (hok : ∀ k, ok k → w.heap.size ≤ k) : DrwW w0 w (W.setCell ⟨gt, 0, none⟩ v2) g gt gr v2 ys :=
 have hb := h.bt.choose_spec
 ⟨blk_set hb 0 _, blk_far (p := ⟨gt, 0, none⟩) h.br h.ne _, Kd.S_mono (Kd.S_far (p := ⟨gt, 0, none⟩) (Kd.S_types (Kd.S_types hS hb (by decide)) h.br (by decide)) (fun _ hk => hk.1.2) _) (fun k hk => ⟨hok k hk.1.1, hk.1.2, hk.2⟩), below_set h.low (Nat.le_trans h.w0w h.gt_), keep_set h.kp h.gt_ _, h.gt_, h.gr_, h.ne, h.gc, g0⟩
theorem DrwW.done (h : DrwW w0 w W g gt gr v xs) : Kd.S k45 45 (W.setCell ⟨gr, 0, none⟩ v) w0.heap.size (fun k => w.heap.size ≤ k) v xs ∧ Below w0.heap.size w0 (W.setCell ⟨gr, 0, none⟩ v) ∧ KeepBut w (W.setCell ⟨gr, 0, none⟩ v) g none :=
 ⟨Kd.S_mono (Kd.S_far (p := ⟨gr, 0, none⟩) h.s (fun _ hk => hk.2.2) _) (fun _ hk => hk.1), below_set h.low (Nat.le_trans h.w0w h.gr_), keep_set h.kp h.gr_ _⟩
end
theorem l6Add_pos {xs zs : List S45} {a0 a4 z : Int} {a1 a3 : ByteArray} {a2 : List S98} {a5 : List Int} (h : spec_l6Add.f xs a0 a1 a2 a3 a4 a5 = some (zs, z)) : 0 < zs.length := by
 unfold spec_l6Add.f at h
 split at h
 ·split at h
  ·injection h with h
   injection h with h _
   subst h
   simp
  ·cases h
 ·cases h
theorem spec_l6DrawRight.calls (k : Nat) (g : Nat) (b : List Int) (i h : Int) (r1 : List S45) (r2 r3 : Int) (w0 w : World) (hI : IsS117 w0 w g b i h) (hB : Below w0.heap.size w0 w) (hf : spec_l6DrawRight.f k b i h = some (r1, r2, r3)) :
 Calls Try.prog 100 #[.pointer (some ⟨g, 0, none⟩)] w fun e w' => ∃ v_ : Value, e = .returned (.agg #[v_]) ∧ Kd.S k45 45 w' w0.heap.size (fun k_ => w.heap.size ≤ k_) v_ r1 ∧ IsS117 w0 w' g b r2 r3 ∧ Below w0.heap.size w0 w' ∧ KeepBut w w' g none := by
 unfold spec_l6DrawRight.f at hf
 obtain ⟨xs0, E0, hf⟩ := Option.bind_eq_some_iff.1 hf
 obtain ⟨⟨n0, i1, h1⟩, E1, hf⟩ := Option.bind_eq_some_iff.1 hf
 obtain ⟨⟨q, i2, h2⟩, E2, hf⟩ := Option.bind_eq_some_iff.1 hf
 dsimp only at E1 E2 hf
 replace E0 := Ak E0
 replace E1 := Ak E1
 replace E2 := Ak E2
 have HA := Ak hf
 have HI := Ak hI
 have HB := Ak hB
 clear hf hI hB
 go_enter Try.func100, Try.ntmps100
 go_upto_region 2 with (first | ((with_reducible refine gate_dst (N := 2) rfl ?_); refine box_event ?hg (N := 2) ?hd (cs := #[.slice none 0 0]) (t := 29) ?hr ?_; (case hd => rfl); (case hg => rfl); (case hr => first | (go_simp; done) | (go_simp; rfl)); intro gr hg w1 hbox hb; have HR := Ak hbox; have HL1 := Ak hb; have HGR := Ak (show w.heap.size ≤ gr by rw [hg]; exact Nat.le_refl _); clear hbox hb hg) | (go_at_call 118; (with_reducible refine (spec_TreeNew.calls xs0 w1 E0.out).mono ?_); rintro e w2 ⟨v, rfl, hS, hb⟩; obtain ⟨Ax, cx, rfl⟩ := Kd.S_slice hS; have HS2 := Ak hS; have HB2 := Ak hb; clear hS hb))
 have HD := Ak (show DrwW w0 w (w2.alloc (.cells #[.slice Ax xs0.length cx] 29)) g w2.heap.size gr (.slice Ax xs0.length cx) xs0 from ⟨blk_new _ _, blk_below (blk_below HR.out HB2.out) (below_alloc (Below.refl _ _) _), Kd.S_below (Kd.S_lower (Kd.S_mono (Kd.S_bound HS2.out) (fun k_ hk => ⟨by have := hk.2.1; have := HL1.out.size; omega, by have := hk.2.2.1; omega, by have := hk.2.1; have := blk_lt HR.out; omega⟩)) (below_step HB.out HL1.out).size) (below_alloc (Below.refl _ _) _), below_step (below_step (below_step HB.out HL1.out) HB2.out) (below_alloc (Below.refl _ _) _), keep_below (keep_below (keep_below (KeepBut.refl _ _ _) HL1.out) HB2.out) (below_alloc (Below.refl _ _) _), by have := HL1.out.size; have := HB2.out.size; omega, HGR.out, by have := blk_lt HR.out; have := HB2.out.size; omega, HI.out.lt, HI.out.ge⟩)
 have HI2 := Ak (((HI.out.below HL1.out).below HB2.out).below (below_alloc (Below.refl _ _) (.cells #[.slice Ax xs0.length cx] 29)))
 generalize w2.alloc (.cells #[.slice Ax xs0.length cx] 29) = w3 at HD HI2 ⊢
 generalize w2.heap.size = gt at HD ⊢
 clear HS2 HB2 HR HL1 HGR HI
 go_upto_region 3 with (first | (go_at_call 101; (with_reducible refine (spec_l1Below.calls g b i h 9 n0 i1 h1 w0 w3 HI2.out HD.out.low E1.out).mono ?_); rintro e w4 ⟨rfl, hi, hl, hk⟩; have HD4 := Ak (HD.out.keep hl hk); have HI4 := Ak hi; clear hi hl hk))
 go_upto_if 14 with (first | (go_at_call 119; (with_reducible refine (spec_l1Once.calls g b i1 h1 40 _ i2 h2 w0 w4 HI4.out HD4.out.low E2.out).mono ?_); rintro e w5 ⟨rfl, hi, hl, hk⟩; have HD5 := Ak (HD4.out.keep hl hk); have HI5 := Ak hi; have HKP := Ak hk; have HLP := Ak hl; clear hi hl hk))
 go_cut [4] (fun v4 wc => ∃ (n : Int), v4 = .int .i64 n ∧ Aside0 (spec_l6DrawRight.l0 k 0 n xs0 b i2 h2 = some (r1, r2, r3)) ∧ Aside0 (DrwW w0 w wc g gt gr (.slice Ax xs0.length cx) xs0) ∧ Aside0 (IsS117 w0 wc g b i2 h2))
 case first =>
  cases q with
  | false =>
   go_wp2_with fail
   go_meet
   case rel => exact ⟨n0, rfl, ⟨by have := HA.out; simpa using this⟩, HD5, HI5⟩
  | true =>
   go_wp2_with fail
   go_meet
   case rel => exact ⟨500, rfl, ⟨by have := HA.out; simpa using this⟩, HD5, HI5⟩
 case rest =>
  clear HA HD HI2 HD4 HI4 E0 E1 E2
  obtain ⟨n, rfl, HA, HD, HI⟩ := hcut
  go_wp2_with fail
  go_loopg [5] k (fun kq v5 w' => ∃ (j : Int) (xs : List S45) (vo : Value) (i h : Int), v5 = .int .i64 j ∧ Aside0 (spec_l6DrawRight.l0 kq j n xs b i h = some (r1, r2, r3)) ∧ Aside0 (kq ≤ k) ∧ Aside0 (DrwW w0 w w' g gt gr vo xs) ∧ Aside0 (IsS117 w0 w' g b i h))
  case atStart => exact ⟨0, _, _, _, _, rfl, HA, ⟨Nat.le_refl _⟩, HD, HI⟩
  case round =>
   clear HA HD HI
   obtain ⟨j, xs, vo, i, h, rfl, HA, HK, HD, HI⟩ := hrel
   cases gk with
   | zero => exact absurd HA.out (by simp [spec_l6DrawRight.l0])
   | succ k1 =>
    have H := HA.out
    clear HA
    simp only [spec_l6DrawRight.l0] at H
    obtain ⟨Ax, cx, rfl⟩ := Kd.S_slice HD.out.s
    by_cases c1 : j < n
    ·rw [if_pos c1] at H
     obtain ⟨⟨x, ix, hx⟩, A1, H⟩ := Option.bind_eq_some_iff.1 H
     obtain ⟨ys, A2, H⟩ := Option.bind_eq_some_iff.1 H
     obtain ⟨⟨zs, z2⟩, A3, H⟩ := Option.bind_eq_some_iff.1 H
     dsimp only at A1 A2 A3 H
     have HA1 := Ak A1
     have HA2 := Ak A2
     have HA3 := Ak A3
     have HA := Ak H
     clear A1 A2 A3 H
     have c1b : decide (j < n) = true := decide_eq_true c1
     clear c1
     have H := HA1.out
     unfold spec_l6DrawRight.node at H
     obtain ⟨⟨y0, y1, y2, y3, y4, y5, iy, hy⟩, A4, H⟩ := Option.bind_eq_some_iff.1 H
     dsimp only at H
     have HA4 := Ak A4
     have HAN := Ak H
     clear A4 H HA1
     go_upto_region 9 with (first | (go_at_call 120; (with_reducible refine (spec_l6DrawNode.calls k1 g b i h y0 y1 y2 y3 y4 y5 iy hy w0 wr HI.out HD.out.low HA4.out).mono ?_); rintro e w5 ⟨v2, v5, rfl, hr2, hr5, hi, hl, hk⟩; obtain ⟨B2, d2, rfl⟩ := Kd.R_slice hr2; obtain ⟨B5, d5, rfl⟩ := Kd.R_slice hr5; have HD5 := Ak (HD.out.keep hl hk); have HI5 := Ak hi; have HR2 := Ak (Kd.R_lower hr2 (by have := HD.out.low.size; exact HD.out.kp.1)); have HR5 := Ak hr5; clear hr2 hr5 hi hl hk))
     have hX := blk_new w5 (.cells #[.int .i64 y0, .string y1, .slice B2 y2.length d2, .string y3, .int .i64 y4, .slice B5 y5.length d5] 45)
     have hb := below_alloc (Below.refl w5.heap.size w5) (.cells #[.int .i64 y0, .string y1, .slice B2 y2.length d2, .string y3, .int .i64 y4, .slice B5 y5.length d5] 45)
     generalize w5.alloc (.cells #[.int .i64 y0, .string y1, .slice B2 y2.length d2, .string y3, .int .i64 y4, .slice B5 y5.length d5] 45) = w6 at hX hb ⊢
     have HD6 := Ak (HD5.out.below hb)
     have HI6 := Ak (HI5.out.below hb)
     have HS6 := Ak (Kd.S_below (Kd.S_elderB HD5.out.s w5.heap.size (Nat.le_refl _)) hb)
     have HR6 := Ak (Kd.R_below (Kd.R_elderB HR2.out w5.heap.size (Nat.le_refl _)) hb)
     have HBX := Ak hX
     have HGX := Ak (show w.heap.size ≤ w5.heap.size ∧ w5.heap.size ≠ gt ∧ w5.heap.size ≠ gr from ⟨HD5.out.kp.1, Nat.ne_of_gt (blk_lt HD5.out.bt), Nat.ne_of_gt (blk_lt HD5.out.br)⟩)
     clear hX hb HR2 HR5 HD5 HI5
     generalize w5.heap.size = gx at HBX HGX HR6 HS6 ⊢
     refine region_join (σ := V3) (fun s_ => [(22, .int .i64 j), (23, .bool (decide (0 < j))), (24, .bool (decide (0 < j))), (25, s_.u), (26, s_.v), (27, .bool s_.q)]) (fun s_ w' => (DrwW w0 w w' g gt gr (.slice Ax xs.length cx) xs ∧ IsS117 w0 w' g b ix hx ∧ w'.heap[gx]? = some (.cells #[.int .i64 y0, .string y1, .slice B2 y2.length d2, .string y3, .int .i64 y4, .slice B5 y5.length d5] 45 (0, 0)) ∧ Kd.S k45 45 w' w0.heap.size (fun k => (w.heap.size ≤ k ∧ k ≠ gt ∧ k ≠ gr) ∧ k ≠ gx) (.slice Ax xs.length cx) xs ∧ y2.length ≤ d2 ∧ Kd.C k98 w' B2 y2.length y2) ∧ x = if s_.q = true then ⟨3, ⟨#[112]⟩, [], ⟨#[]⟩, 0, []⟩ else ⟨y0, y1, y2, y3, y4, y5⟩) ?_ ?_
     ·have H := HAN.out
      by_cases c2 : 0 < j
      ·rw [if_pos c2] at H
       have c2b : decide (0 < j) = true := decide_eq_true c2
       clear c2
       obtain ⟨⟨q, iq, hq⟩, A5, H⟩ := Option.bind_eq_some_iff.1 H
       dsimp only at H A5
       have HA5 := Ak A5
       have HXQ := Ak (show x = (if q = true then ⟨3, ⟨#[112]⟩, [], ⟨#[]⟩, 0, []⟩ else ⟨y0, y1, y2, y3, y4, y5⟩) ∧ iq = ix ∧ hq = hx by cases q <;> simp at H <;> exact ⟨by simp [← H.1], H.2.1, H.2.2⟩)
       clear A5 H
       go_wp2_with (first | (go_at_call 119; (with_reducible refine (spec_l1Once.calls g b iy hy 2 q iq hq w0 w6 HI6.out HD6.out.low HA5.out).mono ?_); rintro e w7 ⟨rfl, hi, hl, hk⟩; have HD7 := Ak (HD6.out.keep hl hk); have HI7 := Ak hi; have HKP := Ak hk; have HLP := Ak hl; clear hi hl hk))
       have e1 := HXQ.out.2.1
       have e2 := HXQ.out.2.2
       subst e1 e2
       exact ⟨⟨.pointer (some ⟨g, 0, none⟩), .bool q, q⟩, by simp only [putAll, List.foldl_cons, List.foldl_nil, Act.put, List.setIfInBounds_toArray, List.set_cons_zero, List.set_cons_succ, c2b], ⟨HD7.out, HI7.out, HKP.out.blk HBX.out (by have := HGX.out; have := HD6.out.gc; omega) (by simp), Kd.S_keep HS6.out HKP.out (fun k_ hk_ => by have := hk_.1.1; have := HD6.out.gc; omega), (Kd.R_reads' (Kd.R_keep (Kd.R_bound HR6.out) HKP.out (fun k_ hk => by have := hk.2.1; have := HD6.out.gc; have := HD6.out.w0w; omega))).2⟩, HXQ.out.1⟩
      ·rw [if_neg c2] at H
       injection H with H
       injection H with e1 H
       injection H with e2 e3
       have c2b : decide (0 < j) = false := decide_eq_false c2
       clear c2
       subst e1 e2 e3
       go_wp2_with fail
       exact ⟨⟨undef, undef, false⟩, by simp only [putAll, List.foldl_cons, List.foldl_nil, Act.put, List.setIfInBounds_toArray, List.set_cons_zero, List.set_cons_succ, c2b], ⟨HD6.out, HI6.out, HBX.out, HS6.out, (Kd.R_reads' HR6.out).2⟩, by simp⟩
     rintro ⟨u1_, u2_, q⟩ w7 ⟨⟨hD, hI, hB, hS, hR⟩, hxx⟩
     simp only [putAll, List.foldl_cons, List.foldl_nil, Act.put, List.setIfInBounds_toArray, List.set_cons_zero, List.set_cons_succ]
     have HD7 := Ak hD
     have HI7 := Ak hI
     have HB7 := Ak hB
     have HS7 := Ak hS
     have HR7 := Ak hR
     clear hD hI hB hS hR HD6 HI6 HS6 HR6 HBX
     go_upto_if 27 with (fail)
     go_cut [] (fun wc => ∃ (A2 : Option Addr) (c2 : Nat) (u5 : Value), Aside0 (wc.heap[gx]? = some (.cells #[.int .i64 x.f0, .string x.f1, .slice A2 x.f2.length c2, .string x.f3, .int .i64 x.f4, u5] 45 (0, 0))) ∧ Aside0 (x.f2.length ≤ c2 ∧ Kd.C k98 wc A2 x.f2.length x.f2) ∧ Aside0 (u5.cells.toList = [u5] ∧ u5.oneCell' = true) ∧ Aside0 (DrwW w0 w wc g gt gr (.slice Ax xs.length cx) xs) ∧ Aside0 (IsS117 w0 wc g b ix hx))
     case first =>
      cases q with
      | false =>
       simp only [Bool.false_eq_true, if_false] at hxx
       subst hxx
       go_wp2
       go_meet
       case rel => exact ⟨B2, d2, .slice B5 y5.length d5, HB7, HR7, ⟨rfl, rfl⟩, HD7, HI7⟩
      | true =>
       simp only [if_true] at hxx
       subst hxx
       have hx0 := blk_cell HB7.out 0
       have hx1 := blk_cell HB7.out 1
       have hx2 := blk_cell HB7.out 2
       have hx3 := blk_cell HB7.out 3
       have hx4 := blk_cell HB7.out 4
       have hx5 := blk_cell HB7.out 5
       have hxf := blk_frozen HB7.out
       go_wp2
       go_meet
       case rel => exact ⟨none, 0, .slice none 0 0, ⟨fillN_blk (⟨3, ⟨#[112]⟩, [], ⟨#[]⟩, 0, []⟩ : S45) (.slice none 0 0) (.slice none 0 0) HB7.out⟩, ⟨Nat.le_refl _, Kd.C_nil _ _⟩, ⟨rfl, rfl⟩, ⟨HD7.out.fill HGX.out.1 HGX.out.2.1 HGX.out.2.2 (⟨3, ⟨#[112]⟩, [], ⟨#[]⟩, 0, []⟩ : S45) (.slice none 0 0) (.slice none 0 0) HS7.out⟩, ⟨HI7.out.fill (by have := HGX.out; have := HD7.out.gc; omega) (⟨3, ⟨#[112]⟩, [], ⟨#[]⟩, 0, []⟩ : S45) (.slice none 0 0) (.slice none 0 0)⟩⟩
     case rest =>
      clear HD HI HAN HA4 HD7 HI7 HB7 HS7 HR7 hxx
      obtain ⟨A2, c2, u5, HBX, HCA, HU5, HD, HI⟩ := hcut
      have hct := blk_cell HD.out.bt 0
      go_upto_region 11 with (fail)
      clear hct
      have HWB := Ak HD.out.low
      have HCX := Ak (Kd.S_reads' HD.out.s).2
      have HX := Ak (show DnW wc wc.drew gt gx (.slice Ax xs.length cx) (.int .i64 x.f0) (.string x.f1) (.slice A2 x.f2.length c2) (.string x.f3) (.int .i64 x.f4) u5 from ⟨HD.out.bt, HBX.out, pw_below_drewN (Below.refl _ _) 1, blk_lt HD.out.bt, blk_lt HBX.out⟩)
      refine region_join (σ := Nat × Option Addr × Nat × Option Addr × Nat) (fun s_ => [(30, .agg #[.slice Ax xs.length cx]), (31, .agg #[.slice s_.2.2.2.1 ys.length s_.2.2.2.2]), (32, .agg #[.int .i64 x.f0, .string x.f1, .slice A2 x.f2.length c2, .string x.f3, .int .i64 x.f4, u5]), (33, .tuple #[.agg #[.slice s_.2.1 zs.length s_.2.2.1], .int .i64 z2]), (29, .tuple #[.agg #[.slice s_.2.1 zs.length s_.2.2.1], .int .i64 z2]), (34, .agg #[.slice s_.2.1 zs.length s_.2.2.1]), (35, .int .i64 z2), (7, .pointer (some ⟨s_.1, 0, none⟩)), (8, .int .i64 z2)]) (fun s_ w' => w'.heap[s_.1]? = some (.cells #[.slice s_.2.1 zs.length s_.2.2.1] 29 (0, 0)) ∧ wc.heap.size ≤ s_.1 ∧ Below wc.heap.size wc w' ∧ Kd.S k45 45 w' w0.heap.size (fun k_ => wc.heap.size ≤ k_ ∧ k_ ≠ s_.1) (.slice s_.2.1 zs.length s_.2.2.1) zs) ?_ ?_
      ·skip
       refine wp_region_N (n := 9) (S := (fun w' => w'.cell? ⟨gt, 0, none⟩ = some (.slice Ax xs.length cx) ∧ w'.cell? ⟨gx, 0, none⟩ = some (.int .i64 x.f0) ∧ w'.cell? ⟨gx, 1, none⟩ = some (.string x.f1) ∧ w'.cell? ⟨gx, 2, none⟩ = some (.slice A2 x.f2.length c2) ∧ w'.cell? ⟨gx, 3, none⟩ = some (.string x.f3) ∧ w'.cell? ⟨gx, 4, none⟩ = some (.int .i64 x.f4) ∧ w'.cell? ⟨gx, 5, none⟩ = some u5)) (by kernel_rfl) (DnW.held HX.out) (fun hHeld => ?_)
       generalize wc.drew = WD at HX hHeld ⊢
       refine wpAnyN_take (i := 0) (v := ?v100) rfl (by kernel_rfl) (by kernel_rfl) (by kernel_rfl) (by kernel_rfl) (fun _ _ _ h => h) (Or.inl ⟨by rfl, ?h100⟩) hHeld ?r100
       case h100 => (intro w_ hSw; (try dsimp only at hSw); go_simp; (try with_reducible rfl))
       refine wpAnyN_take (i := 2) (v := ?v202) rfl (by kernel_rfl) (by kernel_rfl) (by kernel_rfl) (by kernel_rfl) (fun _ _ _ h => h) (Or.inl ⟨by rfl, ?h202⟩) hHeld ?r202
       case h202 => (intro w_ hSw; (try dsimp only at hSw); go_simp; (try with_reducible rfl))
       refine wpAnyN_two (i := 1) (j := 7) (by kernel_rfl) rfl rfl (fun K hK => ?_) (fun K hK => ?_)
       ·skip
        go_simp
        go_at_call 52
        with_reducible refine (spec_l6Copy.calls k1 Ax cx xs ys _ (Kd.C_below HCX.out.2 HX.out.low) HCX.out.1 HA2.out).mono ?_
        rintro e wq ⟨v, rfl, hS, hb⟩
        obtain ⟨Ay, cy, rfl⟩ := Kd.S_slice hS
        have HY := Ak (Kd.S_lower (Kd.S_mono (Kd.S_bound hS) (ok' := fun k_ => wc.heap.size ≤ k_) (fun k_ hk => Nat.le_trans HX.out.low.size hk.2.1)) (Nat.le_trans HWB.out.size HX.out.low.size))
        replace HX := Ak (HX.out.below hb)
        clear hS hb
        go_wp2_with fail
        refine hK.out _ _ ?_ (fun hH1 => ?_)
        ·(try dsimp only); exact DnW.held HX.out
        clear hK K
        refine wpAnyN_two (i := 3) (j := 7) (by kernel_rfl) rfl rfl (fun K hK => ?_) (fun K hK => ?_)
        ·skip
         go_simp
         go_at_call 53
         with_reducible refine (spec_l6Add.calls (fun k_ => wc.heap.size ≤ k_) Ay cy ys x.f0 x.f1 A2 c2 x.f2 x.f3 x.f4 u5 [] zs z2 w0 _ (below_step HWB.out HX.out.low) HY.out (Kd.C_below HCA.out.2 HX.out.low) HCA.out.1 HU5.out HA3.out).mono ?_
         rintro e wq ⟨v, rfl, hS, hb⟩
         obtain ⟨Az, cz, rfl⟩ := Kd.S_slice hS
         have HZ := Ak (Kd.S_mono hS (ok' := fun k_ => wc.heap.size ≤ k_) (fun k_ hk => hk.elim id (fun h_ => Nat.le_trans HX.out.low.size h_)))
         replace HX := Ak (HX.out.below hb)
         clear hS hb HY
         go_wp2_with fail
         refine hK.out _ _ ?_ (fun hH2 => ?_)
         ·(try dsimp only); exact DnW.held HX.out
         clear hK K
         refine wpAnyN_take (i := 4) (v := ?v304) rfl (by kernel_rfl) (by kernel_rfl) (by kernel_rfl) (by kernel_rfl) (fun _ _ _ h => h) (Or.inl ⟨by rfl, ?h304⟩) hH2 ?r304
         case h304 => (intro w_ hSw; (try dsimp only at hSw); go_simp; (try with_reducible rfl))
         refine wpAnyN_take (i := 5) (v := ?v405) rfl (by kernel_rfl) (by kernel_rfl) (by kernel_rfl) (by kernel_rfl) (fun _ _ _ h => h) (Or.inl ⟨by rfl, ?h405⟩) hH2 ?r405
         case h405 => (intro w_ hSw; (try dsimp only at hSw); go_simp; (try with_reducible rfl))
         refine wpAnyN_take (i := 6) (v := ?v506) rfl (by kernel_rfl) (by kernel_rfl) (by kernel_rfl) (by kernel_rfl) (fun _ _ _ h => h) (Or.inl ⟨by rfl, ?h506⟩) hH2 ?r506
         case h506 => (intro w_ hSw; (try dsimp only at hSw); go_simp; (try with_reducible rfl))
         refine wpAnyN_one (i := 7) (by kernel_rfl) rfl (fun K hK => ?_)
         go_simp
         refine hK.out _ _ ?_ (fun hH3 => ?_)
         ·(try dsimp only); exact DnW.held (HX.out.below (below_alloc (Below.refl _ _) _))
         clear hK K
         try simp only [Act.put, List.setIfInBounds_toArray, List.set_cons_zero, List.set_cons_succ]
         have hX := blk_new wq (.cells #[.slice none 0 0] 29)
         have hb := below_alloc (Below.refl (wq).heap.size wq) (.cells #[.slice none 0 0] 29)
         generalize World.alloc wq (.cells #[.slice none 0 0] 29) = wz at hX hb ⊢
         obtain ⟨gz, hg⟩ : ∃ g_, g_ = (wq).heap.size := ⟨_, rfl⟩
         rw [← hg] at hX ⊢
         have HGE := Ak (show wc.heap.size ≤ gz from by rw [hg]; exact HX.out.low.size)
         replace HZ := Ak (Kd.S_below (Kd.S_elderB HZ.out gz (Nat.le_of_eq hg.symm)) hb)
         replace HX := Ak (HX.out.below hb)
         have HG := Ak hX
         clear hX hb hg
         have hz0 := blk_cell HG.out 0
         have hzf := blk_frozen HG.out
         refine wpAnyN_one (i := 8) (by kernel_rfl) rfl (fun K hK => ?_)
         go_simp
         refine hK.out _ _ ?_ (fun hH4 => ?_)
         ·(try dsimp only); exact DnW.held (HX.out.set HGE.out)
         clear hK K
         refine wpAnyN_last (by kernel_rfl) (by kernel_rfl) rfl (fun K hK => ?_)
         go_simp
         refine hK.out _ _ ?_
         clear hK K
         exact ⟨⟨gz, Az, cz, Ay, cy⟩, by simp only [putAll, List.foldl_cons, List.foldl_nil, Act.put, List.setIfInBounds_toArray, List.set_cons_zero, List.set_cons_succ], blk_set HG.out 0 _, HGE.out, below_set HX.out.low HGE.out, Kd.S_far (p := ⟨gz, 0, none⟩) HZ.out (fun _ h_ => h_.2) _⟩
        ·skip
         go_simp
         refine hK.out _ _ ?_ (fun hH5 => ?_)
         ·(try dsimp only); exact DnW.held (HX.out.below (below_alloc (Below.refl _ _) _))
         clear hK K
         try simp only [Act.put, List.setIfInBounds_toArray, List.set_cons_zero, List.set_cons_succ]
         have hX := blk_new wq (.cells #[.slice none 0 0] 29)
         have hb := below_alloc (Below.refl (wq).heap.size wq) (.cells #[.slice none 0 0] 29)
         generalize World.alloc wq (.cells #[.slice none 0 0] 29) = wz at hX hb ⊢
         obtain ⟨gz, hg⟩ : ∃ g_, g_ = (wq).heap.size := ⟨_, rfl⟩
         rw [← hg] at hX ⊢
         have HGE := Ak (show wc.heap.size ≤ gz from by rw [hg]; exact HX.out.low.size)
         replace HY := Ak (Kd.S_below (Kd.S_elderB HY.out gz (Nat.le_of_eq hg.symm)) hb)
         replace HX := Ak (HX.out.below hb)
         have HG := Ak hX
         clear hX hb hg
         refine wpAnyN_one (i := 3) (by kernel_rfl) rfl (fun K hK => ?_)
         go_simp
         go_at_call 53
         with_reducible refine (spec_l6Add.calls (fun k_ => wc.heap.size ≤ k_ ∧ k_ ≠ gz) Ay cy ys x.f0 x.f1 A2 c2 x.f2 x.f3 x.f4 u5 [] zs z2 w0 _ (below_step HWB.out HX.out.low) HY.out (Kd.C_below HCA.out.2 HX.out.low) HCA.out.1 HU5.out HA3.out).mono ?_
         rintro e wq ⟨v, rfl, hS, hb⟩
         obtain ⟨Az, cz, rfl⟩ := Kd.S_slice hS
         have HZ := Ak (Kd.S_mono hS (ok' := fun k_ => wc.heap.size ≤ k_ ∧ k_ ≠ gz) (fun k_ hk => hk.elim id (fun h_ => ⟨Nat.le_trans HX.out.low.size h_, by have := blk_lt HG.out; omega⟩)))
         replace HG := Ak (blk_below HG.out hb)
         replace HX := Ak (HX.out.below hb)
         clear hS hb HY
         go_wp2_with fail
         refine hK.out _ _ ?_ (fun hH6 => ?_)
         ·(try dsimp only); exact DnW.held HX.out
         clear hK K
         refine wpAnyN_take (i := 4) (v := ?v604) rfl (by kernel_rfl) (by kernel_rfl) (by kernel_rfl) (by kernel_rfl) (fun _ _ _ h => h) (Or.inl ⟨by rfl, ?h604⟩) hH6 ?r604
         case h604 => (intro w_ hSw; (try dsimp only at hSw); go_simp; (try with_reducible rfl))
         refine wpAnyN_take (i := 5) (v := ?v705) rfl (by kernel_rfl) (by kernel_rfl) (by kernel_rfl) (by kernel_rfl) (fun _ _ _ h => h) (Or.inl ⟨by rfl, ?h705⟩) hH6 ?r705
         case h705 => (intro w_ hSw; (try dsimp only at hSw); go_simp; (try with_reducible rfl))
         refine wpAnyN_take (i := 6) (v := ?v806) rfl (by kernel_rfl) (by kernel_rfl) (by kernel_rfl) (by kernel_rfl) (fun _ _ _ h => h) (Or.inl ⟨by rfl, ?h806⟩) hH6 ?r806
         case h806 => (intro w_ hSw; (try dsimp only at hSw); go_simp; (try with_reducible rfl))
         have hz0 := blk_cell HG.out 0
         have hzf := blk_frozen HG.out
         refine wpAnyN_one (i := 8) (by kernel_rfl) rfl (fun K hK => ?_)
         go_simp
         refine hK.out _ _ ?_ (fun hH7 => ?_)
         ·(try dsimp only); exact DnW.held (HX.out.set HGE.out)
         clear hK K
         refine wpAnyN_last (by kernel_rfl) (by kernel_rfl) rfl (fun K hK => ?_)
         go_simp
         refine hK.out _ _ ?_
         clear hK K
         exact ⟨⟨gz, Az, cz, Ay, cy⟩, by simp only [putAll, List.foldl_cons, List.foldl_nil, Act.put, List.setIfInBounds_toArray, List.set_cons_zero, List.set_cons_succ], blk_set HG.out 0 _, HGE.out, below_set HX.out.low HGE.out, Kd.S_far (p := ⟨gz, 0, none⟩) HZ.out (fun _ h_ => h_.2) _⟩
       ·skip
        go_simp
        refine hK.out _ _ ?_ (fun hH8 => ?_)
        ·(try dsimp only); exact DnW.held (HX.out.below (below_alloc (Below.refl _ _) _))
        clear hK K
        try simp only [Act.put, List.setIfInBounds_toArray, List.set_cons_zero, List.set_cons_succ]
        have hX := blk_new WD (.cells #[.slice none 0 0] 29)
        have hb := below_alloc (Below.refl (WD).heap.size WD) (.cells #[.slice none 0 0] 29)
        generalize World.alloc WD (.cells #[.slice none 0 0] 29) = wz at hX hb ⊢
        obtain ⟨gz, hg⟩ : ∃ g_, g_ = (WD).heap.size := ⟨_, rfl⟩
        rw [← hg] at hX ⊢
        have HGE := Ak (show wc.heap.size ≤ gz from by rw [hg]; exact HX.out.low.size)
        replace HX := Ak (HX.out.below hb)
        have HG := Ak hX
        clear hX hb hg
        refine wpAnyN_one (i := 1) (by kernel_rfl) rfl (fun K hK => ?_)
        go_simp
        go_at_call 52
        with_reducible refine (spec_l6Copy.calls k1 Ax cx xs ys _ (Kd.C_below HCX.out.2 HX.out.low) HCX.out.1 HA2.out).mono ?_
        rintro e wq ⟨v, rfl, hS, hb⟩
        obtain ⟨Ay, cy, rfl⟩ := Kd.S_slice hS
        have HY := Ak (Kd.S_lower (Kd.S_mono (Kd.S_bound hS) (ok' := fun k_ => wc.heap.size ≤ k_ ∧ k_ ≠ gz) (fun k_ hk => ⟨Nat.le_trans HX.out.low.size hk.2.1, by have := hk.2.1; have := blk_lt HG.out; omega⟩)) (Nat.le_trans HWB.out.size HX.out.low.size))
        replace HG := Ak (blk_below HG.out hb)
        replace HX := Ak (HX.out.below hb)
        clear hS hb
        go_wp2_with fail
        refine hK.out _ _ ?_ (fun hH9 => ?_)
        ·(try dsimp only); exact DnW.held HX.out
        clear hK K
        refine wpAnyN_one (i := 3) (by kernel_rfl) rfl (fun K hK => ?_)
        go_simp
        go_at_call 53
        with_reducible refine (spec_l6Add.calls (fun k_ => wc.heap.size ≤ k_ ∧ k_ ≠ gz) Ay cy ys x.f0 x.f1 A2 c2 x.f2 x.f3 x.f4 u5 [] zs z2 w0 _ (below_step HWB.out HX.out.low) HY.out (Kd.C_below HCA.out.2 HX.out.low) HCA.out.1 HU5.out HA3.out).mono ?_
        rintro e wq ⟨v, rfl, hS, hb⟩
        obtain ⟨Az, cz, rfl⟩ := Kd.S_slice hS
        have HZ := Ak (Kd.S_mono hS (ok' := fun k_ => wc.heap.size ≤ k_ ∧ k_ ≠ gz) (fun k_ hk => hk.elim id (fun h_ => ⟨Nat.le_trans HX.out.low.size h_, by have := blk_lt HG.out; omega⟩)))
        replace HG := Ak (blk_below HG.out hb)
        replace HX := Ak (HX.out.below hb)
        clear hS hb HY
        go_wp2_with fail
        refine hK.out _ _ ?_ (fun hH10 => ?_)
        ·(try dsimp only); exact DnW.held HX.out
        clear hK K
        refine wpAnyN_take (i := 4) (v := ?v904) rfl (by kernel_rfl) (by kernel_rfl) (by kernel_rfl) (by kernel_rfl) (fun _ _ _ h => h) (Or.inl ⟨by rfl, ?h904⟩) hH10 ?r904
        case h904 => (intro w_ hSw; (try dsimp only at hSw); go_simp; (try with_reducible rfl))
        refine wpAnyN_take (i := 5) (v := ?v1005) rfl (by kernel_rfl) (by kernel_rfl) (by kernel_rfl) (by kernel_rfl) (fun _ _ _ h => h) (Or.inl ⟨by rfl, ?h1005⟩) hH10 ?r1005
        case h1005 => (intro w_ hSw; (try dsimp only at hSw); go_simp; (try with_reducible rfl))
        refine wpAnyN_take (i := 6) (v := ?v1106) rfl (by kernel_rfl) (by kernel_rfl) (by kernel_rfl) (by kernel_rfl) (fun _ _ _ h => h) (Or.inl ⟨by rfl, ?h1106⟩) hH10 ?r1106
        case h1106 => (intro w_ hSw; (try dsimp only at hSw); go_simp; (try with_reducible rfl))
        have hz0 := blk_cell HG.out 0
        have hzf := blk_frozen HG.out
        refine wpAnyN_one (i := 8) (by kernel_rfl) rfl (fun K hK => ?_)
        go_simp
        refine hK.out _ _ ?_ (fun hH11 => ?_)
        ·(try dsimp only); exact DnW.held (HX.out.set HGE.out)
        clear hK K
        refine wpAnyN_last (by kernel_rfl) (by kernel_rfl) rfl (fun K hK => ?_)
        go_simp
        refine hK.out _ _ ?_
        clear hK K
        exact ⟨⟨gz, Az, cz, Ay, cy⟩, by simp only [putAll, List.foldl_cons, List.foldl_nil, Act.put, List.setIfInBounds_toArray, List.set_cons_zero, List.set_cons_succ], blk_set HG.out 0 _, HGE.out, below_set HX.out.low HGE.out, Kd.S_far (p := ⟨gz, 0, none⟩) HZ.out (fun _ h_ => h_.2) _⟩
      rintro ⟨gz, Az, cz, Ay, cy⟩ w7 ⟨hG, hge, hl, hS⟩
      simp only [putAll, List.foldl_cons, List.foldl_nil, Act.put, List.setIfInBounds_toArray, List.set_cons_zero, List.set_cons_succ]
      dsimp only at hG hge hl hS
      have HG := Ak hG
      have HS := Ak hS
      have HD7 := Ak (HD.out.below hl)
      have HI7 := Ak (HI.out.below hl)
      have HGZ := Ak (show wc.heap.size ≤ gz ∧ w.heap.size ≤ wc.heap.size ∧ g < wc.heap.size ∧ gt < wc.heap.size ∧ gr < wc.heap.size from ⟨hge, HD.out.kp.1, Nat.lt_of_lt_of_le HD.out.gc HD.out.kp.1, blk_lt HD.out.bt, blk_lt HD.out.br⟩)
      have HG0 := Ak HD.out.g0
      clear hG hS hge hl HX HWB HCX HBX HCA HU5 HD HI HGX
      have hcz := blk_cell HG.out 0
      have H := HA.out
      by_cases c3 : 500 < (zs.length : Int)
      ·rw [if_pos c3] at H
       injection H with H
       injection H with e1 H
       injection H with e2 e3
       subst e1 e2 e3
       have c3b : decide (500 < (zs.length : Int)) = true := decide_eq_true c3
       clear c3
       have hct := blk_cell HD7.out.bt 0
       have hcr := blk_cell HD7.out.br 0
       have hfr := blk_frozen HD7.out.br
       go_wp2_with fail
       refine bodyPost_ret (results_cell_row rfl _ _ gr 29 #[.slice Ax xs.length cx] (0, 0) _ rfl (blk_put (cs := #[.slice none 0 0]) HD7.out.br 0 _ rfl) Try.underlying29 rfl (by kernel_rfl)) rfl ?_
       exact ⟨_, rfl, HD7.out.done.1, HI7.out.far (by have := HD7.out.gr_; have := HD7.out.gc; show g ≠ gr; omega) _, HD7.out.done.2.1, HD7.out.done.2.2⟩
      ·rw [if_neg c3] at H
       have c3b : decide (500 < (zs.length : Int)) = false := decide_eq_false c3
       clear c3
       obtain ⟨⟨us, iu, hu⟩, A6, H⟩ := Option.bind_eq_some_iff.1 H
       dsimp only at H
       unfold spec_l6DrawRight.hang at A6
       obtain ⟨⟨p, ip, hp⟩, A7, A6⟩ := Option.bind_eq_some_iff.1 A6
       obtain ⟨o, A8, A6⟩ := Option.bind_eq_some_iff.1 A6
       dsimp only at A7 A8 A6
       have HA := Ak H
       have HA7 := Ak A7
       have HA8 := Ak A8
       clear A7 A8 H
       cases o with
       | false =>
        rw [if_neg (by decide)] at A6
        injection A6 with A6
        injection A6 with e1 A6
        injection A6 with e2 e3
        subst e1 e2 e3
        go_wp2_with (first | (go_at_call 101; (with_reducible refine (spec_l1Below.calls g b ix hx z2 p ip hp w0 w7 HI7.out HD7.out.low HA7.out).mono ?_); rintro e w8 ⟨rfl, hi, hl, hk⟩; have HB8 := Ak (HD7.out.b.keep hl hk); have HI8 := Ak hi; have HG8 := Ak (hk.blk HG.out (by have := HGZ.out; omega) (by simp)); have HZ8 := Ak (Kd.S_keep HS.out hk (fun k_ hk_ => by have := hk_.1; have := HGZ.out; omega)); have hcz8 := blk_cell HG8.out 0; clear hi hl hk) | (go_at_call 121; (with_reducible refine (spec_l6Opens.calls _ _ zs p _ w8 (Kd.S_reads' HZ8.out).2.2 (Kd.S_reads' HZ8.out).2.1 HA8.out).mono ?_); rintro e w9 ⟨rfl, hb⟩; have HB9 := Ak (HB8.out.below hb); have HI9 := Ak (HI8.out.below hb); have HG9 := Ak (blk_below HG8.out hb); have HZ9 := Ak (Kd.S_below HZ8.out hb); have hcz9 := blk_cell HG9.out 0; have hct9 := blk_cell HB9.out.bt.choose_spec 0; have hft9 := blk_frozen HB9.out.bt.choose_spec; clear hb))
        have HD10 := Ak (HB9.out.put HG0.out HZ9.out (fun k_ hk => Nat.le_trans HGZ.out.2.1 hk.1))
        have HI10 := Ak (HI9.out.far (p := ⟨gt, 0, none⟩) (by have := HB9.out.gt_; have := HB9.out.gc; show g ≠ gt; omega) (.slice Az zs.length cz))
        go_roundg k1
        case measure => have := HK.out; omega
        case rel => exact ⟨_, _, _, _, _, rfl, HA, ⟨by have := HK.out; omega⟩, HD10, HI10⟩
       | true =>
        rw [if_pos rfl] at A6
        obtain ⟨⟨q, iq, hq⟩, A9, A6⟩ := Option.bind_eq_some_iff.1 A6
        dsimp only at A9 A6
        have HA9 := Ak A9
        clear A9
        cases q with
        | true =>
         rw [if_pos rfl] at A6
         injection A6 with A6
         injection A6 with e1 A6
         injection A6 with e2 e3
         subst e1 e2 e3
         go_wp2_with (first | (go_at_call 101; (with_reducible refine (spec_l1Below.calls g b ix hx z2 p ip hp w0 w7 HI7.out HD7.out.low HA7.out).mono ?_); rintro e w8 ⟨rfl, hi, hl, hk⟩; have HB8 := Ak (HD7.out.b.keep hl hk); have HI8 := Ak hi; have HG8 := Ak (hk.blk HG.out (by have := HGZ.out; omega) (by simp)); have HZ8 := Ak (Kd.S_keep HS.out hk (fun k_ hk_ => by have := hk_.1; have := HGZ.out; omega)); have hcz8 := blk_cell HG8.out 0; clear hi hl hk) | (go_at_call 121; (with_reducible refine (spec_l6Opens.calls _ _ zs p _ w8 (Kd.S_reads' HZ8.out).2.2 (Kd.S_reads' HZ8.out).2.1 HA8.out).mono ?_); rintro e w9 ⟨rfl, hb⟩; have HB9 := Ak (HB8.out.below hb); have HI9 := Ak (HI8.out.below hb); have HG9 := Ak (blk_below HG8.out hb); have HZ9 := Ak (Kd.S_below HZ8.out hb); have hcz9 := blk_cell HG9.out 0; have hct9 := blk_cell HB9.out.bt.choose_spec 0; have hft9 := blk_frozen HB9.out.bt.choose_spec; clear hb) | (go_at_call 119; (with_reducible refine (spec_l1Once.calls g b ip hp 9 _ iq hq w0 w9 HI9.out HB9.out.low HA9.out).mono ?_); rintro e wA ⟨rfl, hi, hl, hk⟩; have HBA := Ak (HB9.out.keep hl hk); have HIA := Ak hi; have HGA := Ak (hk.blk HG9.out (by have := HGZ.out; omega) (by simp)); have HZA := Ak (Kd.S_keep HZ9.out hk (fun k_ hk_ => by have := hk_.1; have := HGZ.out; omega)); have hczA := blk_cell HGA.out 0; have hctA := blk_cell HBA.out.bt.choose_spec 0; have hftA := blk_frozen HBA.out.bt.choose_spec; clear hi hl hk))
         have HD10 := Ak (HBA.out.put HG0.out HZA.out (fun k_ hk => Nat.le_trans HGZ.out.2.1 hk.1))
         have HI10 := Ak (HIA.out.far (p := ⟨gt, 0, none⟩) (by have := HBA.out.gt_; have := HBA.out.gc; show g ≠ gt; omega) (.slice Az zs.length cz))
         go_roundg k1
         case measure => have := HK.out; omega
         case rel => exact ⟨_, _, _, _, _, rfl, HA, ⟨by have := HK.out; omega⟩, HD10, HI10⟩
        | false =>
         rw [if_neg (by decide)] at A6
         obtain ⟨vs, A10, A6⟩ := Option.bind_eq_some_iff.1 A6
         injection A6 with A6
         injection A6 with e1 A6
         injection A6 with e2 e3
         subst e1 e2 e3
         have HA10 := Ak A10
         clear A10
         obtain ⟨gy, capz, evz, _, _, _⟩ := Kd.S_form HS.out (l6Add_pos HA3.out)
         injection evz with ev1 _ ev2
         subst ev1 ev2
         go_wp2_with (first | (go_at_call 101; (with_reducible refine (spec_l1Below.calls g b ix hx z2 p ip hp w0 w7 HI7.out HD7.out.low HA7.out).mono ?_); rintro e w8 ⟨rfl, hi, hl, hk⟩; have HB8 := Ak (HD7.out.b.keep hl hk); have HI8 := Ak hi; have HG8 := Ak (hk.blk HG.out (by have := HGZ.out; omega) (by simp)); have HZ8 := Ak (Kd.S_keep HS.out hk (fun k_ hk_ => by have := hk_.1; have := HGZ.out; omega)); have hcz8 := blk_cell HG8.out 0; clear hi hl hk) | (go_at_call 121; (with_reducible refine (spec_l6Opens.calls _ _ zs p _ w8 (Kd.S_reads' HZ8.out).2.2 (Kd.S_reads' HZ8.out).2.1 HA8.out).mono ?_); rintro e w9 ⟨rfl, hb⟩; have HB9 := Ak (HB8.out.below hb); have HI9 := Ak (HI8.out.below hb); have HG9 := Ak (blk_below HG8.out hb); have HZ9 := Ak (Kd.S_below HZ8.out hb); have hcz9 := blk_cell HG9.out 0; have hct9 := blk_cell HB9.out.bt.choose_spec 0; have hft9 := blk_frozen HB9.out.bt.choose_spec; clear hb) | (go_at_call 119; (with_reducible refine (spec_l1Once.calls g b ip hp 9 _ iq hq w0 w9 HI9.out HB9.out.low HA9.out).mono ?_); rintro e wA ⟨rfl, hi, hl, hk⟩; have HBA := Ak (HB9.out.keep hl hk); have HIA := Ak hi; have HGA := Ak (hk.blk HG9.out (by have := HGZ.out; omega) (by simp)); have HZA := Ak (Kd.S_keep HZ9.out hk (fun k_ hk_ => by have := hk_.1; have := HGZ.out; omega)); have hczA := blk_cell HGA.out 0; have hctA := blk_cell HBA.out.bt.choose_spec 0; have hftA := blk_frozen HBA.out.bt.choose_spec; clear hi hl hk) | (go_at_call 122; (with_reducible refine (spec_l6Hang.calls k1 (fun k_ => wc.heap.size ≤ k_ ∧ k_ ≠ gz) gy cz zs z2 p vs w0 wA HBA.out.low HZA.out HA10.out).mono ?_); rintro e wC ⟨rfl, hlen, hS, hl, hk⟩; have HBC := Ak (HBA.out.kept hl hk (fun k_ hk_ => by have := HGZ.out; omega)); have HGC := Ak (blk_kept HGA.out hk (fun h_ => h_.2 rfl)); have HIC := Ak (HIA.out.kept hk (fun h_ => by have := HGZ.out; omega)); have HBD := Ak (HBC.out.set (k := gz) (j := 0) (u := .slice (some ⟨gy, 0, none⟩) vs.length cz) (by have := HGZ.out; omega) (by have := HGZ.out; omega) (by have := HGZ.out; omega)); have HID := Ak (HIC.out.far (p := ⟨gz, 0, none⟩) (by have := HGZ.out; show g ≠ gz; omega) (.slice (some ⟨gy, 0, none⟩) vs.length cz)); have HZD := Ak (Kd.S_mono (Kd.S_far (p := ⟨gz, 0, none⟩) hS (fun k_ hk_ => hk_.elim (fun h_ => h_.2) (fun h_ => by have := blk_lt HGA.out; show k_ ≠ gz; omega)) (.slice (some ⟨gy, 0, none⟩) vs.length cz)) (ok' := fun k_ => wc.heap.size ≤ k_) (fun k_ hk_ => hk_.elim (fun h_ => h_.1) (fun h_ => by have := blk_lt HGA.out; have := HGZ.out; omega))); have hczC := blk_cell HGC.out 0; have hczf := blk_frozen HGC.out; have hczD := blk_cell (blk_set HGC.out 0 (.slice (some ⟨gy, 0, none⟩) vs.length cz)) 0; have hctD := blk_cell HBD.out.bt.choose_spec 0; have hftD := blk_frozen HBD.out.bt.choose_spec; clear hlen hS hl hk))
         have HD10 := Ak (HBD.out.put HG0.out HZD.out (fun k_ hk => Nat.le_trans HGZ.out.2.1 hk))
         have HI10 := Ak (HID.out.far (p := ⟨gt, 0, none⟩) (by have := HBD.out.gt_; have := HBD.out.gc; show g ≠ gt; omega) (.slice (some ⟨gy, 0, none⟩) vs.length cz))
         go_roundg k1
         case measure => have := HK.out; omega
         case rel => exact ⟨_, _, _, _, _, rfl, HA, ⟨by have := HK.out; omega⟩, HD10, HI10⟩
    ·rw [if_neg c1] at H
     injection H with H
     injection H with e1 H
     injection H with e2 e3
     subst e1 e2 e3
     have c1b : decide (j < n) = false := decide_eq_false c1
     clear c1
     have hct := blk_cell HD.out.bt 0
     have hcr := blk_cell HD.out.br 0
     have hfr := blk_frozen HD.out.br
     go_wp2_with fail
     refine bodyPost_ret (results_cell_row rfl _ _ gr 29 #[.slice Ax xs.length cx] (0, 0) _ rfl (blk_put (cs := #[.slice none 0 0]) HD.out.br 0 _ rfl) Try.underlying29 rfl (by kernel_rfl)) rfl ?_
     exact ⟨_, rfl, HD.out.done.1, HI.out.far (by have := HD.out.gr_; have := HD.out.gc; show g ≠ gr; omega) _, HD.out.done.2.1, HD.out.done.2.2⟩
end Go.Proofs.Ytgneacekgbjkkaa.X
