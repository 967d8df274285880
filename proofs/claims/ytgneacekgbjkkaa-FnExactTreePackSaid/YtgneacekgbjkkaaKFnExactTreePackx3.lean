/- What the Go functions that FnExactTreePack reaches compute, and that their walks come to just that (written by a program of this project over the kit's print). Conditions: as each states. -/
import Derived.Deep.RegionWith
import Derived.Shelf.Abstract
import Derived.Test.YtgneacekgbjkkaaKFnExactTreePackx2
set_option maxHeartbeats 64000000
set_option maxRecDepth 100000
namespace Go.Proofs.Ytgneacekgbjkkaa.X
open Go.RowKit Go.Proofs.YtgneacekgbjkkaaW.PrintWords Go.Proofs.YtgneacekgbjkkaaW.PrintLast Go.Proofs.YtgneacekgbjkkaaW.PrintMore
attribute [local go_sem] max2_int min2_int max_two min_two max_three min_three max_four min_four
set_option linter.unusedVariables false
set_option linter.unusedSimpArgs false
def spec_PutNum.l0 : Nat → Int → List Int → Option (List Int)
 | 0, _, _ => none
 | k + 1, x0, x3 => if x0 > 127 then (if x3.length < 140737488355328 then (spec_PutNum.l0 k (wrap64 (Int.tdiv x0 128)) (x3 ++ [(wrap64 ((Int.tmod x0 128) + 128)) % 256])) else (none)) else (if x3.length < 140737488355328 then (some (x3 ++ [(x0) % 256])) else (none))
def spec_PutNum.f (k : Nat) (a0 : Int) : Option (List Int) := (some (([] : List Int) : List Int)).bind fun y101 => (if a0 < 0 then (some y101) else (spec_PutNum.l0 k a0 y101))
theorem spec_PutNum.mono_l : ∀ k, (∀ y0 y1, LeO (spec_PutNum.l0 k y0 y1) (spec_PutNum.l0 (k + 1) y0 y1))
 | 0 => fun _ _ r h => by simp [spec_PutNum.l0] at h
 | k + 1 => by
  have ih0 := spec_PutNum.mono_l k
  ·intro y0 y1
   unfold spec_PutNum.l0
   repeat' (with_reducible first | exact ih0 _ _ | exact LeO.refl _ | exact LeO.none _ | refine LeO.ite ?_ ?_ | refine LeO.bind ?_ (fun _ => ?_))
theorem spec_PutNum.mono : ∀ a0 k, LeO (spec_PutNum.f k a0) (spec_PutNum.f (k + 1) a0) := by
 intro a0 k
 have ih0 := spec_PutNum.mono_l k
 unfold spec_PutNum.f
 repeat' (with_reducible first | exact ih0 _ _ | exact LeO.refl _ | exact LeO.none _ | refine LeO.ite ?_ ?_ | refine LeO.bind ?_ (fun _ => ?_))
theorem spec_PutNum.calls (k : Nat) (a0 : Int) (r : List Int) (w : World) (h : spec_PutNum.f k a0 = some r) :
 Calls Try.prog 72 #[.int .i64 a0] w fun e w' => ∃ v0_ : Value, e = .returned (v0_) ∧ Kd.R (Kd.int .u8) 5 w' w.heap.size (fun _ => True) v0_ r ∧ Below w.heap.size w w' := by
 have HB := Ak (Below.refl w.heap.size w)
 have H : ((some (([] : List Int) : List Int)).bind fun y101 => (if a0 < 0 then (some y101) else (spec_PutNum.l0 k a0 y101))) = some r := h
 clear h
 obtain ⟨y101, hy101⟩ : ∃ y_ : List Int, y_ = (([] : List Int)) := ⟨_, rfl⟩
 replace H : (if a0 < 0 then (some y101) else (spec_PutNum.l0 k a0 y101)) = some r := by rw [hy101]; exact H
 have Ny101 := Ak hy101
 clear hy101
 by_cases c2 : a0 < 0
 ·rw [if_pos c2] at H
  have c2b0 := decide_eq_true c2
  clear c2
  obtain rfl := Oi H
  go_enter Try.func72, Try.ntmps72
  go_wp2_with (first | ((with_reducible refine gate_dst (N := 4) rfl ?_); refine Kd.R_lit (Kd.int .u8) _ 5 ?hg (N := 4) ?hd (xs := ([] : List Int)) (inner := []) (ok := fun _ => True) (okp := fun _ => True) ?hr ?hp (fun _ hk => hk) trivial (Below.refl _ _) (Nat.le_refl _) (by simp) ?_; (case hd => rfl); (case hg => rfl); (case hr => go_simp); (case hp => exact (Reps.none _ _)); intro v102 w3 ho4 hb hg_ hnew_; clear hg_ hnew_; (first | rw [← Ny101.out] at ho4 | (simp only [Int.reduceToNat] at ho4; rw [← Ny101.out] at ho4)); replace HO103 := Ak (Kd.R_lower ho4 (below_size (HB.out))); replace HB := Ak (below_step (HB.out) hb); clear hb ho4))
  go_ret
  exact ⟨_, rfl, by (with_reducible repeat (first | apply Kd.R_alloc | apply Kd.R_drewN | apply Kd.R_drew)); exact HO103.out, HB.out⟩
 ·rw [if_neg c2] at H
  have c2b0 := decide_eq_false c2
  clear c2
  have H' := Ak H
  clear H
  go_enter Try.func72, Try.ntmps72
  go_wp2_with (first | ((with_reducible refine gate_dst (N := 4) rfl ?_); refine Kd.R_lit (Kd.int .u8) _ 5 ?hg (N := 4) ?hd (xs := ([] : List Int)) (inner := []) (ok := fun _ => True) (okp := fun _ => True) ?hr ?hp (fun _ hk => hk) trivial (Below.refl _ _) (Nat.le_refl _) (by simp) ?_; (case hd => rfl); (case hg => rfl); (case hr => go_simp); (case hp => exact (Reps.none _ _)); intro v102 w5 ho6 hb hg_ hnew_; clear hg_ hnew_; (first | rw [← Ny101.out] at ho6 | (simp only [Int.reduceToNat] at ho6; rw [← Ny101.out] at ho6)); replace HO103 := Ak (Kd.R_lower ho6 (below_size (HB.out))); replace HB := Ak (below_step (HB.out) hb); clear hb ho6))
  go_loopg [0, 3] k (fun kq v0 v3 w' => ∃ (x0_1 : Int) (x3_1 : List Int), v0 = .int .i64 x0_1 ∧ Aside0 (spec_PutNum.l0 kq x0_1 x3_1 = some r) ∧ Aside0 (kq ≤ k) ∧ Aside0 (Kd.R (Kd.int .u8) 5 w' w.heap.size (fun _ => True) v3 x3_1) ∧ Aside0 (Below w.heap.size w w'))
  case atStart => exact ⟨(a0), (y101), rfl, H', ⟨Nat.le_refl _⟩, ⟨by (with_reducible repeat (first | apply Kd.R_alloc | apply Kd.R_drewN | apply Kd.R_drew)); exact HO103.out⟩, ⟨HB.out⟩⟩
  case round =>
   clear H'
   obtain ⟨x0_1, x3_1, rfl, HA, HK1, HO_3, HB⟩ := hrel
   cases gk with
   | zero => exact absurd HA.out (by simp [spec_PutNum.l0])
   | succ k1 =>
    have H := HA.out
    clear HA
    simp only [spec_PutNum.l0] at H
    by_cases c7 : x0_1 > 127
    ·rw [if_pos c7] at H
     have c7b0 : decide (127 < x0_1) = true := decide_eq_true c7
     clear c7
     by_cases c8 : x3_1.length < 140737488355328
     ·rw [if_pos c8] at H
      have LMc8 := Ak c8
      clear c8
      obtain ⟨y104, hy104⟩ : ∃ y_ : List Int, y_ = (x3_1 ++ [(wrap64 ((Int.tmod x0_1 128) + 128)) % 256]) := ⟨_, rfl⟩
      replace H : (spec_PutNum.l0 k1 (wrap64 (Int.tdiv x0_1 128)) y104) = some r := by rw [hy104]; exact H
      have Ny104 := Ak hy104
      clear hy104
      have H' := Ak H
      clear H
      go_wp2_with (first | ((with_reducible refine gate_builtin (b := .append) (xs := #[.tmp 10, .tmp 15]) rfl ?_); at_builtin; refine Kd.R_append (Kd.int .u8) (w0 := w) w.heap.size rfl (.tmp 10) (.tmp 15) 52 5 (.int .u8 0) 1 rfl Try.underlying52 info5 rfl (by decide) (by omega) u3 x3_1 ((wrap64 ((Int.tmod x0_1 128) + 128)) % 256) [.int .u8 ((wrap64 ((Int.tmod x0_1 128) + 128)) % 256)] (fun _ => True) (fun _ => False) rfl rfl ?aP (fun _ hk => hk.elim) ?aF ?aO ?aB ?aS ?aL ?_; (case aP => exact rfl); (case aB => exact (HB.out)); (case aF => exact (fun _ _ => trivial)); (case aO => exact HO_3.out); (case aS => exact (below_size (HB.out))); (case aL => have := LMc8.out; omega); intro v105 w9 ho hb hg hat; rw [← Ny104.out] at ho; replace HO106 := Ak (ho); replace HB := Ak (hb); clear ho hb hg hat))
      go_roundg k1
      case measure => have := HK1.out; omega
      case rel => exact ⟨(wrap64 (Int.tdiv x0_1 128)), (y104), rfl, H', ⟨by have := HK1.out; omega⟩, ⟨by (with_reducible repeat (first | apply Kd.R_alloc | apply Kd.R_drewN | apply Kd.R_drew)); exact HO106.out⟩, ⟨HB.out⟩⟩
     ·rw [if_neg c8] at H
      exact absurd H (by simp)
    ·rw [if_neg c7] at H
     have c7b0 : decide (127 < x0_1) = false := decide_eq_false c7
     clear c7
     by_cases c10 : x3_1.length < 140737488355328
     ·rw [if_pos c10] at H
      have LMc10 := Ak c10
      clear c10
      obtain ⟨y107, hy107⟩ : ∃ y_ : List Int, y_ = (x3_1 ++ [(x0_1) % 256]) := ⟨_, rfl⟩
      replace H : (some y107) = some r := by rw [hy107]; exact H
      have Ny107 := Ak hy107
      clear hy107
      obtain rfl := Oi H
      go_wp2_with (first | ((with_reducible refine gate_builtin (b := .append) (xs := #[.tmp 19, .tmp 22]) rfl ?_); at_builtin; refine Kd.R_append (Kd.int .u8) (w0 := w) w.heap.size rfl (.tmp 19) (.tmp 22) 52 5 (.int .u8 0) 1 rfl Try.underlying52 info5 rfl (by decide) (by omega) u3 x3_1 ((x0_1) % 256) [.int .u8 ((x0_1) % 256)] (fun _ => True) (fun _ => False) rfl rfl ?aP (fun _ hk => hk.elim) ?aF ?aO ?aB ?aS ?aL ?_; (case aP => exact rfl); (case aB => exact (HB.out)); (case aF => exact (fun _ _ => trivial)); (case aO => exact HO_3.out); (case aS => exact (below_size (HB.out))); (case aL => have := LMc10.out; omega); intro v108 w11 ho hb hg hat; rw [← Ny107.out] at ho; replace HO109 := Ak (ho); replace HB := Ak (hb); clear ho hb hg hat))
      go_ret
      exact ⟨_, rfl, by (with_reducible repeat (first | apply Kd.R_alloc | apply Kd.R_drewN | apply Kd.R_drew)); exact HO109.out, HB.out⟩
     ·rw [if_neg c10] at H
      exact absurd H (by simp)
def spec_PutText.f (k : Nat) (a0 : ByteArray) : Option (List Int) := (spec_PutNum.f k (a0.size : Int)).bind fun t101 => (if a0.size ≤ 140737488355328 then ((some (bytesOf a0 : List Int)).bind fun y104 => (if t101.length + y104.length < 140737488355328 then (some (t101 ++ y104)) else (none))) else (none))
theorem spec_PutText.mono : ∀ a0 k, LeO (spec_PutText.f k a0) (spec_PutText.f (k + 1) a0) := by
 intro a0 k
 unfold spec_PutText.f
 repeat' (with_reducible first | exact spec_PutNum.mono _ _ | exact LeO.refl _ | exact LeO.none _ | refine LeO.ite ?_ ?_ | refine LeO.bind ?_ (fun _ => ?_))
theorem spec_PutText.calls (k : Nat) (a0 : ByteArray) (r : List Int) (w : World) (h : spec_PutText.f k a0 = some r) :
 Calls Try.prog 73 #[.string a0] w fun e w' => ∃ v0_ : Value, e = .returned (v0_) ∧ Kd.R (Kd.int .u8) 5 w' w.heap.size (fun _ => True) v0_ r ∧ Below w.heap.size w w' := by
 have HB := Ak (Below.refl w.heap.size w)
 have H : ((spec_PutNum.f k (a0.size : Int)).bind fun t101 => (if a0.size ≤ 140737488355328 then ((some (bytesOf a0 : List Int)).bind fun y104 => (if t101.length + y104.length < 140737488355328 then (some (t101 ++ y104)) else (none))) else (none))) = some r := h
 clear h
 replace H := Ob H
 obtain ⟨t101, A20, H⟩ := H
 replace H : (if a0.size ≤ 140737488355328 then ((some (bytesOf a0 : List Int)).bind fun y104 => (if t101.length + y104.length < 140737488355328 then (some (t101 ++ y104)) else (none))) else (none)) = some r := H
 have A2 := Ak A20
 clear A20
 by_cases c3 : a0.size ≤ 140737488355328
 ·rw [if_pos c3] at H
  have c3b0 := eq_true c3
  have c3b1 := decide_eq_true c3
  clear c3
  obtain ⟨y104, hy104⟩ : ∃ y_ : List Int, y_ = (bytesOf a0) := ⟨_, rfl⟩
  replace H : (if t101.length + y104.length < 140737488355328 then (some (t101 ++ y104)) else (none)) = some r := by rw [hy104]; exact H
  have Ny104 := Ak hy104
  clear hy104
  by_cases c4 : t101.length + y104.length < 140737488355328
  ·rw [if_pos c4] at H
   have LMc4 := Ak c4
   clear c4
   obtain ⟨y107, hy107⟩ : ∃ y_ : List Int, y_ = (t101 ++ y104) := ⟨_, rfl⟩
   replace H : (some y107) = some r := by rw [hy107]; exact H
   have Ny107 := Ak hy107
   clear hy107
   obtain rfl := Oi H
   go_enter Try.func73, Try.ntmps73
   go_wp2_with (first | (go_at_call 72; (with_reducible refine (spec_PutNum.calls k (a0.size : Int) t101 _ A2.out).mono ?_); rintro e w5 ⟨v102, rfl, ho0, hb⟩; have n0_ := Ak (Kd.R_lower ho0 (below_size (HB.out))); have n1_ := Ak (below_step (HB.out) hb); clear HB; have HO103 := n0_; have HB := n1_; clear n0_ n1_; (try clear hb); (try clear hb2); (try clear hk); (try clear hi); (try clear ho0)) | ((with_reducible refine gate_dst (N := 7) rfl ?_); refine conv_V _ 5 rfl (N' := 7) rfl 9 52 _ rfl a0 rfl Try.underlying9 Try.underlying52 Try.underlying5 (of_decide_eq_true (by assumption) : a0.size ≤ 140737488355328) (ok := fun k_ => w5.heap.size ≤ k_) (Nat.le_refl _) (Below.refl _ _) (Nat.le_refl _) ?_; intro v105 w6 ho7 hb hg_ hnew_; clear hg_ hnew_; (first | rw [← Ny104.out] at ho7 | (simp only [Int.reduceToNat] at ho7; rw [← Ny104.out] at ho7)); have n0_ := Ak (Kd.R_below HO103.out hb); have n1_ := Ak (Kd.V_lower (Kd.V_mono (ok' := fun k_ => some k_ ≠ (v102 : Value).ownBlock) ho7 (fun k_ hk_ => (Kd.fresh' (Kd.R_lt HO103.out) k_ hk_))) (below_size (HB.out))); have n2_ := Ak (below_step (HB.out) hb); clear HO103; clear HB; have HO103 := n0_; have HO106 := n1_; have HB := n2_; clear n0_ n1_ n2_; clear hb ho7; obtain ⟨Ao9, co9, eo9⟩ := Kd.V_slice HO106.out; subst eo9) | ((with_reducible refine gate_builtin (b := .append) (xs := #[.tmp 5, .tmp 7]) rfl ?_); at_builtin; refine Kd.R_append_rows (Kd.int .u8) (w0 := w) w.heap.size rfl (.tmp 5) (.tmp 7) 52 5 (.int .u8 0) 1 rfl Try.underlying52 info5 rfl (by decide) (by omega) v102 t101 y104 _ _ _ (fun _ => True) (fun _ => False) rfl rfl ?aO ?aR (fun _ _ h => h) (fun _ h => h.elim) ?aF ?aB ?aS ?aL ?_; (case aR => repeat (first | exact (Kd.V_reads' HO106.out).2.2 | (with_reducible refine Kd.C_alloc ?_ _) | (with_reducible refine Kd.C_drewN ?_ _) | (with_reducible refine Kd.C_drew ?_))); (case aB => exact (HB.out)); (case aF => exact (fun _ _ => trivial)); (case aO => exact HO103.out); (case aS => exact (below_size (HB.out))); (case aL => have := LMc4.out; omega); intro v108 w8 ho hb hg hat; rw [← Ny107.out] at ho; have n0_ := Ak (Kd.V_afterv (ok := (fun _ => True)) (by (with_reducible repeat (first | apply Kd.V_alloc | apply Kd.V_drewN | apply Kd.V_drew)); exact Kd.V_mono HO106.out (fun _ hk => ⟨trivial, hk⟩)) hg hat); have n1_ := Ak (hb); have n2_ := Ak (ho); clear HO106; clear HB; clear HO103; have HO106 := n0_; have HB := n1_; have HO109 := n2_; clear n0_ n1_ n2_; clear ho hb hg hat))
   go_ret
   exact ⟨_, by first | rfl | (simp [*] <;> rfl), by (with_reducible repeat (first | apply Kd.R_alloc | apply Kd.R_drewN | apply Kd.R_drew)); exact HO109.out, HB.out⟩
  ·rw [if_neg c4] at H
   exact absurd H (by simp)
 ·rw [if_neg c3] at H
  exact absurd H (by simp)
def spec_TreePack.app (o t : List Int) : Option (List Int) := if o.length + t.length < 140737488355328 then some (o ++ t) else none
def spec_TreePack.num (k : Nat) (o : List Int) (x : Int) : Option (List Int) := (spec_PutNum.f k x).bind fun t => spec_TreePack.app o t
def spec_TreePack.txt (k : Nat) (o : List Int) (x : ByteArray) : Option (List Int) := (spec_PutText.f k x).bind fun t => spec_TreePack.app o t
def spec_TreePack.l0 : Nat → List Int → List ByteArray → Int → Option (List Int)
 | 0, _, _, _ => none
 | k + 1, o, ns, i => if i < (ns.length : Int) then (if 0 ≤ i then (spec_TreePack.txt k o (rdOf ByteArray.empty ns i)).bind fun o1 => spec_TreePack.l0 k o1 ns (wrap64 (i + 1)) else none) else some o
def spec_TreePack.l2 : Nat → List Int → List ByteArray → List S98 → Int → Option (List Int)
 | 0, _, _, _, _ => none
 | k + 1, o, ns, al, j => if j < (al.length : Int) then (if 0 ≤ j then (spec_l7Find.f k ns (rd_T98 al j).f0).bind fun q => (spec_TreePack.num k o q).bind fun o1 => (spec_TreePack.txt k o1 (rd_T98 al j).f1).bind fun o2 => spec_TreePack.l2 k o2 ns al (wrap64 (j + 1)) else none) else some o
def spec_TreePack.node (k : Nat) (o : List Int) (ns : List ByteArray) (x : S45) : Option (List Int) := (spec_TreePack.num k o x.f0).bind fun o1 => (spec_TreePack.num k o1 (x.f5.length : Int)).bind fun o2 => if x.f0 = 2 then (spec_l7Find.f k ns x.f1).bind fun q => spec_TreePack.num k o2 q else if x.f0 = 3 then (spec_l7Find.f k ns x.f1).bind fun q => (spec_TreePack.num k o2 q).bind fun o3 => (spec_TreePack.num k o3 (x.f2.length : Int)).bind fun o4 => spec_TreePack.l2 k o4 ns x.f2 0 else if x.f0 = 4 ∨ x.f0 = 5 then spec_TreePack.txt k o2 x.f3 else some o2
def spec_TreePack.l1 : Nat → List Int → List ByteArray → List S45 → Int → Option (List Int)
 | 0, _, _, _, _ => none
 | k + 1, o, ns, xs, i => if i < (xs.length : Int) then (if 0 ≤ i then (spec_TreePack.node k o ns (rd_T45 xs i)).bind fun o1 => spec_TreePack.l1 k o1 ns xs (wrap64 (i + 1)) else none) else some o
def spec_TreePack.fin (o : List Int) : Option (List Int × Bool) := if 20000 < (o.length : Int) then some ([], false) else some (o, true)
def spec_TreePack.rest (k : Nat) (ns : List ByteArray) (xs : List S45) (o1 : List Int) : Option (List Int × Bool) := (spec_TreePack.num k o1 (xs.length : Int)).bind fun o2 => (spec_TreePack.l1 k o2 ns xs 0).bind spec_TreePack.fin
def spec_TreePack.f (k : Nat) (xs : List S45) : Option (List Int × Bool) := (spec_TreeOk.f k xs).bind fun b => if b = true then (spec_l6TidyOf.f k xs).bind fun ys => (spec_l6Alike.f k xs ys).bind fun e => if e = true then (spec_l7Names.f k xs).bind fun ns => (spec_PutNum.f k (ns.length : Int)).bind fun o0 => (spec_TreePack.l0 k o0 ns 0).bind fun o1 => spec_TreePack.rest k ns xs o1 else some ([], false) else some ([], false)
theorem spec_TreePack.monoN (k : Nat) (o : List Int) (x : Int) : LeO (spec_TreePack.num k o x) (spec_TreePack.num (k + 1) o x) := LeO.bind (spec_PutNum.mono _ k) (fun _ => LeO.refl _)
theorem spec_TreePack.monoT (k : Nat) (o : List Int) (x : ByteArray) : LeO (spec_TreePack.txt k o x) (spec_TreePack.txt (k + 1) o x) := LeO.bind (spec_PutText.mono _ k) (fun _ => LeO.refl _)
theorem spec_TreePack.mono0 : ∀ k a b c, LeO (spec_TreePack.l0 k a b c) (spec_TreePack.l0 (k + 1) a b c)
 | 0 => fun _ _ _ r h => by simp [spec_TreePack.l0] at h
 | k + 1 => fun a b c => by
  rw [spec_TreePack.l0, spec_TreePack.l0]
  exact LeO.ite (LeO.ite (LeO.bind (spec_TreePack.monoT k _ _) (fun _ => spec_TreePack.mono0 k _ _ _)) (LeO.refl _)) (LeO.refl _)
theorem spec_TreePack.mono2 : ∀ k a b c d, LeO (spec_TreePack.l2 k a b c d) (spec_TreePack.l2 (k + 1) a b c d)
 | 0 => fun _ _ _ _ r h => by simp [spec_TreePack.l2] at h
 | k + 1 => fun a b c d => by
  rw [spec_TreePack.l2, spec_TreePack.l2]
  exact LeO.ite (LeO.ite (LeO.bind (spec_l7Find.mono _ _ k) (fun _ => LeO.bind (spec_TreePack.monoN k _ _) (fun _ => LeO.bind (spec_TreePack.monoT k _ _) (fun _ => spec_TreePack.mono2 k _ _ _ _)))) (LeO.refl _)) (LeO.refl _)
theorem spec_TreePack.monoD (k : Nat) (o : List Int) (ns : List ByteArray) (x : S45) : LeO (spec_TreePack.node k o ns x) (spec_TreePack.node (k + 1) o ns x) :=
 LeO.bind (spec_TreePack.monoN k _ _) (fun _ => LeO.bind (spec_TreePack.monoN k _ _) (fun _ => LeO.ite (LeO.bind (spec_l7Find.mono _ _ k) (fun _ => spec_TreePack.monoN k _ _)) (LeO.ite (LeO.bind (spec_l7Find.mono _ _ k) (fun _ => LeO.bind (spec_TreePack.monoN k _ _) (fun _ => LeO.bind (spec_TreePack.monoN k _ _) (fun _ => spec_TreePack.mono2 k _ _ _ _)))) (LeO.ite (spec_TreePack.monoT k _ _) (LeO.refl _)))))
theorem spec_TreePack.mono1 : ∀ k a b c d, LeO (spec_TreePack.l1 k a b c d) (spec_TreePack.l1 (k + 1) a b c d)
 | 0 => fun _ _ _ _ r h => by simp [spec_TreePack.l1] at h
 | k + 1 => fun a b c d => by
  rw [spec_TreePack.l1, spec_TreePack.l1]
  exact LeO.ite (LeO.ite (LeO.bind (spec_TreePack.monoD k _ _ _) (fun _ => spec_TreePack.mono1 k _ _ _ _)) (LeO.refl _)) (LeO.refl _)
theorem spec_TreePack.mono : ∀ a0 k, LeO (spec_TreePack.f k a0) (spec_TreePack.f (k + 1) a0) := fun _ k => LeO.bind (spec_TreeOk.mono _ k) (fun _ => LeO.ite (LeO.bind (spec_l6TidyOf.mono _ k) (fun _ => LeO.bind (spec_l6Alike.mono _ _ k) (fun _ => LeO.ite (LeO.bind (spec_l7Names.mono _ k) (fun _ => LeO.bind (spec_PutNum.mono _ k) (fun _ => LeO.bind (spec_TreePack.mono0 k _ _ _) (fun _ => LeO.bind (spec_TreePack.monoN k _ _) (fun _ => LeO.bind (spec_TreePack.mono1 k _ _ _ _) (fun _ => LeO.refl _)))))) (LeO.refl _)))) (LeO.refl _))
structure PkT (w W : World) (gt : Nat) (A0 : Option Addr) (n0 c0 m : Nat) (vz : Value) : Prop where
 bt : W.heap[gt]? = some (.cells #[.slice A0 n0 c0] 29 (0, 0))
 rz : Kd.R (Kd.int .u8) 5 W w.heap.size (fun k_ => k_ < m) vz []
 low : Below w.heap.size w W
 hm : m ≤ W.heap.size
structure PkW (w W : World) (gt : Nat) (A0 : Option Addr) (n0 c0 m : Nat) (vz : Value) (An : Option Addr) (cn : Nat) (ns : List ByteArray) (v : Value) (o : List Int) : Prop where
 t : PkT w W gt A0 n0 c0 m vz
 names : Kd.R Kd.string 9 W w.heap.size (fun _ => True) (.slice An ns.length cn) ns
 row : Kd.R (Kd.int .u8) 5 W w.heap.size (fun k_ => m ≤ k_) v o
structure PkN (w W : World) (gt : Nat) (A0 : Option Addr) (n0 c0 m : Nat) (vz : Value) (An : Option Addr) (cn : Nat) (ns : List ByteArray) (v : Value) (o : List Int) (gn : Nat) (x : S45) (A2 A5 : Option Addr) (c2 c5 : Nat) : Prop where
 pk : PkW w W gt A0 n0 c0 m vz An cn ns v o
 bn : W.heap[gn]? = some (.cells #[.int .i64 x.f0, .string x.f1, .slice A2 x.f2.length c2, .string x.f3, .int .i64 x.f4, .slice A5 x.f5.length c5] 45 (0, 0))
section
variable {w W W2 : World} {gt n0 c0 m cn gn c2 c5 : Nat} {A0 An A2 A5 : Option Addr} {vz v v2 : Value} {ns : List ByteArray} {o o2 : List Int} {x : S45}
theorem PkT.below (h : PkT w W gt A0 n0 c0 m vz) (hb : Below W.heap.size W W2) : PkT w W2 gt A0 n0 c0 m vz := ⟨blk_below h.bt hb, Kd.R_below h.rz hb, below_step h.low hb, Nat.le_trans h.hm hb.size⟩
theorem PkW.below (h : PkW w W gt A0 n0 c0 m vz An cn ns v o) (hb : Below W.heap.size W W2) : PkW w W2 gt A0 n0 c0 m vz An cn ns v o := ⟨h.t.below hb, Kd.R_below h.names hb, Kd.R_below h.row hb⟩
theorem PkW.hm (h : PkW w W gt A0 n0 c0 m vz An cn ns v o) : m ≤ W.heap.size := h.t.hm
theorem PkW.low (h : PkW w W gt A0 n0 c0 m vz An cn ns v o) : Below w.heap.size w W := h.t.low
theorem PkW.grown (h : PkW w W gt A0 n0 c0 m vz An cn ns v o) (ho : Kd.R (Kd.int .u8) 5 W2 w.heap.size (fun k_ => m ≤ k_) v2 o2) (hb : Below w.heap.size w W2) (hg : W.grownBy W2 v.ownBlock) : PkW w W2 gt A0 n0 c0 m vz An cn ns v2 o2 := by
 have hk : Kept W W2 (fun k_ => some k_ = v.ownBlock) := Kept.of_grown hg (Kept.refl _ _) (fun k e => .inl e.symm)
 refine ⟨⟨blk_kept h.t.bt hk (Kd.R_ne h.row h.t.bt (by decide)), Kd.R_kept h.t.rz hk (fun k hlt e => by have := h.row.1 k e.symm; omega), hb, Nat.le_trans h.t.hm hk.1⟩, Kd.R_mono (Kd.R_kept (Kd.R_bound h.names) hk (fun k hk1 e => ?_)) (fun _ _ => trivial), ho⟩
 obtain ⟨_, _, _, q, hq, cs, hc⟩ := hk1
 obtain rfl : q = 9 := List.mem_singleton.1 (show q ∈ [9] from hq)
 exact Kd.R_ne h.row hc (by decide) e
theorem PkN.below (h : PkN w W gt A0 n0 c0 m vz An cn ns v o gn x A2 A5 c2 c5) (hb : Below W.heap.size W W2) : PkN w W2 gt A0 n0 c0 m vz An cn ns v o gn x A2 A5 c2 c5 := ⟨h.pk.below hb, blk_below h.bn hb⟩
theorem PkN.hm (h : PkN w W gt A0 n0 c0 m vz An cn ns v o gn x A2 A5 c2 c5) : m ≤ W.heap.size := h.pk.t.hm
theorem PkN.low (h : PkN w W gt A0 n0 c0 m vz An cn ns v o gn x A2 A5 c2 c5) : Below w.heap.size w W := h.pk.t.low
theorem PkN.row (h : PkN w W gt A0 n0 c0 m vz An cn ns v o gn x A2 A5 c2 c5) : Kd.R (Kd.int .u8) 5 W w.heap.size (fun k_ => m ≤ k_) v o := h.pk.row
theorem PkN.names (h : PkN w W gt A0 n0 c0 m vz An cn ns v o gn x A2 A5 c2 c5) : Kd.R Kd.string 9 W w.heap.size (fun _ => True) (.slice An ns.length cn) ns := h.pk.names
theorem PkN.grown (h : PkN w W gt A0 n0 c0 m vz An cn ns v o gn x A2 A5 c2 c5) (ho : Kd.R (Kd.int .u8) 5 W2 w.heap.size (fun k_ => m ≤ k_) v2 o2) (hb : Below w.heap.size w W2) (hg : W.grownBy W2 v.ownBlock) : PkN w W2 gt A0 n0 c0 m vz An cn ns v2 o2 gn x A2 A5 c2 c5 :=
 ⟨h.pk.grown ho hb hg, blk_kept h.bn (Kept.of_grown (S := fun k_ => some k_ = v.ownBlock) hg (Kept.refl _ _) (fun k e => .inl e.symm)) (Kd.R_ne h.pk.row h.bn (by decide))⟩
end
theorem spec_TreePack.calls (k : Nat) (A0 : Option Addr) (c0 : Nat) (xs : List S45) (r1 : List Int) (r2 : Bool) (w : World) (hr0 : Kd.C k45 w A0 xs.length xs) (hc0 : xs.length ≤ c0) (h : spec_TreePack.f k xs = some (r1, r2)) :
 Calls Try.prog 31 #[.agg #[.slice A0 xs.length c0]] w fun e w' => ∃ v0_ : Value, e = .returned (.tuple #[v0_, .bool r2]) ∧ Kd.R (Kd.int .u8) 5 w' w.heap.size (fun _ => True) v0_ r1 ∧ Below w.heap.size w w' := by
 unfold spec_TreePack.f at h
 obtain ⟨b, A1, h⟩ := Ob h
 have HA1 := Ak A1
 have HA := Ak h
 have HC := Ak hr0
 have HCC := Ak hc0
 clear h hr0 hc0 A1
 go_enter Try.func31, Try.ntmps31
 go_upto_region 2 with (first | ((with_reducible refine gate_dst (N := 1) rfl ?_); refine box_event ?hg (N := 1) ?hd (cs := #[.slice A0 xs.length c0]) (t := 29) ?hr ?_; (case hd => rfl); (case hg => rfl); (case hr => first | (go_simp; done) | (go_simp; rfl)); intro gt hg w1 hbox hb; have HT := Ak hbox; have HL := Ak hb; clear hbox hb hg) | ((with_reducible refine gate_dst (N := 11) rfl ?_); refine Kd.R_lit (Kd.int .u8) _ 5 ?hg (N := 11) ?hd (xs := ([] : List Int)) (inner := []) (ok := fun _ => True) (okp := fun _ => True) ?hr ?hp (fun _ hk => hk) trivial (Below.refl _ _) (Nat.le_refl _) (by simp) ?_; (case hd => rfl); (case hg => rfl); (case hr => first | (go_simp; done) | (go_simp; rfl)); (case hp => exact (Reps.none _ _)); intro vz w2 hz hb hg_ hnew_; have HS := Ak (show PkT w w2 gt A0 xs.length c0 w2.heap.size vz from ⟨blk_below HT.out hb, Kd.R_mono (Kd.R_bound (Kd.R_lower hz HL.out.size)) (fun k_ hk_ => hk_.2.2.1), below_step HL.out hb, Nat.le_refl _⟩); have HSD := Ak (show PkT w w2.drew gt A0 xs.length c0 w2.heap.size vz from HS.out.below (pw_below_drewN (Below.refl _ _) 1)); clear hz hb hg_ hnew_ HT HL))
 generalize w2.heap.size = m at HS HSD
 have hct := blk_cell HS.out.bt 0
 cases b with
 | false =>
  have H := HA.out
  rw [if_neg (by decide)] at H
  injection H with H
  injection H with e1 e2
  subst e1 e2
  clear HA
  go_cut [21] from 12 to 20 (fun v21 wc => v21 = .bool true ∧ Aside0 (PkT w wc gt A0 xs.length c0 m vz))
  case first =>
   go_region_with (first | (go_at_call 11; (with_reducible refine (spec_TreeOk.calls k A0 c0 xs false _ (Kd.C_below HC.out HSD.out.low) HCC.out HA1.out).mono ?_); rintro e w3 ⟨rfl, hb⟩; have HS3 := Ak (HSD.out.below hb); have hct3 := blk_cell HS3.out.bt 0; clear hb))
   all_goals (go_wp2; go_meet; exact ⟨rfl, HS3⟩)
  case rest =>
   obtain ⟨rfl, HS⟩ := hcut
   clear hct HSD
   go_wp2
   refine bodyPost_ret (results_list (rs := [.tmp 2, .tmp 3]) rfl (by simp) (.tmp (.tmp .nil))) rfl ?_
   exact ⟨_, rfl, Kd.R_mono HS.out.rz (fun _ _ => trivial), HS.out.low⟩
 | true =>
  have H := HA.out
  rw [if_pos rfl] at H
  obtain ⟨ys, A2, H⟩ := Ob H
  obtain ⟨e, A3, H⟩ := Ob H
  have HA2 := Ak A2
  have HA3 := Ak A3
  have HA4 := Ak H
  clear H HA A2 A3
  cases e with
  | false =>
   have H := HA4.out
   rw [if_neg (by decide)] at H
   injection H with H
   injection H with e1 e2
   subst e1 e2
   clear HA4
   go_cut [21] from 12 to 20 (fun v21 wc => v21 = .bool true ∧ Aside0 (PkT w wc gt A0 xs.length c0 m vz))
   case first =>
    go_region_with (first | (go_at_call 11; (with_reducible refine (spec_TreeOk.calls k A0 c0 xs true _ (Kd.C_below HC.out HSD.out.low) HCC.out HA1.out).mono ?_); rintro e w3 ⟨rfl, hb⟩; have HS3 := Ak (HSD.out.below hb); have hct3 := blk_cell HS3.out.bt 0; clear hb) | (go_at_call 45; (with_reducible refine (spec_l6TidyOf.calls k A0 c0 xs ys _ (Kd.C_below HC.out HS3.out.low) HCC.out HA2.out).mono ?_); rintro e w4 ⟨vy, rfl, hS, hl⟩; obtain ⟨Ay, cy, rfl⟩ := Kd.S_slice hS; have HY := Ak (Kd.R_reads' (Kd.S_R hS)).2; have HS4 := Ak (HS3.out.below hl); have hct4 := blk_cell HS4.out.bt 0; clear hS hl) | (go_at_call 44; (with_reducible refine (spec_l6Alike.calls k A0 c0 xs Ay cy ys false _ (Kd.C_below HC.out HS4.out.low) HY.out.2 HA3.out).mono ?_); rintro e w5 ⟨rfl, hb⟩; have HS5 := Ak (HS4.out.below hb); have hct5 := blk_cell HS5.out.bt 0; clear hb))
    all_goals (go_wp2; go_meet; exact ⟨rfl, HS5⟩)
   case rest =>
    obtain ⟨rfl, HS⟩ := hcut
    clear hct HSD
    go_wp2
    refine bodyPost_ret (results_list (rs := [.tmp 2, .tmp 3]) rfl (by simp) (.tmp (.tmp .nil))) rfl ?_
    exact ⟨_, rfl, Kd.R_mono HS.out.rz (fun _ _ => trivial), HS.out.low⟩
  | true =>
   have H := HA4.out
   rw [if_pos rfl] at H
   obtain ⟨ns, A5, H⟩ := Ob H
   obtain ⟨o0, A6, H⟩ := Ob H
   have HA5 := Ak A5
   have HA6 := Ak A6
   have HA := Ak H
   clear H HA4 A5 A6
   go_cut [21] from 12 to 20 (fun v21 wc => v21 = .bool false ∧ Aside0 (PkT w wc gt A0 xs.length c0 m vz))
   case first =>
    go_region_with (first | (go_at_call 11; (with_reducible refine (spec_TreeOk.calls k A0 c0 xs true _ (Kd.C_below HC.out HSD.out.low) HCC.out HA1.out).mono ?_); rintro e w3 ⟨rfl, hb⟩; have HS3 := Ak (HSD.out.below hb); have hct3 := blk_cell HS3.out.bt 0; clear hb) | (go_at_call 45; (with_reducible refine (spec_l6TidyOf.calls k A0 c0 xs ys _ (Kd.C_below HC.out HS3.out.low) HCC.out HA2.out).mono ?_); rintro e w4 ⟨vy, rfl, hS, hl⟩; obtain ⟨Ay, cy, rfl⟩ := Kd.S_slice hS; have HY := Ak (Kd.R_reads' (Kd.S_R hS)).2; have HS4 := Ak (HS3.out.below hl); have hct4 := blk_cell HS4.out.bt 0; clear hS hl) | (go_at_call 44; (with_reducible refine (spec_l6Alike.calls k A0 c0 xs Ay cy ys true _ (Kd.C_below HC.out HS4.out.low) HY.out.2 HA3.out).mono ?_); rintro e w5 ⟨rfl, hb⟩; have HS5 := Ak (HS4.out.below hb); have hct5 := blk_cell HS5.out.bt 0; clear hb))
    all_goals (go_wp2; go_meet; exact ⟨rfl, HS5⟩)
   case rest =>
    obtain ⟨rfl, HS⟩ := hcut
    clear hct HSD HA1 HA2 HA3
    have hct := blk_cell HS.out.bt 0
    go_wp2_with (first | (go_at_call 71; (with_reducible refine (spec_l7Names.calls k A0 c0 xs ns wc (Kd.C_below HC.out HS.out.low) HCC.out HA5.out).mono ?_); rintro e w6 ⟨vn, rfl, hr, hb⟩; obtain ⟨An, cn, rfl⟩ := Kd.R_slice hr; have HS6 := Ak (HS.out.below hb); have HN6 := Ak (Kd.R_lower hr HS.out.low.size); clear hr hb) | (go_at_call 72; (with_reducible refine (spec_PutNum.calls k (ns.length : Int) o0 w6 HA6.out).mono ?_); rintro e w7 ⟨v6, rfl, hr, hb⟩; have HP := Ak (show PkW w w7 gt A0 xs.length c0 m vz An cn ns v6 o0 from ⟨HS6.out.below hb, Kd.R_below HN6.out hb, Kd.R_mono (Kd.R_bound (Kd.R_lower (Kd.R_mono (Kd.R_bound hr) (ok' := fun k_ => w6.heap.size ≤ k_) (fun k_ hk_ => hk_.2.1)) HS6.out.low.size)) (fun k_ hk_ => Nat.le_trans HS6.out.hm hk_.1)⟩); clear hr hb HS6 HN6))
    clear hct HS HA5 HA6
    go_loopg [6, 7] k (fun kq v6 v7 w' => ∃ (o : List Int) (i : Int), v7 = .int .i64 i ∧ Aside0 ((spec_TreePack.l0 kq o ns i).bind (fun o1 => spec_TreePack.rest k ns xs o1) = some (r1, r2)) ∧ Aside0 (kq ≤ k) ∧ Aside0 (PkW w w' gt A0 xs.length c0 m vz An cn ns v6 o))
    case atStart => exact ⟨_, _, rfl, HA, ⟨Nat.le_refl _⟩, HP⟩
    case round =>
     clear HA HP
     obtain ⟨o, i, rfl, HA, HK, HP⟩ := hrel
     cases gk with
     | zero => exact absurd HA.out (by simp [spec_TreePack.l0])
     | succ k1 =>
      have H := HA.out
      clear HA
      simp only [spec_TreePack.l0] at H
      by_cases c1 : i < (ns.length : Int)
      ·rw [if_pos c1] at H
       by_cases c2 : 0 ≤ i
       ·rw [if_pos c2, Option.bind_assoc] at H
        obtain ⟨o1, A2, H⟩ := Ob H
        have HA := Ak H
        clear H
        unfold spec_TreePack.txt at A2
        obtain ⟨t, A3, A2⟩ := Ob A2
        have HA3 := Ak A3
        clear A3
        unfold spec_TreePack.app at A2
        by_cases c3 : o.length + t.length < 140737488355328
        ·rw [if_pos c3] at A2
         obtain rfl := Oi A2
         have HL := Ak c3
         clear c3 A2
         have c1b : decide (i < (ns.length : Int)) = true := decide_eq_true c1
         obtain ⟨ad, e1, hx⟩ := Kd.at_string (Kd.R_reads' HP.out.names).2.2 i c2 c1
         subst e1
         replace c1 := eq_true c1
         replace c2 := eq_true c2
         go_wp2_with (first | (go_at_call 73; (with_reducible refine (spec_PutText.calls k1 _ t _ HA3.out).mono ?_); rintro e wa8 ⟨vt8, rfl, hr, hb⟩; obtain ⟨At8, ct8, rfl⟩ := Kd.R_slice hr; have HPa8 := Ak (HP.out.below hb); have HT8 := Ak (Kd.R_reads' hr); clear hr hb) | ((with_reducible refine gate_builtin (b := .append) (xs := #[.tmp 34, .tmp 39]) rfl ?_); at_builtin; refine Kd.R_append_rows (Kd.int .u8) (w0 := w) w.heap.size rfl (.tmp 34) (.tmp 39) 52 5 (.int .u8 0) 1 rfl Try.underlying52 info5 rfl (by decide) (by omega) u6 o t _ _ _ (fun k_ => m ≤ k_) (fun _ => False) rfl rfl HPa8.out.row HT8.out.2.2 (fun _ _ h => h) (fun _ h => h.elim) (fun k_ hk => Nat.le_trans HPa8.out.hm hk) HPa8.out.low (below_size HPa8.out.low) ?aL ?_; (case aL => have := HL.out; omega); intro v8 w8 ho hb hg hat; have HP8 := Ak (HPa8.out.grown ho hb hg); clear ho hb hg hat))
         go_roundg k1
         case measure => have := HK.out; omega
         case rel => exact ⟨_, _, rfl, HA, ⟨by have := HK.out; omega⟩, HP8⟩
        ·rw [if_neg c3] at A2; cases A2
       ·rw [if_neg c2] at H; cases H
      ·rw [if_neg c1] at H
       have HA := Ak (show spec_TreePack.rest k ns xs o = some (r1, r2) from H)
       clear H
       have c1b : decide (i < (ns.length : Int)) = false := decide_eq_false c1
       clear c1
       have H := HA.out
       clear HA
       unfold spec_TreePack.rest at H
       obtain ⟨o2, A2, H⟩ := Ob H
       unfold spec_TreePack.num at A2
       obtain ⟨t, A3, A2⟩ := Ob A2
       unfold spec_TreePack.app at A2
       by_cases c3 : o.length + t.length < 140737488355328
       ·rw [if_pos c3] at A2
        obtain rfl := Oi A2
        have HL := Ak c3
        have HA3 := Ak A3
        have HA := Ak H
        clear c3 A2 A3 H
        have hct := blk_cell HP.out.t.bt 0
        go_wp2_with (first | (go_at_call 72; (with_reducible refine (spec_PutNum.calls k (xs.length : Int) t _ HA3.out).mono ?_); rintro e wa9 ⟨vt9, rfl, hr, hb⟩; obtain ⟨At9, ct9, rfl⟩ := Kd.R_slice hr; have HPa9 := Ak (HP.out.below hb); have HT9 := Ak (Kd.R_reads' hr); clear hr hb) | ((with_reducible refine gate_builtin (b := .append) (xs := #[.tmp 41, .tmp 45]) rfl ?_); at_builtin; refine Kd.R_append_rows (Kd.int .u8) (w0 := w) w.heap.size rfl (.tmp 41) (.tmp 45) 52 5 (.int .u8 0) 1 rfl Try.underlying52 info5 rfl (by decide) (by omega) u6 o t _ _ _ (fun k_ => m ≤ k_) (fun _ => False) rfl rfl HPa9.out.row HT9.out.2.2 (fun _ _ h => h) (fun _ h => h.elim) (fun k_ hk => Nat.le_trans HPa9.out.hm hk) HPa9.out.low (below_size HPa9.out.low) ?aL ?_; (case aL => have := HL.out; omega); intro v9 w9 ho hb hg hat; have HP9 := Ak (HPa9.out.grown ho hb hg); clear ho hb hg hat))
        clear hct HP HPa9 HT9 HA3 HL
        have HP := HP9
        clear HP9
        go_loopg [6, 8] k (fun kq v6 v8 w' => ∃ (o : List Int) (i : Int), v8 = .int .i64 i ∧ Aside0 ((spec_TreePack.l1 kq o ns xs i).bind spec_TreePack.fin = some (r1, r2)) ∧ Aside0 (kq ≤ k) ∧ Aside0 (PkW w w' gt A0 xs.length c0 m vz An cn ns v6 o))
        case atStart => exact ⟨_, _, rfl, HA, ⟨Nat.le_refl _⟩, HP⟩
        case round =>
         clear HA HP c1b
         clear HK
         obtain ⟨o, i, rfl, HA, HK, HP⟩ := hrel
         cases gk with
         | zero => exact absurd HA.out (by simp [spec_TreePack.l1])
         | succ k1 =>
          have H := HA.out
          clear HA
          simp only [spec_TreePack.l1] at H
          have hct := blk_cell HP.out.t.bt 0
          by_cases c1 : i < (xs.length : Int)
          ·rw [if_pos c1] at H
           by_cases c2 : 0 ≤ i
           ·rw [if_pos c2, Option.bind_assoc] at H
            obtain ⟨o9, A2, H⟩ := Ob H
            have HA := Ak H
            have HAN := Ak A2
            clear H A2
            have c1b : decide (i < (xs.length : Int)) = true := decide_eq_true c1
            obtain ⟨ad, A_2, c_2, A_5, c_5, e1, hx0, hx1, hx2, hx3, hx4, hx5, hl2, hi2, hl5, hi5⟩ := at_T45 HC.out i c2 c1
            subst e1
            have HI2 := Ak hi2
            clear hl2 hi2 hl5 hi5
            have hx0 := pw_cell_below HP.out.low hx0
            have hx1 := pw_cell_below HP.out.low hx1
            have hx2 := pw_cell_below HP.out.low hx2
            have hx3 := pw_cell_below HP.out.low hx3
            have hx4 := pw_cell_below HP.out.low hx4
            have hx5 := pw_cell_below HP.out.low hx5
            replace c1 := eq_true c1
            replace c2 := eq_true c2
            generalize hxx : rd_T45 xs i = x at *
            clear hxx
            go_upto_region 15 with (fail)
            have hX := blk_new wr (.cells #[.int .i64 x.f0, .string x.f1, .slice A_2 x.f2.length c_2, .string x.f3, .int .i64 x.f4, .slice A_5 x.f5.length c_5] 45)
            have hl := below_alloc (Below.refl wr.heap.size wr) (.cells #[.int .i64 x.f0, .string x.f1, .slice A_2 x.f2.length c_2, .string x.f3, .int .i64 x.f4, .slice A_5 x.f5.length c_5] 45)
            generalize wr.alloc (.cells #[.int .i64 x.f0, .string x.f1, .slice A_2 x.f2.length c_2, .string x.f3, .int .i64 x.f4, .slice A_5 x.f5.length c_5] 45) = w3 at hX hl ⊢
            have HX := Ak (show PkN w w3 gt (some ad) xs.length c0 m vz An cn ns u6 o wr.heap.size x A_2 A_5 c_2 c_5 from ⟨HP.out.below hl, hX⟩)
            clear hl hX hx0 hx1 hx2 hx3 hx4 hx5 hct HP
            generalize wr.heap.size = gn at HX ⊢
            have H := HAN.out
            clear HAN
            unfold spec_TreePack.node at H
            have HAN := Ak H
            clear H
            have H := HAN.out
            clear HAN
            obtain ⟨qA, A2, H⟩ := Ob H
            unfold spec_TreePack.num at A2
            obtain ⟨tA, A3, A2⟩ := Ob A2
            unfold spec_TreePack.app at A2
            by_cases c3 : o.length + tA.length < 140737488355328
            ·rw [if_pos c3] at A2
             obtain rfl := Oi A2
             have HLA := Ak c3
             have HAA := Ak A3
             have HAN := Ak H
             clear c3 A2 A3 H
             have H := HAN.out
             clear HAN
             obtain ⟨qB, A2, H⟩ := Ob H
             unfold spec_TreePack.num at A2
             obtain ⟨tB, A3, A2⟩ := Ob A2
             unfold spec_TreePack.app at A2
             by_cases c3 : (o ++ tA).length + tB.length < 140737488355328
             ·rw [if_pos c3] at A2
              obtain rfl := Oi A2
              have HLB := Ak c3
              have HAB := Ak A3
              have HAN := Ak H
              clear c3 A2 A3 H
              have hn0 := blk_cell HX.out.bn 0
              go_upto_region 16 with (first | (go_at_call 72; (with_reducible refine (spec_PutNum.calls k1 x.f0 tA _ HAA.out).mono ?_); rintro e waA ⟨vtA, rfl, hr, hb⟩; obtain ⟨AtA, ctA, rfl⟩ := Kd.R_slice hr; have HPaA := Ak (HX.out.below hb); have HTA := Ak (Kd.R_reads' hr); clear hr hb) | ((with_reducible refine gate_builtin (b := .append) (xs := #[.tmp 59, .tmp 62]) rfl ?_); at_builtin; refine Kd.R_append_rows (Kd.int .u8) (w0 := w) w.heap.size rfl (.tmp 59) (.tmp 62) 52 5 (.int .u8 0) 1 rfl Try.underlying52 info5 rfl (by decide) (by omega) u6 o tA _ _ _ (fun k_ => m ≤ k_) (fun _ => False) rfl rfl HPaA.out.row HTA.out.2.2 (fun _ _ h => h) (fun _ h => h.elim) (fun k_ hk => Nat.le_trans HPaA.out.hm hk) HPaA.out.low (below_size HPaA.out.low) ?aL ?_; (case aL => have := HLA.out; omega); intro vA wA ho hb hg hat; have HPA := Ak (HPaA.out.grown ho hb hg); clear ho hb hg hat))
              clear hn0 HX HPaA HTA HAA HLA
              have hn5 := blk_cell HPA.out.bn 5
              go_upto_region 17 with (first | (go_at_call 72; (with_reducible refine (spec_PutNum.calls k1 (x.f5.length : Int) tB _ HAB.out).mono ?_); rintro e waB ⟨vtB, rfl, hr, hb⟩; obtain ⟨AtB, ctB, rfl⟩ := Kd.R_slice hr; have HPaB := Ak (HPA.out.below hb); have HTB := Ak (Kd.R_reads' hr); clear hr hb) | ((with_reducible refine gate_builtin (b := .append) (xs := #[.tmp 64, .tmp 68]) rfl ?_); at_builtin; refine Kd.R_append_rows (Kd.int .u8) (w0 := w) w.heap.size rfl (.tmp 64) (.tmp 68) 52 5 (.int .u8 0) 1 rfl Try.underlying52 info5 rfl (by decide) (by omega) vA (o ++ tA) tB _ _ _ (fun k_ => m ≤ k_) (fun _ => False) rfl rfl HPaB.out.row HTB.out.2.2 (fun _ _ h => h) (fun _ h => h.elim) (fun k_ hk => Nat.le_trans HPaB.out.hm hk) HPaB.out.low (below_size HPaB.out.low) ?aL ?_; (case aL => have := HLB.out; omega); intro vB wB ho hb hg hat; have HPB := Ak (HPaB.out.grown ho hb hg); clear ho hb hg hat))
              clear hn5 HPA HPaB HTB HAB HLB
              have hn0 := blk_cell HPB.out.bn 0
              generalize hOB : o ++ tA ++ tB = oB at *
              clear hOB
              generalize wB = wX at *
              have H := HAN.out
              clear HAN
              by_cases e2 : x.f0 = 2
              ·skip
               rw [if_pos e2] at H
               have e2b : (x.f0 == 2) = true := beq_iff_eq.2 e2
               clear e2
               obtain ⟨q, A1, H⟩ := Ob H
               have HQ := Ak A1
               clear A1
               have hn1 := blk_cell HPB.out.bn 1
               unfold spec_TreePack.num at H
               obtain ⟨tC, A3, A2⟩ := Ob H
               clear H
               unfold spec_TreePack.app at A2
               by_cases c3 : oB.length + tC.length < 140737488355328
               ·rw [if_pos c3] at A2
                obtain rfl := Oi A2
                have HLC := Ak c3
                have HAC := Ak A3
                clear c3 A2 A3
                go_wp2_with (first | (go_at_call 74; (with_reducible refine (spec_l7Find.calls k1 An cn ns x.f1 q _ (Kd.R_reads' HPB.out.names).2.2 (Kd.R_reads' HPB.out.names).2.1 HQ.out).mono ?_); rintro e wfC ⟨rfl, ⟨ndC, rfl⟩⟩; have HPfC := Ak (HPB.out.below (pw_below_drewN (Below.refl _ _) ndC))) | (go_at_call 72; (with_reducible refine (spec_PutNum.calls k1 q tC _ HAC.out).mono ?_); rintro e waC ⟨vtC, rfl, hr, hb⟩; obtain ⟨AtC, ctC, rfl⟩ := Kd.R_slice hr; have HPaC := Ak (HPfC.out.below hb); have HTC := Ak (Kd.R_reads' hr); clear hr hb) | ((with_reducible refine gate_builtin (b := .append) (xs := #[.tmp 74, .tmp 79]) rfl ?_); at_builtin; refine Kd.R_append_rows (Kd.int .u8) (w0 := w) w.heap.size rfl (.tmp 74) (.tmp 79) 52 5 (.int .u8 0) 1 rfl Try.underlying52 info5 rfl (by decide) (by omega) vB oB tC _ _ _ (fun k_ => m ≤ k_) (fun _ => False) rfl rfl HPaC.out.row HTC.out.2.2 (fun _ _ h => h) (fun _ h => h.elim) (fun k_ hk => Nat.le_trans HPaC.out.hm hk) HPaC.out.low (below_size HPaC.out.low) ?aL ?_; (case aL => have := HLC.out; omega); intro vC wC ho hb hg hat; have HPC := Ak (HPaC.out.grown ho hb hg); clear ho hb hg hat))
                go_roundg k1
                case measure => have := HK.out; omega
                case rel => exact ⟨_, _, rfl, HA, ⟨by have := HK.out; omega⟩, ⟨HPC.out.pk⟩⟩
               ·rw [if_neg c3] at A2; cases A2
              ·by_cases e3 : x.f0 = 3
               ·skip
                rw [if_neg e2, if_pos e3] at H
                have e2b : (x.f0 == 2) = false := beq_eq_false_iff_ne.2 e2
                have e3b : (x.f0 == 3) = true := beq_iff_eq.2 e3
                clear e2 e3
                obtain ⟨q, A1, H⟩ := Ob H
                have HQ := Ak A1
                have HAN := Ak H
                clear A1 H
                have hn1 := blk_cell HPB.out.bn 1
                have H := HAN.out
                clear HAN
                obtain ⟨qC, A2, H⟩ := Ob H
                unfold spec_TreePack.num at A2
                obtain ⟨tC, A3, A2⟩ := Ob A2
                unfold spec_TreePack.app at A2
                by_cases c3 : oB.length + tC.length < 140737488355328
                ·rw [if_pos c3] at A2
                 obtain rfl := Oi A2
                 have HLC := Ak c3
                 have HAC := Ak A3
                 have HAN := Ak H
                 clear c3 A2 A3 H
                 have H := HAN.out
                 clear HAN
                 obtain ⟨qD, A2, H⟩ := Ob H
                 unfold spec_TreePack.num at A2
                 obtain ⟨tD, A3, A2⟩ := Ob A2
                 unfold spec_TreePack.app at A2
                 by_cases c3 : (oB ++ tC).length + tD.length < 140737488355328
                 ·rw [if_pos c3] at A2
                  obtain rfl := Oi A2
                  have HLD := Ak c3
                  have HAD := Ak A3
                  have HAN := Ak H
                  clear c3 A2 A3 H
                  go_wp2_with (first | (go_at_call 74; (with_reducible refine (spec_l7Find.calls k1 An cn ns x.f1 q _ (Kd.R_reads' HPB.out.names).2.2 (Kd.R_reads' HPB.out.names).2.1 HQ.out).mono ?_); rintro e wfC ⟨rfl, ⟨ndC, rfl⟩⟩; have HPfC := Ak (HPB.out.below (pw_below_drewN (Below.refl _ _) ndC))) | (go_at_call 72; (with_reducible refine (spec_PutNum.calls k1 q tC _ HAC.out).mono ?_); rintro e waC ⟨vtC, rfl, hr, hb⟩; obtain ⟨AtC, ctC, rfl⟩ := Kd.R_slice hr; have HPaC := Ak (HPfC.out.below hb); have HTC := Ak (Kd.R_reads' hr); clear hr hb) | ((with_reducible refine gate_builtin (b := .append) (xs := #[.tmp 83, .tmp 88]) rfl ?_); at_builtin; refine Kd.R_append_rows (Kd.int .u8) (w0 := w) w.heap.size rfl (.tmp 83) (.tmp 88) 52 5 (.int .u8 0) 1 rfl Try.underlying52 info5 rfl (by decide) (by omega) vB oB tC _ _ _ (fun k_ => m ≤ k_) (fun _ => False) rfl rfl HPaC.out.row HTC.out.2.2 (fun _ _ h => h) (fun _ h => h.elim) (fun k_ hk => Nat.le_trans HPaC.out.hm hk) HPaC.out.low (below_size HPaC.out.low) ?aL ?_; (case aL => have := HLC.out; omega); intro vC wC ho hb hg hat; have HPC := Ak (HPaC.out.grown ho hb hg); have hnC2 := blk_cell HPC.out.bn 2; clear ho hb hg hat) | (go_at_call 72; (with_reducible refine (spec_PutNum.calls k1 (x.f2.length : Int) tD _ HAD.out).mono ?_); rintro e waD ⟨vtD, rfl, hr, hb⟩; obtain ⟨AtD, ctD, rfl⟩ := Kd.R_slice hr; have HPaD := Ak (HPC.out.below hb); have HTD := Ak (Kd.R_reads' hr); clear hr hb) | ((with_reducible refine gate_builtin (b := .append) (xs := #[.tmp 90, .tmp 94]) rfl ?_); at_builtin; refine Kd.R_append_rows (Kd.int .u8) (w0 := w) w.heap.size rfl (.tmp 90) (.tmp 94) 52 5 (.int .u8 0) 1 rfl Try.underlying52 info5 rfl (by decide) (by omega) vC (oB ++ tC) tD _ _ _ (fun k_ => m ≤ k_) (fun _ => False) rfl rfl HPaD.out.row HTD.out.2.2 (fun _ _ h => h) (fun _ h => h.elim) (fun k_ hk => Nat.le_trans HPaD.out.hm hk) HPaD.out.low (below_size HPaD.out.low) ?aL ?_; (case aL => have := HLD.out; omega); intro vD wD ho hb hg hat; have HPD := Ak (HPaD.out.grown ho hb hg); clear ho hb hg hat))
                  clear hn0 hn1 hnC2 HPB HPfC HPaC HTC HPC HPaD HTD HAC HAD HLC HLD HQ e2b e3b
                  generalize hOD : oB ++ tC ++ tD = oD at *
                  clear hOD
                  go_loopg [6, 10] k1 (fun kq v6 v10 w' => ∃ (o : List Int) (j : Int), v10 = .int .i64 j ∧ Aside0 (spec_TreePack.l2 kq o ns x.f2 j = some o9) ∧ Aside0 (kq ≤ k1) ∧ Aside0 (PkN w w' gt (some ad) xs.length c0 m vz An cn ns v6 o gn x A_2 A_5 c_2 c_5))
                  case atStart => exact ⟨_, _, rfl, HAN, ⟨Nat.le_refl _⟩, HPD⟩
                  case round =>
                   clear HAN HPD
                   obtain ⟨o, j, rfl, HAN, HJ, HP⟩ := hrel
                   cases gk with
                   | zero => exact absurd HAN.out (by simp [spec_TreePack.l2])
                   | succ k2 =>
                    have H := HAN.out
                    clear HAN
                    simp only [spec_TreePack.l2] at H
                    have hn2 := blk_cell HP.out.bn 2
                    by_cases q1 : j < (x.f2.length : Int)
                    ·rw [if_pos q1] at H
                     by_cases q2 : 0 ≤ j
                     ·rw [if_pos q2] at H
                      obtain ⟨q, A1, H⟩ := Ob H
                      have HQ := Ak A1
                      have HAN := Ak H
                      clear A1 H
                      have H := HAN.out
                      clear HAN
                      obtain ⟨qE, A2, H⟩ := Ob H
                      unfold spec_TreePack.num at A2
                      obtain ⟨tE, A3, A2⟩ := Ob A2
                      unfold spec_TreePack.app at A2
                      by_cases c3 : o.length + tE.length < 140737488355328
                      ·rw [if_pos c3] at A2
                       obtain rfl := Oi A2
                       have HLE := Ak c3
                       have HAE := Ak A3
                       have HAN := Ak H
                       clear c3 A2 A3 H
                       have H := HAN.out
                       clear HAN
                       obtain ⟨qF, A2, H⟩ := Ob H
                       unfold spec_TreePack.txt at A2
                       obtain ⟨tF, A3, A2⟩ := Ob A2
                       unfold spec_TreePack.app at A2
                       by_cases c3 : (o ++ tE).length + tF.length < 140737488355328
                       ·rw [if_pos c3] at A2
                        obtain rfl := Oi A2
                        have HLF := Ak c3
                        have HAF := Ak A3
                        have HAN := Ak H
                        clear c3 A2 A3 H
                        have q1b : decide (j < (x.f2.length : Int)) = true := decide_eq_true q1
                        obtain ⟨ad2, e2, hy0, hy1⟩ := at_T98 HI2.out j q2 q1
                        subst e2
                        have HY1 := Ak hy1
                        have hy0 := pw_cell_below HP.out.low hy0
                        replace q1 := eq_true q1
                        replace q2 := eq_true q2
                        clear hy1
                        generalize hzz : rd_T98 x.f2 j = a at *
                        clear hzz
                        go_wp2_with (first | (go_at_call 74; (with_reducible refine (spec_l7Find.calls k2 An cn ns a.f0 q _ (Kd.R_reads' HP.out.names).2.2 (Kd.R_reads' HP.out.names).2.1 HQ.out).mono ?_); rintro e wfE ⟨rfl, ⟨ndE, rfl⟩⟩; have HPfE := Ak (HP.out.below (pw_below_drewN (Below.refl _ _) ndE))) | (go_at_call 72; (with_reducible refine (spec_PutNum.calls k2 q tE _ HAE.out).mono ?_); rintro e waE ⟨vtE, rfl, hr, hb⟩; obtain ⟨AtE, ctE, rfl⟩ := Kd.R_slice hr; have HPaE := Ak (HPfE.out.below hb); have HTE := Ak (Kd.R_reads' hr); clear hr hb) | ((with_reducible refine gate_builtin (b := .append) (xs := #[.tmp 103, .tmp 112]) rfl ?_); at_builtin; refine Kd.R_append_rows (Kd.int .u8) (w0 := w) w.heap.size rfl (.tmp 103) (.tmp 112) 52 5 (.int .u8 0) 1 rfl Try.underlying52 info5 rfl (by decide) (by omega) u6 o tE _ _ _ (fun k_ => m ≤ k_) (fun _ => False) rfl rfl HPaE.out.row HTE.out.2.2 (fun _ _ h => h) (fun _ h => h.elim) (fun k_ hk => Nat.le_trans HPaE.out.hm hk) HPaE.out.low (below_size HPaE.out.low) ?aL ?_; (case aL => have := HLE.out; omega); intro vE wE ho hb hg hat; have HPE := Ak (HPaE.out.grown ho hb hg); have hnE2 := blk_cell HPE.out.bn 2; have hy1 := pw_cell_below HPE.out.low HY1.out; clear ho hb hg hat) | (go_at_call 73; (with_reducible refine (spec_PutText.calls k2 a.f1 tF _ HAF.out).mono ?_); rintro e waF ⟨vtF, rfl, hr, hb⟩; obtain ⟨AtF, ctF, rfl⟩ := Kd.R_slice hr; have HPaF := Ak (HPE.out.below hb); have HTF := Ak (Kd.R_reads' hr); clear hr hb) | ((with_reducible refine gate_builtin (b := .append) (xs := #[.tmp 114, .tmp 121]) rfl ?_); at_builtin; refine Kd.R_append_rows (Kd.int .u8) (w0 := w) w.heap.size rfl (.tmp 114) (.tmp 121) 52 5 (.int .u8 0) 1 rfl Try.underlying52 info5 rfl (by decide) (by omega) vE (o ++ tE) tF _ _ _ (fun k_ => m ≤ k_) (fun _ => False) rfl rfl HPaF.out.row HTF.out.2.2 (fun _ _ h => h) (fun _ h => h.elim) (fun k_ hk => Nat.le_trans HPaF.out.hm hk) HPaF.out.low (below_size HPaF.out.low) ?aL ?_; (case aL => have := HLF.out; omega); intro vF wF ho hb hg hat; have HPF := Ak (HPaF.out.grown ho hb hg); clear ho hb hg hat))
                        go_roundg k2
                        case measure => have := HJ.out; omega
                        case rel => exact ⟨_, _, rfl, HAN, ⟨by have := HJ.out; omega⟩, HPF⟩
                       ·rw [if_neg c3] at A2; cases A2
                      ·rw [if_neg c3] at A2; cases A2
                     ·rw [if_neg q2] at H; cases H
                    ·rw [if_neg q1] at H
                     obtain rfl := Oi H
                     clear H
                     have q1b : decide (j < (x.f2.length : Int)) = false := decide_eq_false q1
                     clear q1
                     go_wp2
                     go_roundg k1
                     case measure => have := HK.out; omega
                     case rel => exact ⟨_, _, rfl, HA, ⟨by have := HK.out; omega⟩, ⟨HP.out.pk⟩⟩
                 ·rw [if_neg c3] at A2; cases A2
                ·rw [if_neg c3] at A2; cases A2
               ·by_cases e4 : x.f0 = 4
                ·skip
                 have e4b : (x.f0 == 4) = true := beq_iff_eq.2 e4
                 skip
                 rw [if_neg e2, if_neg e3, if_pos (.inl e4)] at H
                 have e2b : (x.f0 == 2) = false := beq_eq_false_iff_ne.2 e2
                 have e3b : (x.f0 == 3) = false := beq_eq_false_iff_ne.2 e3
                 have hn3 := blk_cell HPB.out.bn 3
                 clear e2 e3
                 clear e4
                 unfold spec_TreePack.txt at H
                 obtain ⟨tC, A3, A2⟩ := Ob H
                 clear H
                 unfold spec_TreePack.app at A2
                 by_cases c3 : oB.length + tC.length < 140737488355328
                 ·rw [if_pos c3] at A2
                  obtain rfl := Oi A2
                  have HLC := Ak c3
                  have HAC := Ak A3
                  clear c3 A2 A3
                  go_wp2_with (first | (go_at_call 73; (with_reducible refine (spec_PutText.calls k1 x.f3 tC _ HAC.out).mono ?_); rintro e waC ⟨vtC, rfl, hr, hb⟩; obtain ⟨AtC, ctC, rfl⟩ := Kd.R_slice hr; have HPaC := Ak (HPB.out.below hb); have HTC := Ak (Kd.R_reads' hr); clear hr hb) | ((with_reducible refine gate_builtin (b := .append) (xs := #[.tmp 126, .tmp 129]) rfl ?_); at_builtin; refine Kd.R_append_rows (Kd.int .u8) (w0 := w) w.heap.size rfl (.tmp 126) (.tmp 129) 52 5 (.int .u8 0) 1 rfl Try.underlying52 info5 rfl (by decide) (by omega) vB oB tC _ _ _ (fun k_ => m ≤ k_) (fun _ => False) rfl rfl HPaC.out.row HTC.out.2.2 (fun _ _ h => h) (fun _ h => h.elim) (fun k_ hk => Nat.le_trans HPaC.out.hm hk) HPaC.out.low (below_size HPaC.out.low) ?aL ?_; (case aL => have := HLC.out; omega); intro vC wC ho hb hg hat; have HPC := Ak (HPaC.out.grown ho hb hg); clear ho hb hg hat))
                  go_roundg k1
                  case measure => have := HK.out; omega
                  case rel => exact ⟨_, _, rfl, HA, ⟨by have := HK.out; omega⟩, ⟨HPC.out.pk⟩⟩
                 ·rw [if_neg c3] at A2; cases A2
                ·by_cases e5 : x.f0 = 5
                 ·skip
                  have e4b : (x.f0 == 4) = false := beq_eq_false_iff_ne.2 e4
                  have e5b : (x.f0 == 5) = true := beq_iff_eq.2 e5
                  rw [if_neg e2, if_neg e3, if_pos (.inr e5)] at H
                  have e2b : (x.f0 == 2) = false := beq_eq_false_iff_ne.2 e2
                  have e3b : (x.f0 == 3) = false := beq_eq_false_iff_ne.2 e3
                  have hn3 := blk_cell HPB.out.bn 3
                  clear e2 e3
                  clear e4 e5
                  unfold spec_TreePack.txt at H
                  obtain ⟨tC, A3, A2⟩ := Ob H
                  clear H
                  unfold spec_TreePack.app at A2
                  by_cases c3 : oB.length + tC.length < 140737488355328
                  ·rw [if_pos c3] at A2
                   obtain rfl := Oi A2
                   have HLC := Ak c3
                   have HAC := Ak A3
                   clear c3 A2 A3
                   go_wp2_with (first | (go_at_call 73; (with_reducible refine (spec_PutText.calls k1 x.f3 tC _ HAC.out).mono ?_); rintro e waC ⟨vtC, rfl, hr, hb⟩; obtain ⟨AtC, ctC, rfl⟩ := Kd.R_slice hr; have HPaC := Ak (HPB.out.below hb); have HTC := Ak (Kd.R_reads' hr); clear hr hb) | ((with_reducible refine gate_builtin (b := .append) (xs := #[.tmp 126, .tmp 129]) rfl ?_); at_builtin; refine Kd.R_append_rows (Kd.int .u8) (w0 := w) w.heap.size rfl (.tmp 126) (.tmp 129) 52 5 (.int .u8 0) 1 rfl Try.underlying52 info5 rfl (by decide) (by omega) vB oB tC _ _ _ (fun k_ => m ≤ k_) (fun _ => False) rfl rfl HPaC.out.row HTC.out.2.2 (fun _ _ h => h) (fun _ h => h.elim) (fun k_ hk => Nat.le_trans HPaC.out.hm hk) HPaC.out.low (below_size HPaC.out.low) ?aL ?_; (case aL => have := HLC.out; omega); intro vC wC ho hb hg hat; have HPC := Ak (HPaC.out.grown ho hb hg); clear ho hb hg hat))
                   go_roundg k1
                   case measure => have := HK.out; omega
                   case rel => exact ⟨_, _, rfl, HA, ⟨by have := HK.out; omega⟩, ⟨HPC.out.pk⟩⟩
                  ·rw [if_neg c3] at A2; cases A2
                 ·skip
                  rw [if_neg e2, if_neg e3, if_neg (fun e => e.elim e4 e5)] at H
                  have e2b : (x.f0 == 2) = false := beq_eq_false_iff_ne.2 e2
                  have e3b : (x.f0 == 3) = false := beq_eq_false_iff_ne.2 e3
                  have e4b : (x.f0 == 4) = false := beq_eq_false_iff_ne.2 e4
                  have e5b : (x.f0 == 5) = false := beq_eq_false_iff_ne.2 e5
                  obtain rfl := Oi H
                  clear e2 e3 e4 e5 H
                  go_wp2
                  go_roundg k1
                  case measure => have := HK.out; omega
                  case rel => exact ⟨_, _, rfl, HA, ⟨by have := HK.out; omega⟩, ⟨HPB.out.pk⟩⟩
             ·rw [if_neg c3] at A2; cases A2
            ·rw [if_neg c3] at A2; cases A2
           ·rw [if_neg c2] at H; cases H
          ·rw [if_neg c1] at H
           have c1b : decide (i < (xs.length : Int)) = false := decide_eq_false c1
           clear c1
           have H := (show spec_TreePack.fin o = some (r1, r2) from H)
           unfold spec_TreePack.fin at H
           by_cases c4 : 20000 < (o.length : Int)
           ·rw [if_pos c4] at H
            injection H with H
            injection H with e1 e2
            subst e1 e2
            have c4b : decide (20000 < (o.length : Int)) = true := decide_eq_true c4
            clear c4
            obtain ⟨Ao, co, rfl⟩ := Kd.R_slice HP.out.row
            go_wp2
            refine bodyPost_ret (results_list (rs := [.tmp 2, .tmp 3]) rfl (by simp) (.tmp (.tmp .nil))) rfl ?_
            exact ⟨_, rfl, Kd.R_mono HP.out.t.rz (fun _ _ => trivial), HP.out.low⟩
           ·rw [if_neg c4] at H
            injection H with H
            injection H with e1 e2
            subst e1 e2
            have c4b : decide (20000 < (o.length : Int)) = false := decide_eq_false c4
            clear c4
            obtain ⟨Ao, co, rfl⟩ := Kd.R_slice HP.out.row
            go_wp2
            refine bodyPost_ret (results_list (rs := [.tmp 2, .tmp 3]) rfl (by simp) (.tmp (.tmp .nil))) rfl ?_
            exact ⟨_, rfl, Kd.R_mono HP.out.row (fun _ _ => trivial), HP.out.low⟩
       ·rw [if_neg c3] at A2; cases A2
def impl_inRange.f (a0 : Int) (a1 : Int) (a2 : Int) : Option (Bool) := if a0 ≥ a1 then (some (decide (a0 ≤ a2))) else (some false)
theorem impl_inRange.calls (a0 : Int) (a1 : Int) (a2 : Int) (r : Bool) (w : World) (h : impl_inRange.f a0 a1 a2 = some r) :
 Calls Try.prog 40 #[.int .i64 a0, .int .i64 a1, .int .i64 a2] w fun e w' => e = .returned (.bool r) ∧ Drawn0 w w' := by
 have H : (if a0 ≥ a1 then (some (decide (a0 ≤ a2))) else (some false)) = some r := h
 clear h
 by_cases c4 : a0 ≥ a1
 ·rw [if_pos c4] at H
  have c4b0 : decide (a1 ≤ a0) = true := decide_eq_true c4
  clear c4
  obtain rfl := Oi H
  go_enter Try.func40, Try.ntmps40
  go_wp2
  go_ret
  exact ⟨rfl, by repeat (first | exact Drawn0.refl _ | apply Drawn0.step)⟩
 ·rw [if_neg c4] at H
  have c4b0 : decide (a1 ≤ a0) = false := decide_eq_false c4
  clear c4
  obtain rfl := Oi H
  go_enter Try.func40, Try.ntmps40
  go_wp2
  go_ret
  exact ⟨rfl, by repeat (first | exact Drawn0.refl _ | apply Drawn0.step)⟩
def impl_Node_mayHold.f (a0_0 : Int) (a0_1 : ByteArray) (l0_2 : List (S98)) (a0_3 : ByteArray) (a0_4 : Int) (l0_5 : List Int) : Option (Bool) := if a0_0 = 1 then (some true) else (some (a0_0 == 3))
theorem impl_Node_mayHold.calls (a0_0 : Int) (a0_1 : ByteArray) (A0_2 : Option Addr) (c0_2 : Nat) (l0_2 : List (S98)) (a0_3 : ByteArray) (a0_4 : Int) (A0_5 : Option Addr) (c0_5 : Nat) (l0_5 : List Int) (r : Bool) (w : World) (hr0_2 : Kd.C k98 w A0_2 l0_2.length l0_2) (hc0_2 : l0_2.length ≤ c0_2) (hr0_5 : Kd.C (Kd.int .i64) w A0_5 l0_5.length l0_5) (hc0_5 : l0_5.length ≤ c0_5) (h : impl_Node_mayHold.f a0_0 a0_1 l0_2 a0_3 a0_4 l0_5 = some r) :
 Calls Try.prog 82 #[.agg #[.int .i64 a0_0, .string a0_1, .slice A0_2 l0_2.length c0_2, .string a0_3, .int .i64 a0_4, .slice A0_5 l0_5.length c0_5]] w fun e w' => e = .returned (.bool r) ∧ Below w.heap.size w w' := by
 have hu45 := Try.underlying45
 have HR0_2 := Ak hr0_2
 have HC0_2 := Ak hc0_2
 clear hr0_2 hc0_2
 have HR0_5 := Ak hr0_5
 have HC0_5 := Ak hc0_5
 clear hr0_5 hc0_5
 have HB := Ak (Below.refl w.heap.size w)
 have H : (if a0_0 = 1 then (some true) else (some (a0_0 == 3))) = some r := h
 clear h
 by_cases c2 : a0_0 = 1
 ·rw [if_pos c2] at H
  have c2b0 := beq_iff_eq.mpr c2
  have c2b1 := bne_eq_false_iff_eq.mpr c2
  clear c2
  obtain rfl := Oi H
  go_enter Try.func82, Try.ntmps82
  go_wp2_with (first | ((with_reducible refine gate_dst (N := 1) rfl ?_); refine box_event ?hg (N := 1) ?hd (cs := #[.int .i64 a0_0, .string a0_1, .slice A0_2 l0_2.length c0_2, .string a0_3, .int .i64 a0_4, .slice A0_5 l0_5.length c0_5]) (t := 45) ?hr ?_; (case hd => rfl); (case hg => rfl); (case hr => go_simp); intro gb101 hg w3 hbox hb; have n0_ := Ak (below_step (HB.out) hb); have n1_ := Ak (hbox); have n2_ := Ak ((by rw [hg]; exact (below_size (HB.out)) : w.heap.size ≤ gb101)); have n3_ := n2_; clear HB; have HB := n0_; have BK101 := n1_; have GW101 := n2_; have GE101 := n3_; clear n0_ n1_ n2_ n3_; clear hb hbox hg; have hcz4_0 := blk_cell BK101.out 0; have hcz4_1 := blk_cell BK101.out 1; have hcz4_2 := blk_cell BK101.out 2; have hcz4_3 := blk_cell BK101.out 3; have hcz4_4 := blk_cell BK101.out 4; have hcz4_5 := blk_cell BK101.out 5; have hfz4_0 := blk_frozen BK101.out 0; have hfz4_1 := blk_frozen BK101.out 1; have hfz4_2 := blk_frozen BK101.out 2; have hfz4_3 := blk_frozen BK101.out 3; have hfz4_4 := blk_frozen BK101.out 4; have hfz4_5 := blk_frozen BK101.out 5))
  go_ret
  exact ⟨rfl, HB.out⟩
 ·rw [if_neg c2] at H
  have c2b0 := beq_eq_false_iff_ne.mpr c2
  have c2b1 := bne_iff_ne.mpr c2
  obtain rfl := Oi H
  go_enter Try.func82, Try.ntmps82
  go_wp2_with (first | ((with_reducible refine gate_dst (N := 1) rfl ?_); refine box_event ?hg (N := 1) ?hd (cs := #[.int .i64 a0_0, .string a0_1, .slice A0_2 l0_2.length c0_2, .string a0_3, .int .i64 a0_4, .slice A0_5 l0_5.length c0_5]) (t := 45) ?hr ?_; (case hd => rfl); (case hg => rfl); (case hr => go_simp); intro gb101 hg w5 hbox hb; have n0_ := Ak (below_step (HB.out) hb); have n1_ := Ak (hbox); have n2_ := Ak ((by rw [hg]; exact (below_size (HB.out)) : w.heap.size ≤ gb101)); have n3_ := n2_; clear HB; have HB := n0_; have BK101 := n1_; have GW101 := n2_; have GE101 := n3_; clear n0_ n1_ n2_ n3_; clear hb hbox hg; have hcz6_0 := blk_cell BK101.out 0; have hcz6_1 := blk_cell BK101.out 1; have hcz6_2 := blk_cell BK101.out 2; have hcz6_3 := blk_cell BK101.out 3; have hcz6_4 := blk_cell BK101.out 4; have hcz6_5 := blk_cell BK101.out 5; have hfz6_0 := blk_frozen BK101.out 0; have hfz6_1 := blk_frozen BK101.out 1; have hfz6_2 := blk_frozen BK101.out 2; have hfz6_3 := blk_frozen BK101.out 3; have hfz6_4 := blk_frozen BK101.out 4; have hfz6_5 := blk_frozen BK101.out 5))
  go_ret
  exact ⟨rfl, HB.out⟩
def bytes_Equal.f (l0 : List Int) (l1 : List Int) : Option (Bool) := some ((strOfNums l0).toList == (strOfNums l1).toList)
theorem bytes_Equal.calls (A0 : Option Addr) (c0 : Nat) (l0 : List Int) (A1 : Option Addr) (c1 : Nat) (l1 : List Int) (r : Bool) (w : World) (hr0 : Kd.C (Kd.int .u8) w A0 l0.length l0) (hc0 : l0.length ≤ c0) (hr1 : Kd.C (Kd.int .u8) w A1 l1.length l1) (hc1 : l1.length ≤ c1) (h : bytes_Equal.f l0 l1 = some r) :
 Calls Try.prog 129 #[.slice A0 l0.length c0, .slice A1 l1.length c1] w fun e w' => e = .returned (.bool r) ∧ Drawn0 w w' := by
 have HR0 := Ak hr0
 have HC0 := Ak hc0
 clear hr0 hc0
 have HR1 := Ak hr1
 have HC1 := Ak hc1
 clear hr1 hc1
 have H : (some ((strOfNums l0).toList == (strOfNums l1).toList)) = some r := h
 clear h
 obtain rfl := Oi H
 have hcv3 := Kd.C_string (P := Try.prog) (A := A0) (c := c0) Try.underlying52 Try.underlying5 Try.underlying9 HR0.out
 have hcvn3 := fun n_ => Kd.C_string (P := Try.prog) (A := A0) (c := c0) Try.underlying52 Try.underlying5 Try.underlying9 (Kd.C_drewN (HR0.out) n_)
 have hcv4 := Kd.C_string (P := Try.prog) (A := A1) (c := c1) Try.underlying52 Try.underlying5 Try.underlying9 HR1.out
 have hcvn4 := fun n_ => Kd.C_string (P := Try.prog) (A := A1) (c := c1) Try.underlying52 Try.underlying5 Try.underlying9 (Kd.C_drewN (HR1.out) n_)
 go_enter Try.func129, Try.ntmps129
 go_wp2
 go_ret
 exact ⟨rfl, by repeat (first | exact Drawn0.refl _ | apply Drawn0.step)⟩
def impl_PointOk.f (a0 : Int) : Option (Bool) := (impl_inRange.f a0 0 1114111).bind fun t101 => (if t101 = true then ((impl_inRange.f a0 55296 57343).bind fun t102 => (some (!t102))) else (some false))
theorem impl_PointOk.calls (a0 : Int) (r : Bool) (w : World) (h : impl_PointOk.f a0 = some r) :
 Calls Try.prog 146 #[.int .i64 a0] w fun e w' => e = .returned (.bool r) ∧ Drawn0 w w' := by
 have H : ((impl_inRange.f a0 0 1114111).bind fun t101 => (if t101 = true then ((impl_inRange.f a0 55296 57343).bind fun t102 => (some (!t102))) else (some false))) = some r := h
 clear h
 replace H := Ob H
 obtain ⟨t101, A20, H⟩ := H
 replace H : (if t101 = true then ((impl_inRange.f a0 55296 57343).bind fun t102 => (some (!t102))) else (some false)) = some r := H
 have A2 := Ak A20
 clear A20
 by_cases c3 : t101 = true
 ·subst c3
  rw [if_pos rfl] at H
  replace H := Ob H
  obtain ⟨t102, A40, H⟩ := H
  replace H : (some (!t102)) = some r := H
  have A4 := Ak A40
  clear A40
  obtain rfl := Oi H
  go_enter Try.func146, Try.ntmps146
  go_wp2_with (first | (go_at_call 40; (with_reducible refine (impl_inRange.calls a0 0 1114111 true _ A2.out).mono ?_); rintro e w' ⟨rfl, ⟨nd, rfl⟩⟩) | (go_at_call 40; (with_reducible refine (impl_inRange.calls a0 55296 57343 t102 _ A4.out).mono ?_); rintro e w' ⟨rfl, ⟨nd, rfl⟩⟩))
  go_ret
  exact ⟨rfl, by repeat (first | exact Drawn0.refl _ | apply Drawn0.step)⟩
 ·replace c3 := Bool.eq_false_iff.mpr c3
  subst c3
  rw [if_neg (show ¬ (false = true) by decide)] at H
  obtain rfl := Oi H
  go_enter Try.func146, Try.ntmps146
  go_wp2_with (first | (go_at_call 40; (with_reducible refine (impl_inRange.calls a0 0 1114111 false _ A2.out).mono ?_); rintro e w' ⟨rfl, ⟨nd, rfl⟩⟩))
  go_ret
  exact ⟨rfl, by repeat (first | exact Drawn0.refl _ | apply Drawn0.step)⟩
def impl_putPoint.f : Nat → List Int → Int → Option (List Int)
 | 0, _, _ => none
 | k + 1, l0, a1 => (impl_PointOk.f a1).bind fun t101 => (if t101 = true then (if a1 < 128 then (if l0.length < 140737488355328 then (some (l0 ++ [(a1) % 256])) else (none)) else (if a1 < 2048 then ((some (([(Go.bits .or .i64 192 (a1 / 64)) % 256, (Go.bits .or .i64 128 (Go.bits .and .i64 a1 63)) % 256] : List Int) : List Int)).bind fun y105 => (if l0.length + y105.length < 140737488355328 then (some (l0 ++ y105)) else (none))) else (if a1 < 65536 then ((some (([(Go.bits .or .i64 224 (a1 / 4096)) % 256, (Go.bits .or .i64 128 (Go.bits .and .i64 (a1 / 64) 63)) % 256, (Go.bits .or .i64 128 (Go.bits .and .i64 a1 63)) % 256] : List Int) : List Int)).bind fun y111 => (if l0.length + y111.length < 140737488355328 then (some (l0 ++ y111)) else (none))) else ((some (([(Go.bits .or .i64 240 (a1 / 262144)) % 256, (Go.bits .or .i64 128 (Go.bits .and .i64 (a1 / 4096) 63)) % 256, (Go.bits .or .i64 128 (Go.bits .and .i64 (a1 / 64) 63)) % 256, (Go.bits .or .i64 128 (Go.bits .and .i64 a1 63)) % 256] : List Int) : List Int)).bind fun y117 => (if l0.length + y117.length < 140737488355328 then (some (l0 ++ y117)) else (none)))))) else ((impl_putPoint.f k l0 65533).bind fun t123 => (some t123)))
theorem impl_putPoint.mono_l : ∀ k, (∀ y0 y1, LeO (impl_putPoint.f k y0 y1) (impl_putPoint.f (k + 1) y0 y1))
 | 0 => fun _ _ r h => by simp [impl_putPoint.f] at h
 | k + 1 => by
  have ih0 := impl_putPoint.mono_l k
  ·intro y0 y1
   unfold impl_putPoint.f
   repeat' (with_reducible first | exact ih0 _ _ | exact LeO.refl _ | exact LeO.none _ | refine LeO.ite ?_ ?_ | refine LeO.bind ?_ (fun _ => ?_))
theorem impl_putPoint.mono : ∀ a0 a1 k, LeO (impl_putPoint.f k a0 a1) (impl_putPoint.f (k + 1) a0 a1) := by
 intro a0 a1 k
 have ih0 := impl_putPoint.mono_l k
 exact ih0 a0 a1
theorem impl_putPoint.calls (k : Nat) : ∀ (P0_ : Nat → Prop) (u9000_ : Value) (l0 : List Int) (a1 : Int) (r : List Int) (w0 w : World) (hB : Below w0.heap.size w0 w) (ho0 : Kd.R (Kd.int .u8) 5 w w0.heap.size P0_ u9000_ l0) (h : impl_putPoint.f k l0 a1 = some r),
 Calls Try.prog 139 #[u9000_, .int .i64 a1] w fun e w' => ∃ v0_ : Value, e = .returned (v0_) ∧ Kd.R (Kd.int .u8) 5 w' w0.heap.size (fun k_ => (P0_ k_ ∨ w.heap.size ≤ k_)) v0_ r ∧ Below w0.heap.size w0 w' ∧ Kept w w' (fun k_ => P0_ k_) := by
 induction k using Nat.strongRecOn with
 | _ k ih =>
 intro P0_ u9000_ l0 a1 r w0 w hB ho0 h
 cases k with
 | zero => exact absurd h (by simp [impl_putPoint.f])
 | succ k =>
 simp only [impl_putPoint.f] at h
 have HO0 := Ak (show Kd.R (Kd.int .u8) 5 w w0.heap.size (fun k_ => (P0_ k_ ∨ w.heap.size ≤ k_)) u9000_ l0 from Kd.R_mono ho0 (fun k_ hk => (.inl hk)))
 have HK := Ak (Kept.refl w (fun k_ => P0_ k_))
 have HW0 := Ak hB.size
 have HB := Ak hB
 clear hB
 have H : ((impl_PointOk.f a1).bind fun t101 => (if t101 = true then (if a1 < 128 then (if l0.length < 140737488355328 then (some (l0 ++ [(a1) % 256])) else (none)) else (if a1 < 2048 then ((some (([(Go.bits .or .i64 192 (a1 / 64)) % 256, (Go.bits .or .i64 128 (Go.bits .and .i64 a1 63)) % 256] : List Int) : List Int)).bind fun y105 => (if l0.length + y105.length < 140737488355328 then (some (l0 ++ y105)) else (none))) else (if a1 < 65536 then ((some (([(Go.bits .or .i64 224 (a1 / 4096)) % 256, (Go.bits .or .i64 128 (Go.bits .and .i64 (a1 / 64) 63)) % 256, (Go.bits .or .i64 128 (Go.bits .and .i64 a1 63)) % 256] : List Int) : List Int)).bind fun y111 => (if l0.length + y111.length < 140737488355328 then (some (l0 ++ y111)) else (none))) else ((some (([(Go.bits .or .i64 240 (a1 / 262144)) % 256, (Go.bits .or .i64 128 (Go.bits .and .i64 (a1 / 4096) 63)) % 256, (Go.bits .or .i64 128 (Go.bits .and .i64 (a1 / 64) 63)) % 256, (Go.bits .or .i64 128 (Go.bits .and .i64 a1 63)) % 256] : List Int) : List Int)).bind fun y117 => (if l0.length + y117.length < 140737488355328 then (some (l0 ++ y117)) else (none)))))) else ((impl_putPoint.f k l0 65533).bind fun t123 => (some t123)))) = some r := h
 clear h
 replace H := Ob H
 obtain ⟨t101, A30, H⟩ := H
 replace H : (if t101 = true then (if a1 < 128 then (if l0.length < 140737488355328 then (some (l0 ++ [(a1) % 256])) else (none)) else (if a1 < 2048 then ((some (([(Go.bits .or .i64 192 (a1 / 64)) % 256, (Go.bits .or .i64 128 (Go.bits .and .i64 a1 63)) % 256] : List Int) : List Int)).bind fun y105 => (if l0.length + y105.length < 140737488355328 then (some (l0 ++ y105)) else (none))) else (if a1 < 65536 then ((some (([(Go.bits .or .i64 224 (a1 / 4096)) % 256, (Go.bits .or .i64 128 (Go.bits .and .i64 (a1 / 64) 63)) % 256, (Go.bits .or .i64 128 (Go.bits .and .i64 a1 63)) % 256] : List Int) : List Int)).bind fun y111 => (if l0.length + y111.length < 140737488355328 then (some (l0 ++ y111)) else (none))) else ((some (([(Go.bits .or .i64 240 (a1 / 262144)) % 256, (Go.bits .or .i64 128 (Go.bits .and .i64 (a1 / 4096) 63)) % 256, (Go.bits .or .i64 128 (Go.bits .and .i64 (a1 / 64) 63)) % 256, (Go.bits .or .i64 128 (Go.bits .and .i64 a1 63)) % 256] : List Int) : List Int)).bind fun y117 => (if l0.length + y117.length < 140737488355328 then (some (l0 ++ y117)) else (none)))))) else ((impl_putPoint.f k l0 65533).bind fun t123 => (some t123))) = some r := H
 have A3 := Ak A30
 clear A30
 by_cases c4 : t101 = true
 ·subst c4
  rw [if_pos rfl] at H
  by_cases c5 : a1 < 128
  ·rw [if_pos c5] at H
   have c5b0 := decide_eq_true c5
   clear c5
   by_cases c6 : l0.length < 140737488355328
   ·rw [if_pos c6] at H
    have LMc6 := Ak c6
    clear c6
    obtain ⟨y102, hy102⟩ : ∃ y_ : List Int, y_ = (l0 ++ [(a1) % 256]) := ⟨_, rfl⟩
    replace H : (some y102) = some r := by rw [hy102]; exact H
    have Ny102 := Ak hy102
    clear hy102
    obtain rfl := Oi H
    go_enter Try.func139, Try.ntmps139
    go_wp2_with (first | (go_at_call 146; (with_reducible refine (impl_PointOk.calls a1 true _ A3.out).mono ?_); rintro e w' ⟨rfl, ⟨nd, rfl⟩⟩) | ((with_reducible refine gate_builtin (b := .append) (xs := #[.tmp 14, .tmp 17]) rfl ?_); at_builtin; refine Kd.R_append (Kd.int .u8) (w0 := w0) w0.heap.size rfl (.tmp 14) (.tmp 17) 52 5 (.int .u8 0) 1 rfl Try.underlying52 info5 rfl (by decide) (by omega) u9000_ l0 ((a1) % 256) [.int .u8 ((a1) % 256)] (fun k_ => (P0_ k_ ∨ w.heap.size ≤ k_)) (fun _ => False) rfl rfl ?aP (fun _ hk => hk.elim) ?aF ?aO ?aB ?aS ?aL ?_; (case aP => exact rfl); (case aB => exact (by repeat (first | exact HB.out | apply below_alloc | apply pw_below_drewN | apply below_drew1))); (case aF => exact (fun k_ hk => (.inr (Nat.le_trans (by first | exact HK.out.1 | exact (show Kept w _ (fun k_ => P0_ k_) from by repeat (first | exact HK.out | apply Kept.alloc | apply Kept.drewN | apply Kept.drew)).1) hk)))); (case aO => exact (by (with_reducible repeat (first | apply Kd.R_alloc | apply Kd.R_drewN | apply Kd.R_drew)); exact HO0.out)); (case aS => exact (below_size (by repeat (first | exact HB.out | apply below_alloc | apply pw_below_drewN | apply below_drew1)))); (case aL => have := LMc6.out; omega); intro v103 w7 ho hb hg hat; rw [← Ny102.out] at ho; have n0_ := Ak (hb); have n1_ := Ak (Kept.of_grown (S := (fun k_ => P0_ k_)) hg (by repeat (first | exact HK.out | apply Kept.alloc | apply Kept.drewN | apply Kept.drew)) (fun k_ e_ => (HO0.out.1 k_ e_))); have n2_ := Ak (ho); clear HB; clear HK; clear HO0; have HB := n0_; have HK := n1_; have HO104 := n2_; clear n0_ n1_ n2_; clear ho hb hg hat))
    go_ret
    exact ⟨_, rfl, by (with_reducible repeat (first | apply Kd.R_alloc | apply Kd.R_drewN | apply Kd.R_drew)); exact HO104.out, by repeat (first | exact HB.out | apply below_alloc | apply pw_below_drewN | apply below_drew1), by repeat (first | exact HK.out | apply Kept.alloc | apply Kept.drewN | apply Kept.drew)⟩
   ·rw [if_neg c6] at H
    exact absurd H (by simp)
  ·rw [if_neg c5] at H
   have c5b0 := decide_eq_false c5
   clear c5
   by_cases c8 : a1 < 2048
   ·rw [if_pos c8] at H
    have c8b0 := decide_eq_true c8
    clear c8
    obtain ⟨y105, hy105⟩ : ∃ y_ : List Int, y_ = (([(Go.bits .or .i64 192 (a1 / 64)) % 256, (Go.bits .or .i64 128 (Go.bits .and .i64 a1 63)) % 256] : List Int)) := ⟨_, rfl⟩
    replace H : (if l0.length + y105.length < 140737488355328 then (some (l0 ++ y105)) else (none)) = some r := by rw [hy105]; exact H
    have Ny105 := Ak hy105
    clear hy105
    by_cases c9 : l0.length + y105.length < 140737488355328
    ·rw [if_pos c9] at H
     have LMc9 := Ak c9
     clear c9
     obtain ⟨y108, hy108⟩ : ∃ y_ : List Int, y_ = (l0 ++ y105) := ⟨_, rfl⟩
     replace H : (some y108) = some r := by rw [hy108]; exact H
     have Ny108 := Ak hy108
     clear hy108
     obtain rfl := Oi H
     go_enter Try.func139, Try.ntmps139
     go_wp2_with (first | (go_at_call 146; (with_reducible refine (impl_PointOk.calls a1 true _ A3.out).mono ?_); rintro e w' ⟨rfl, ⟨nd, rfl⟩⟩) | ((with_reducible refine gate_dst (N := 31) rfl ?_); refine Kd.R_lit (Kd.int .u8) _ 5 ?hg (N := 31) ?hd (xs := ([(Go.bits .or .i64 192 (a1 / 64)) % 256, (Go.bits .or .i64 128 (Go.bits .and .i64 a1 63)) % 256] : List Int)) (inner := [.int .u8 ((Go.bits .or .i64 192 (a1 / 64)) % 256), .int .u8 ((Go.bits .or .i64 128 (Go.bits .and .i64 a1 63)) % 256)]) (ok := fun _ => True) (okp := fun _ => True) ?hr ?hp (fun _ hk => hk) trivial (Below.refl _ _) (Nat.le_refl _) (by simp) ?_; (case hd => rfl); (case hg => rfl); (case hr => go_simp); (case hp => exact (Reps.one (show Kd.M (Kd.int .u8) _ _ _ ((Go.bits .or .i64 192 (a1 / 64)) % 256) [.int .u8 ((Go.bits .or .i64 192 (a1 / 64)) % 256)] from rfl) (Reps.one (show Kd.M (Kd.int .u8) _ _ _ ((Go.bits .or .i64 128 (Go.bits .and .i64 a1 63)) % 256) [.int .u8 ((Go.bits .or .i64 128 (Go.bits .and .i64 a1 63)) % 256)] from rfl) (Reps.none _ _)))); intro v106 w10 ho11 hb hg_ hnew_; clear hg_ hnew_; (first | rw [← Ny105.out] at ho11 | (simp only [Int.reduceToNat] at ho11; rw [← Ny105.out] at ho11)); have n0_ := Ak (Kd.R_elder' (by (with_reducible repeat (first | apply Kd.R_alloc | apply Kd.R_drewN | apply Kd.R_drew)); exact HO0.out) (Kd.R_base ho11) hb); have n1_ := Ak (Kd.R_lower (Kd.R_new' (Kd.R_newM (M := fun k_ => (P0_ k_ ∨ w.heap.size ≤ k_)) ho11 (by first | exact HK.out.1 | exact (show Kept w _ (fun k_ => P0_ k_) from by repeat (first | exact HK.out | apply Kept.alloc | apply Kept.drewN | apply Kept.drew)).1) (fun k_ h_ => .inr h_)) (Kd.R_lt (by (with_reducible repeat (first | apply Kd.R_alloc | apply Kd.R_drewN | apply Kd.R_drew)); exact HO0.out))) (below_size (by repeat (first | exact HB.out | apply below_alloc | apply pw_below_drewN | apply below_drew1)))); have n2_ := Ak (Kept.below (S := (fun k_ => P0_ k_)) (by repeat (first | exact HK.out | apply Kept.alloc | apply Kept.drewN | apply Kept.drew)) hb); have n3_ := Ak (below_step (by repeat (first | exact HB.out | apply below_alloc | apply pw_below_drewN | apply below_drew1)) hb); clear HO0; clear HK; clear HB; have HO0 := n0_; have HO107 := n1_; have HK := n2_; have HB := n3_; clear n0_ n1_ n2_ n3_; clear hb ho11; obtain ⟨Ao13, co13, eo13⟩ := Kd.R_slice HO107.out; subst eo13) | ((with_reducible refine gate_builtin (b := .append) (xs := #[.tmp 22, .tmp 31]) rfl ?_); at_builtin; refine Kd.R_append_rows (Kd.int .u8) (w0 := w0) w0.heap.size rfl (.tmp 22) (.tmp 31) 52 5 (.int .u8 0) 1 rfl Try.underlying52 info5 rfl (by decide) (by omega) u9000_ l0 y105 _ _ _ (fun k_ => (P0_ k_ ∨ w.heap.size ≤ k_) ∧ some k_ ≠ (.slice Ao13 y105.length co13 : Value).ownBlock) (fun _ => False) rfl rfl ?aO ?aR (fun _ _ h => h) (fun _ h => h.elim) ?aF ?aB ?aS ?aL ?_; (case aR => repeat (first | exact (Kd.R_reads' HO107.out).2.2 | (with_reducible refine Kd.C_alloc ?_ _) | (with_reducible refine Kd.C_drewN ?_ _) | (with_reducible refine Kd.C_drew ?_))); (case aB => exact (by repeat (first | exact HB.out | apply below_alloc | apply pw_below_drewN | apply below_drew1))); (case aF => exact (fun k_ hk => ⟨(.inr (Nat.le_trans (by first | exact HK.out.1 | exact (show Kept w _ (fun k_ => P0_ k_) from by repeat (first | exact HK.out | apply Kept.alloc | apply Kept.drewN | apply Kept.drew)).1) hk)), Kd.fresh' (Kd.R_lt (by (with_reducible repeat (first | apply Kd.R_alloc | apply Kd.R_drewN | apply Kd.R_drew)); exact HO107.out)) k_ hk⟩)); (case aO => exact (by (with_reducible repeat (first | apply Kd.R_alloc | apply Kd.R_drewN | apply Kd.R_drew)); exact HO0.out)); (case aS => exact (below_size (by repeat (first | exact HB.out | apply below_alloc | apply pw_below_drewN | apply below_drew1)))); (case aL => have := LMc9.out; omega); intro v109 w12 ho hb hg hat; rw [← Ny108.out] at ho; have n0_ := Ak (Kd.R_after (ok := (fun k_ => (P0_ k_ ∨ w.heap.size ≤ k_))) (by (with_reducible repeat (first | apply Kd.R_alloc | apply Kd.R_drewN | apply Kd.R_drew)); exact Kd.R_mono HO107.out (fun _ hk => ⟨hk.1.1, hk.2⟩)) hg hat); have n1_ := Ak (hb); have n2_ := Ak (Kept.of_grown (S := (fun k_ => P0_ k_)) hg (by repeat (first | exact HK.out | apply Kept.alloc | apply Kept.drewN | apply Kept.drew)) (fun k_ e_ => (HO0.out.1 k_ e_).1)); have n3_ := Ak (ho); clear HO107; clear HB; clear HK; clear HO0; have HO107 := n0_; have HB := n1_; have HK := n2_; have HO110 := n3_; clear n0_ n1_ n2_ n3_; clear ho hb hg hat))
     go_ret
     exact ⟨_, rfl, by (with_reducible repeat (first | apply Kd.R_alloc | apply Kd.R_drewN | apply Kd.R_drew)); exact Kd.R_mono HO110.out (fun _ hk => hk.1), by repeat (first | exact HB.out | apply below_alloc | apply pw_below_drewN | apply below_drew1), by repeat (first | exact HK.out | apply Kept.alloc | apply Kept.drewN | apply Kept.drew)⟩
    ·rw [if_neg c9] at H
     exact absurd H (by simp)
   ·rw [if_neg c8] at H
    have c8b0 := decide_eq_false c8
    clear c8
    by_cases c14 : a1 < 65536
    ·rw [if_pos c14] at H
     have c14b0 := decide_eq_true c14
     clear c14
     obtain ⟨y111, hy111⟩ : ∃ y_ : List Int, y_ = (([(Go.bits .or .i64 224 (a1 / 4096)) % 256, (Go.bits .or .i64 128 (Go.bits .and .i64 (a1 / 64) 63)) % 256, (Go.bits .or .i64 128 (Go.bits .and .i64 a1 63)) % 256] : List Int)) := ⟨_, rfl⟩
     replace H : (if l0.length + y111.length < 140737488355328 then (some (l0 ++ y111)) else (none)) = some r := by rw [hy111]; exact H
     have Ny111 := Ak hy111
     clear hy111
     by_cases c15 : l0.length + y111.length < 140737488355328
     ·rw [if_pos c15] at H
      have LMc15 := Ak c15
      clear c15
      obtain ⟨y114, hy114⟩ : ∃ y_ : List Int, y_ = (l0 ++ y111) := ⟨_, rfl⟩
      replace H : (some y114) = some r := by rw [hy114]; exact H
      have Ny114 := Ak hy114
      clear hy114
      obtain rfl := Oi H
      go_enter Try.func139, Try.ntmps139
      go_wp2_with (first | (go_at_call 146; (with_reducible refine (impl_PointOk.calls a1 true _ A3.out).mono ?_); rintro e w' ⟨rfl, ⟨nd, rfl⟩⟩) | ((with_reducible refine gate_dst (N := 50) rfl ?_); refine Kd.R_lit (Kd.int .u8) _ 5 ?hg (N := 50) ?hd (xs := ([(Go.bits .or .i64 224 (a1 / 4096)) % 256, (Go.bits .or .i64 128 (Go.bits .and .i64 (a1 / 64) 63)) % 256, (Go.bits .or .i64 128 (Go.bits .and .i64 a1 63)) % 256] : List Int)) (inner := [.int .u8 ((Go.bits .or .i64 224 (a1 / 4096)) % 256), .int .u8 ((Go.bits .or .i64 128 (Go.bits .and .i64 (a1 / 64) 63)) % 256), .int .u8 ((Go.bits .or .i64 128 (Go.bits .and .i64 a1 63)) % 256)]) (ok := fun _ => True) (okp := fun _ => True) ?hr ?hp (fun _ hk => hk) trivial (Below.refl _ _) (Nat.le_refl _) (by simp) ?_; (case hd => rfl); (case hg => rfl); (case hr => go_simp); (case hp => exact (Reps.one (show Kd.M (Kd.int .u8) _ _ _ ((Go.bits .or .i64 224 (a1 / 4096)) % 256) [.int .u8 ((Go.bits .or .i64 224 (a1 / 4096)) % 256)] from rfl) (Reps.one (show Kd.M (Kd.int .u8) _ _ _ ((Go.bits .or .i64 128 (Go.bits .and .i64 (a1 / 64) 63)) % 256) [.int .u8 ((Go.bits .or .i64 128 (Go.bits .and .i64 (a1 / 64) 63)) % 256)] from rfl) (Reps.one (show Kd.M (Kd.int .u8) _ _ _ ((Go.bits .or .i64 128 (Go.bits .and .i64 a1 63)) % 256) [.int .u8 ((Go.bits .or .i64 128 (Go.bits .and .i64 a1 63)) % 256)] from rfl) (Reps.none _ _))))); intro v112 w16 ho17 hb hg_ hnew_; clear hg_ hnew_; (first | rw [← Ny111.out] at ho17 | (simp only [Int.reduceToNat] at ho17; rw [← Ny111.out] at ho17)); have n0_ := Ak (Kd.R_elder' (by (with_reducible repeat (first | apply Kd.R_alloc | apply Kd.R_drewN | apply Kd.R_drew)); exact HO0.out) (Kd.R_base ho17) hb); have n1_ := Ak (Kd.R_lower (Kd.R_new' (Kd.R_newM (M := fun k_ => (P0_ k_ ∨ w.heap.size ≤ k_)) ho17 (by first | exact HK.out.1 | exact (show Kept w _ (fun k_ => P0_ k_) from by repeat (first | exact HK.out | apply Kept.alloc | apply Kept.drewN | apply Kept.drew)).1) (fun k_ h_ => .inr h_)) (Kd.R_lt (by (with_reducible repeat (first | apply Kd.R_alloc | apply Kd.R_drewN | apply Kd.R_drew)); exact HO0.out))) (below_size (by repeat (first | exact HB.out | apply below_alloc | apply pw_below_drewN | apply below_drew1)))); have n2_ := Ak (Kept.below (S := (fun k_ => P0_ k_)) (by repeat (first | exact HK.out | apply Kept.alloc | apply Kept.drewN | apply Kept.drew)) hb); have n3_ := Ak (below_step (by repeat (first | exact HB.out | apply below_alloc | apply pw_below_drewN | apply below_drew1)) hb); clear HO0; clear HK; clear HB; have HO0 := n0_; have HO113 := n1_; have HK := n2_; have HB := n3_; clear n0_ n1_ n2_ n3_; clear hb ho17; obtain ⟨Ao19, co19, eo19⟩ := Kd.R_slice HO113.out; subst eo19) | ((with_reducible refine gate_builtin (b := .append) (xs := #[.tmp 36, .tmp 50]) rfl ?_); at_builtin; refine Kd.R_append_rows (Kd.int .u8) (w0 := w0) w0.heap.size rfl (.tmp 36) (.tmp 50) 52 5 (.int .u8 0) 1 rfl Try.underlying52 info5 rfl (by decide) (by omega) u9000_ l0 y111 _ _ _ (fun k_ => (P0_ k_ ∨ w.heap.size ≤ k_) ∧ some k_ ≠ (.slice Ao19 y111.length co19 : Value).ownBlock) (fun _ => False) rfl rfl ?aO ?aR (fun _ _ h => h) (fun _ h => h.elim) ?aF ?aB ?aS ?aL ?_; (case aR => repeat (first | exact (Kd.R_reads' HO113.out).2.2 | (with_reducible refine Kd.C_alloc ?_ _) | (with_reducible refine Kd.C_drewN ?_ _) | (with_reducible refine Kd.C_drew ?_))); (case aB => exact (by repeat (first | exact HB.out | apply below_alloc | apply pw_below_drewN | apply below_drew1))); (case aF => exact (fun k_ hk => ⟨(.inr (Nat.le_trans (by first | exact HK.out.1 | exact (show Kept w _ (fun k_ => P0_ k_) from by repeat (first | exact HK.out | apply Kept.alloc | apply Kept.drewN | apply Kept.drew)).1) hk)), Kd.fresh' (Kd.R_lt (by (with_reducible repeat (first | apply Kd.R_alloc | apply Kd.R_drewN | apply Kd.R_drew)); exact HO113.out)) k_ hk⟩)); (case aO => exact (by (with_reducible repeat (first | apply Kd.R_alloc | apply Kd.R_drewN | apply Kd.R_drew)); exact HO0.out)); (case aS => exact (below_size (by repeat (first | exact HB.out | apply below_alloc | apply pw_below_drewN | apply below_drew1)))); (case aL => have := LMc15.out; omega); intro v115 w18 ho hb hg hat; rw [← Ny114.out] at ho; have n0_ := Ak (Kd.R_after (ok := (fun k_ => (P0_ k_ ∨ w.heap.size ≤ k_))) (by (with_reducible repeat (first | apply Kd.R_alloc | apply Kd.R_drewN | apply Kd.R_drew)); exact Kd.R_mono HO113.out (fun _ hk => ⟨hk.1.1, hk.2⟩)) hg hat); have n1_ := Ak (hb); have n2_ := Ak (Kept.of_grown (S := (fun k_ => P0_ k_)) hg (by repeat (first | exact HK.out | apply Kept.alloc | apply Kept.drewN | apply Kept.drew)) (fun k_ e_ => (HO0.out.1 k_ e_).1)); have n3_ := Ak (ho); clear HO113; clear HB; clear HK; clear HO0; have HO113 := n0_; have HB := n1_; have HK := n2_; have HO116 := n3_; clear n0_ n1_ n2_ n3_; clear ho hb hg hat))
      go_ret
      exact ⟨_, rfl, by (with_reducible repeat (first | apply Kd.R_alloc | apply Kd.R_drewN | apply Kd.R_drew)); exact Kd.R_mono HO116.out (fun _ hk => hk.1), by repeat (first | exact HB.out | apply below_alloc | apply pw_below_drewN | apply below_drew1), by repeat (first | exact HK.out | apply Kept.alloc | apply Kept.drewN | apply Kept.drew)⟩
     ·rw [if_neg c15] at H
      exact absurd H (by simp)
    ·rw [if_neg c14] at H
     have c14b0 := decide_eq_false c14
     clear c14
     obtain ⟨y117, hy117⟩ : ∃ y_ : List Int, y_ = (([(Go.bits .or .i64 240 (a1 / 262144)) % 256, (Go.bits .or .i64 128 (Go.bits .and .i64 (a1 / 4096) 63)) % 256, (Go.bits .or .i64 128 (Go.bits .and .i64 (a1 / 64) 63)) % 256, (Go.bits .or .i64 128 (Go.bits .and .i64 a1 63)) % 256] : List Int)) := ⟨_, rfl⟩
     replace H : (if l0.length + y117.length < 140737488355328 then (some (l0 ++ y117)) else (none)) = some r := by rw [hy117]; exact H
     have Ny117 := Ak hy117
     clear hy117
     by_cases c20 : l0.length + y117.length < 140737488355328
     ·rw [if_pos c20] at H
      have LMc20 := Ak c20
      clear c20
      obtain ⟨y120, hy120⟩ : ∃ y_ : List Int, y_ = (l0 ++ y117) := ⟨_, rfl⟩
      replace H : (some y120) = some r := by rw [hy120]; exact H
      have Ny120 := Ak hy120
      clear hy120
      obtain rfl := Oi H
      go_enter Try.func139, Try.ntmps139
      go_wp2_with (first | (go_at_call 146; (with_reducible refine (impl_PointOk.calls a1 true _ A3.out).mono ?_); rintro e w' ⟨rfl, ⟨nd, rfl⟩⟩) | ((with_reducible refine gate_dst (N := 71) rfl ?_); refine Kd.R_lit (Kd.int .u8) _ 5 ?hg (N := 71) ?hd (xs := ([(Go.bits .or .i64 240 (a1 / 262144)) % 256, (Go.bits .or .i64 128 (Go.bits .and .i64 (a1 / 4096) 63)) % 256, (Go.bits .or .i64 128 (Go.bits .and .i64 (a1 / 64) 63)) % 256, (Go.bits .or .i64 128 (Go.bits .and .i64 a1 63)) % 256] : List Int)) (inner := [.int .u8 ((Go.bits .or .i64 240 (a1 / 262144)) % 256), .int .u8 ((Go.bits .or .i64 128 (Go.bits .and .i64 (a1 / 4096) 63)) % 256), .int .u8 ((Go.bits .or .i64 128 (Go.bits .and .i64 (a1 / 64) 63)) % 256), .int .u8 ((Go.bits .or .i64 128 (Go.bits .and .i64 a1 63)) % 256)]) (ok := fun _ => True) (okp := fun _ => True) ?hr ?hp (fun _ hk => hk) trivial (Below.refl _ _) (Nat.le_refl _) (by simp) ?_; (case hd => rfl); (case hg => rfl); (case hr => go_simp); (case hp => exact (Reps.one (show Kd.M (Kd.int .u8) _ _ _ ((Go.bits .or .i64 240 (a1 / 262144)) % 256) [.int .u8 ((Go.bits .or .i64 240 (a1 / 262144)) % 256)] from rfl) (Reps.one (show Kd.M (Kd.int .u8) _ _ _ ((Go.bits .or .i64 128 (Go.bits .and .i64 (a1 / 4096) 63)) % 256) [.int .u8 ((Go.bits .or .i64 128 (Go.bits .and .i64 (a1 / 4096) 63)) % 256)] from rfl) (Reps.one (show Kd.M (Kd.int .u8) _ _ _ ((Go.bits .or .i64 128 (Go.bits .and .i64 (a1 / 64) 63)) % 256) [.int .u8 ((Go.bits .or .i64 128 (Go.bits .and .i64 (a1 / 64) 63)) % 256)] from rfl) (Reps.one (show Kd.M (Kd.int .u8) _ _ _ ((Go.bits .or .i64 128 (Go.bits .and .i64 a1 63)) % 256) [.int .u8 ((Go.bits .or .i64 128 (Go.bits .and .i64 a1 63)) % 256)] from rfl) (Reps.none _ _)))))); intro v118 w21 ho22 hb hg_ hnew_; clear hg_ hnew_; (first | rw [← Ny117.out] at ho22 | (simp only [Int.reduceToNat] at ho22; rw [← Ny117.out] at ho22)); have n0_ := Ak (Kd.R_elder' (by (with_reducible repeat (first | apply Kd.R_alloc | apply Kd.R_drewN | apply Kd.R_drew)); exact HO0.out) (Kd.R_base ho22) hb); have n1_ := Ak (Kd.R_lower (Kd.R_new' (Kd.R_newM (M := fun k_ => (P0_ k_ ∨ w.heap.size ≤ k_)) ho22 (by first | exact HK.out.1 | exact (show Kept w _ (fun k_ => P0_ k_) from by repeat (first | exact HK.out | apply Kept.alloc | apply Kept.drewN | apply Kept.drew)).1) (fun k_ h_ => .inr h_)) (Kd.R_lt (by (with_reducible repeat (first | apply Kd.R_alloc | apply Kd.R_drewN | apply Kd.R_drew)); exact HO0.out))) (below_size (by repeat (first | exact HB.out | apply below_alloc | apply pw_below_drewN | apply below_drew1)))); have n2_ := Ak (Kept.below (S := (fun k_ => P0_ k_)) (by repeat (first | exact HK.out | apply Kept.alloc | apply Kept.drewN | apply Kept.drew)) hb); have n3_ := Ak (below_step (by repeat (first | exact HB.out | apply below_alloc | apply pw_below_drewN | apply below_drew1)) hb); clear HO0; clear HK; clear HB; have HO0 := n0_; have HO119 := n1_; have HK := n2_; have HB := n3_; clear n0_ n1_ n2_ n3_; clear hb ho22; obtain ⟨Ao24, co24, eo24⟩ := Kd.R_slice HO119.out; subst eo24) | ((with_reducible refine gate_builtin (b := .append) (xs := #[.tmp 52, .tmp 71]) rfl ?_); at_builtin; refine Kd.R_append_rows (Kd.int .u8) (w0 := w0) w0.heap.size rfl (.tmp 52) (.tmp 71) 52 5 (.int .u8 0) 1 rfl Try.underlying52 info5 rfl (by decide) (by omega) u9000_ l0 y117 _ _ _ (fun k_ => (P0_ k_ ∨ w.heap.size ≤ k_) ∧ some k_ ≠ (.slice Ao24 y117.length co24 : Value).ownBlock) (fun _ => False) rfl rfl ?aO ?aR (fun _ _ h => h) (fun _ h => h.elim) ?aF ?aB ?aS ?aL ?_; (case aR => repeat (first | exact (Kd.R_reads' HO119.out).2.2 | (with_reducible refine Kd.C_alloc ?_ _) | (with_reducible refine Kd.C_drewN ?_ _) | (with_reducible refine Kd.C_drew ?_))); (case aB => exact (by repeat (first | exact HB.out | apply below_alloc | apply pw_below_drewN | apply below_drew1))); (case aF => exact (fun k_ hk => ⟨(.inr (Nat.le_trans (by first | exact HK.out.1 | exact (show Kept w _ (fun k_ => P0_ k_) from by repeat (first | exact HK.out | apply Kept.alloc | apply Kept.drewN | apply Kept.drew)).1) hk)), Kd.fresh' (Kd.R_lt (by (with_reducible repeat (first | apply Kd.R_alloc | apply Kd.R_drewN | apply Kd.R_drew)); exact HO119.out)) k_ hk⟩)); (case aO => exact (by (with_reducible repeat (first | apply Kd.R_alloc | apply Kd.R_drewN | apply Kd.R_drew)); exact HO0.out)); (case aS => exact (below_size (by repeat (first | exact HB.out | apply below_alloc | apply pw_below_drewN | apply below_drew1)))); (case aL => have := LMc20.out; omega); intro v121 w23 ho hb hg hat; rw [← Ny120.out] at ho; have n0_ := Ak (Kd.R_after (ok := (fun k_ => (P0_ k_ ∨ w.heap.size ≤ k_))) (by (with_reducible repeat (first | apply Kd.R_alloc | apply Kd.R_drewN | apply Kd.R_drew)); exact Kd.R_mono HO119.out (fun _ hk => ⟨hk.1.1, hk.2⟩)) hg hat); have n1_ := Ak (hb); have n2_ := Ak (Kept.of_grown (S := (fun k_ => P0_ k_)) hg (by repeat (first | exact HK.out | apply Kept.alloc | apply Kept.drewN | apply Kept.drew)) (fun k_ e_ => (HO0.out.1 k_ e_).1)); have n3_ := Ak (ho); clear HO119; clear HB; clear HK; clear HO0; have HO119 := n0_; have HB := n1_; have HK := n2_; have HO122 := n3_; clear n0_ n1_ n2_ n3_; clear ho hb hg hat))
      go_ret
      exact ⟨_, rfl, by (with_reducible repeat (first | apply Kd.R_alloc | apply Kd.R_drewN | apply Kd.R_drew)); exact Kd.R_mono HO122.out (fun _ hk => hk.1), by repeat (first | exact HB.out | apply below_alloc | apply pw_below_drewN | apply below_drew1), by repeat (first | exact HK.out | apply Kept.alloc | apply Kept.drewN | apply Kept.drew)⟩
     ·rw [if_neg c20] at H
      exact absurd H (by simp)
 ·replace c4 := Bool.eq_false_iff.mpr c4
  subst c4
  rw [if_neg (show ¬ (false = true) by decide)] at H
  replace H := Ob H
  obtain ⟨t123, A250, H⟩ := H
  replace H : (some t123) = some r := H
  have A25 := Ak A250
  clear A250
  obtain rfl := Oi H
  go_enter Try.func139, Try.ntmps139
  go_wp2_with (first | (go_at_call 146; (with_reducible refine (impl_PointOk.calls a1 false _ A3.out).mono ?_); rintro e w' ⟨rfl, ⟨nd, rfl⟩⟩; obtain ⟨Ao26, co26, eo26⟩ := Kd.R_slice HO0.out; subst eo26) | (go_at_call 139; (with_reducible refine (ih k (by omega) (fun k_ => some k_ = (.slice Ao26 l0.length co26 : Value).ownBlock) (.slice Ao26 l0.length co26) l0 65533 t123 w0 _ ?side1 ?side2 A25.out).mono ?_); (case side1 => repeat (first | (with_reducible first | exact HB.out | apply below_alloc | apply pw_below_drewN | apply below_drew1) | exact HB.out)); (case side2 => exact Kd.R_tight rfl HO0.out); rintro e w27 ⟨v124, rfl, ho0, hb, hkp⟩; have n0_ := Ak (Kd.R_mono (ok' := fun k_ => (P0_ k_ ∨ w.heap.size ≤ k_)) ho0 (fun k_ hk_ => Or.elim hk_ (fun hs_ => (HO0.out.1 k_ (hs_).symm)) (fun hn_ => (.inr (Nat.le_trans (by first | exact HK.out.1 | exact (show Kept w _ (fun k_ => P0_ k_) from by repeat (first | exact HK.out | apply Kept.alloc | apply Kept.drewN | apply Kept.drew)).1) hn_))))); have n1_ := Ak (Kept.then_ (S := (fun k_ => P0_ k_)) (by repeat (first | exact HK.out | apply Kept.alloc | apply Kept.drewN | apply Kept.drew)) hkp (fun k_ hs_ => (fun e_ => (HO0.out.1 k_ e_.symm)) hs_)); have n2_ := Ak (hb); clear HK; clear HB; clear HO0; have HO125 := n0_; have HK := n1_; have HB := n2_; clear n0_ n1_ n2_; (try clear hb); (try clear hkp); (try clear ho0)))
  go_ret
  exact ⟨_, rfl, by (with_reducible repeat (first | apply Kd.R_alloc | apply Kd.R_drewN | apply Kd.R_drew)); exact HO125.out, by repeat (first | exact HB.out | apply below_alloc | apply pw_below_drewN | apply below_drew1), by repeat (first | exact HK.out | apply Kept.alloc | apply Kept.drewN | apply Kept.drew)⟩
def impl_PointsPut.l0 : Nat → List Int → List Int → Int → Int → Option (List Int)
 | 0, _, _, _, _ => none
 | k + 1, x3, x9, x10, x11 => if x11 < x10 then (if 0 ≤ x11 then (if x11 < (x9.length : Int) then ((impl_putPoint.f k x3 (rd x9 x11)).bind fun t102 => (impl_PointsPut.l0 k t102 x9 x10 (wrap64 (x11 + 1)))) else (none)) else (none)) else (some x3)
def impl_PointsPut.f (k : Nat) (l0 : List Int) : Option (List Int) := if (l0.length : Int) > 3000 then (some ([] : List Int)) else (impl_PointsPut.l0 k ([] : List Int) l0 (l0.length : Int) 0)
theorem impl_PointsPut.mono_l : ∀ k, (∀ y0 y1 y2 y3, LeO (impl_PointsPut.l0 k y0 y1 y2 y3) (impl_PointsPut.l0 (k + 1) y0 y1 y2 y3))
 | 0 => fun _ _ _ _ r h => by simp [impl_PointsPut.l0] at h
 | k + 1 => by
  have ih0 := impl_PointsPut.mono_l k
  ·intro y0 y1 y2 y3
   unfold impl_PointsPut.l0
   repeat' (with_reducible first | exact ih0 _ _ _ _ | exact impl_putPoint.mono _ _ _ | exact LeO.refl _ | exact LeO.none _ | refine LeO.ite ?_ ?_ | refine LeO.bind ?_ (fun _ => ?_))
theorem impl_PointsPut.mono : ∀ a0 k, LeO (impl_PointsPut.f k a0) (impl_PointsPut.f (k + 1) a0) := by
 intro a0 k
 have ih0 := impl_PointsPut.mono_l k
 unfold impl_PointsPut.f
 repeat' (with_reducible first | exact ih0 _ _ _ _ | exact impl_putPoint.mono _ _ _ | exact LeO.refl _ | exact LeO.none _ | refine LeO.ite ?_ ?_ | refine LeO.bind ?_ (fun _ => ?_))
theorem impl_PointsPut.calls (k : Nat) (A0 : Option Addr) (c0 : Nat) (l0 : List Int) (r : List Int) (w : World) (hr0 : Kd.C (Kd.int .i64) w A0 l0.length l0) (hc0 : l0.length ≤ c0) (h : impl_PointsPut.f k l0 = some r) :
 Calls Try.prog 130 #[.slice A0 l0.length c0] w fun e w' => ∃ v0_ : Value, e = .returned (v0_) ∧ Kd.R (Kd.int .u8) 5 w' w.heap.size (fun _ => True) v0_ r ∧ Below w.heap.size w w' := by
 have HR0 := Ak hr0
 have HC0 := Ak hc0
 clear hr0 hc0
 have HB := Ak (Below.refl w.heap.size w)
 have H : (if (l0.length : Int) > 3000 then (some ([] : List Int)) else (impl_PointsPut.l0 k ([] : List Int) l0 (l0.length : Int) 0)) = some r := h
 clear h
 by_cases c2 : (l0.length : Int) > 3000
 ·rw [if_pos c2] at H
  have c2b0 : decide (3000 < (l0.length : Int)) = true := decide_eq_true c2
  have c2b1 : decide (3000 < l0.length) = true := decide_eq_true (by omega)
  clear c2
  obtain rfl := Oi H
  go_enter Try.func130, Try.ntmps130
  go_wp2
  go_ret
  exact ⟨_, rfl, by first | exact Kd.R_nil _ _ _ _ _ | exact Kd.N_nil _ _ _ _ _ | exact Kd.V_nil _ _ _ _ _ | exact Kd.Q_nil _ _ _ _ _ | exact Kd.S_nil _ _ _ _ _, HB.out⟩
 ·rw [if_neg c2] at H
  have c2b0 : decide (3000 < (l0.length : Int)) = false := decide_eq_false c2
  have c2b1 : decide (3000 < l0.length) = false := decide_eq_false (by omega)
  clear c2
  have H' := Ak H
  clear H
  go_enter Try.func130, Try.ntmps130
  go_wp2
  go_loopg [3, 11] k (fun kq v3 v11 w' => ∃ (x3_1 : List Int) (x11_1 : Int), v11 = .int .i64 x11_1 ∧ Aside0 (impl_PointsPut.l0 kq x3_1 l0 (l0.length : Int) x11_1 = some r) ∧ Aside0 (kq ≤ k) ∧ Aside0 (Kd.R (Kd.int .u8) 5 w' w.heap.size (fun _ => True) v3 x3_1) ∧ Aside0 (Below w.heap.size w w'))
  case atStart => exact ⟨(([] : List Int)), (0), rfl, H', ⟨Nat.le_refl _⟩, ⟨by first | exact Kd.R_nil _ _ _ _ _ | exact Kd.N_nil _ _ _ _ _ | exact Kd.V_nil _ _ _ _ _ | exact Kd.Q_nil _ _ _ _ _ | exact Kd.S_nil _ _ _ _ _⟩, ⟨HB.out⟩⟩
  case round =>
   clear H'
   obtain ⟨x3_1, x11_1, rfl, HA, HK1, HO_3, HB⟩ := hrel
   cases gk with
   | zero => exact absurd HA.out (by simp [impl_PointsPut.l0])
   | succ k1 =>
    have H := HA.out
    clear HA
    simp only [impl_PointsPut.l0] at H
    by_cases c3 : x11_1 < (l0.length : Int)
    ·rw [if_pos c3] at H
     have c3b0 := decide_eq_true c3
     clear c3
     by_cases c4 : 0 ≤ x11_1
     ·rw [if_pos c4] at H
      have c4b0 := decide_eq_true c4
      clear c4
      by_cases c5 : x11_1 < (l0.length : Int)
      ·rw [if_pos c5] at H
       have c5b0 := decide_eq_true c5
       clear c5
       replace H := Ob H
       obtain ⟨t102, A60, H⟩ := H
       replace H : (impl_PointsPut.l0 k1 t102 l0 (l0.length : Int) (wrap64 (x11_1 + 1))) = some r := H
       have A6 := Ak A60
       clear A60
       have H' := Ak H
       clear H
       have p101 : 0 ≤ (x11_1 : Int) := of_decide_eq_true (by assumption)
       have q101 : x11_1 < (l0.length : Int) := of_decide_eq_true (by assumption)
       obtain ⟨ad101, e101, hx101_0⟩ := Kd.at_int HR0.out x11_1 p101 q101
       cases e101
       replace hx101_0 := pw_cell_below HB.out hx101_0
       replace p101 := eq_true p101
       replace q101 := eq_true q101
       obtain ⟨Ao7, co7, eo7⟩ := Kd.R_slice HO_3.out
       subst eo7
       go_wp2_with (first | (go_at_call 139; (with_reducible refine (impl_putPoint.calls k1 (fun k_ => some k_ = (.slice Ao7 x3_1.length co7 : Value).ownBlock) (.slice Ao7 x3_1.length co7) x3_1 (rd l0 x11_1) t102 w _ ?side1 ?side2 A6.out).mono ?_); (case side1 => repeat (first | (with_reducible first | exact HB.out | apply below_alloc | apply pw_below_drewN | apply below_drew1) | exact HB.out)); (case side2 => exact Kd.R_tight rfl HO_3.out); rintro e w8 ⟨v103, rfl, ho0, hb, hkp⟩; replace HO104 := Ak (Kd.R_mono (ok' := fun k_ => True) ho0 (fun k_ hk_ => trivial)); replace HB := Ak (hb); (try clear hb); (try clear hkp); (try clear ho0)))
       go_roundg k1
       case measure => have := HK1.out; omega
       case rel => exact ⟨(t102), (wrap64 (x11_1 + 1)), rfl, H', ⟨by have := HK1.out; omega⟩, ⟨by (with_reducible repeat (first | apply Kd.R_alloc | apply Kd.R_drewN | apply Kd.R_drew)); exact HO104.out⟩, ⟨HB.out⟩⟩
      ·rw [if_neg c5] at H
       exact absurd H (by simp)
     ·rw [if_neg c4] at H
      exact absurd H (by simp)
    ·rw [if_neg c3] at H
     have c3b0 := decide_eq_false c3
     clear c3
     obtain rfl := Oi H
     go_wp2
     go_ret
     exact ⟨_, rfl, by (with_reducible repeat (first | apply Kd.R_alloc | apply Kd.R_drewN | apply Kd.R_drew)); exact HO_3.out, HB.out⟩
def bytes_HasPrefix.f (l0 : List Int) (l1 : List Int) : Option (Bool) := if (l0.length : Int) ≥ (l1.length : Int) then (bytes_Equal.f (l0.take ((l1.length : Int) : Int).toNat) l1) else (some false)
theorem bytes_HasPrefix.calls (A0 : Option Addr) (c0 : Nat) (l0 : List Int) (A1 : Option Addr) (c1 : Nat) (l1 : List Int) (r : Bool) (w : World) (hr0 : Kd.C (Kd.int .u8) w A0 l0.length l0) (hc0 : l0.length ≤ c0) (hr1 : Kd.C (Kd.int .u8) w A1 l1.length l1) (hc1 : l1.length ≤ c1) (h : bytes_HasPrefix.f l0 l1 = some r) :
 Calls Try.prog 147 #[.slice A0 l0.length c0, .slice A1 l1.length c1] w fun e w' => e = .returned (.bool r) ∧ Drawn0 w w' := by
 have HR0 := Ak hr0
 have HC0 := Ak hc0
 clear hr0 hc0
 have HR1 := Ak hr1
 have HC1 := Ak hc1
 clear hr1 hc1
 unfold bytes_HasPrefix.f at h
 have H := h
 clear h
 by_cases c3 : (l0.length : Int) ≥ (l1.length : Int)
 ·rw [if_pos c3] at H
  have c3b0 : decide ((l1.length : Int) ≤ (l0.length : Int)) = true := decide_eq_true c3
  have c3b1 : decide (l1.length ≤ l0.length) = true := decide_eq_true (Int.ofNat_le.mp c3)
  have c4b0 := eq_true (show 0 ≤ (l1.length : Int) by omega)
  have c4b1 : decide (0 ≤ (l1.length : Int)) = true := decide_eq_true (by omega)
  have c5b0 := eq_true (show (l1.length : Int) ≤ (l0.length : Int) from c3)
  have hln : (l0.take ((l1.length : Int) : Int).toNat).length = min l1.length l0.length := by rw [List.length_take]; rfl
  have A6 := Ak H
  clear H c3
  obtain ⟨i07, hi07, _, hsz7, _⟩ := info_parts info5
  obtain ⟨hcut7, hA7, hC7⟩ := print_take_of (P := Try.prog) (Value.int .u8) 0 52 5 .i64 Try.underlying52 hi07 hsz7 A0 c0 l0 (l1.length : Int) (of_decide_eq_true (by assumption)) (of_decide_eq_true (by assumption)) HC0.out
  have HR367 := Ak (Kd.C_of_reads (h1 := fun _ => rfl) (hA7 _ (Kd.reads_of_C HR0.out)))
  have HC367 := Ak hC7
  clear hA7 hC7 hi07 hsz7
  have C9 := Ak (show Calls Try.prog 129 #[.slice A0 (min l1.length l0.length) c0, .slice A1 l1.length c1] w fun e w' => e = .returned (.bool r) ∧ Drawn0 w w' from by
   have := bytes_Equal.calls A0 c0 (l0.take ((l1.length : Int) : Int).toNat) A1 c1 l1 r w HR367.out HC367.out HR1.out HC1.out A6.out
   rw [hln] at this
   exact this)
  clear hln
  go_enter Try.func147, Try.ntmps147
  go_wp2_with (first | (go_at_call 129; refine C9.out.mono ?_; rintro e w' ⟨rfl, ⟨nd, rfl⟩⟩))
  go_ret
  exact ⟨rfl, by repeat (first | exact Drawn0.refl _ | apply Drawn0.step)⟩
 ·rw [if_neg c3] at H
  have c3b0 : decide ((l1.length : Int) ≤ (l0.length : Int)) = false := decide_eq_false c3
  have c3b1 : decide (l1.length ≤ l0.length) = false := decide_eq_false (fun h => c3 (Int.ofNat_le.mpr h))
  clear c3
  obtain rfl := Oi H
  go_enter Try.func147, Try.ntmps147
  go_wp2
  go_ret
  exact ⟨rfl, by repeat (first | exact Drawn0.refl _ | apply Drawn0.step)⟩
def bytes_TrimPrefix.f (l0 : List Int) (l1 : List Int) : Option (List Int) := (bytes_HasPrefix.f l0 l1).bind fun t101 => (if t101 = true then (if 0 ≤ (l1.length : Int) then (if (l1.length : Int) ≤ (l0.length : Int) then (some (l0.drop ((l1.length : Int) : Int).toNat)) else (none)) else (none)) else (some l0))
theorem bytes_TrimPrefix.calls (P0_ : Nat → Prop) (A0 : Option Addr) (c0 : Nat) (l0 : List Int) (A1 : Option Addr) (c1 : Nat) (l1 : List Int) (r : List Int) (w : World) (hs0 : Kd.V (Kd.int .u8) 5 w w.heap.size (fun k_ => P0_ k_) (.slice A0 l0.length c0) l0) (hr1 : Kd.C (Kd.int .u8) w A1 l1.length l1) (hc1 : l1.length ≤ c1) (h : bytes_TrimPrefix.f l0 l1 = some r) :
 Calls Try.prog 140 #[.slice A0 l0.length c0, .slice A1 l1.length c1] w fun e w' => ∃ v0_ : Value, e = .returned (v0_) ∧ Kd.V (Kd.int .u8) 5 w' w.heap.size (fun k_ => (P0_ k_ ∨ w.heap.size ≤ k_)) v0_ r ∧ Below w.heap.size w w' := by
 have HO0 := Ak (show Kd.V (Kd.int .u8) 5 w w.heap.size (fun k_ => (P0_ k_ ∨ w.heap.size ≤ k_)) (.slice A0 l0.length c0) l0 from Kd.V_mono hs0 (fun k_ hk => .inl hk))
 have HR1 := Ak hr1
 have HC1 := Ak hc1
 clear hr1 hc1
 have HB := Ak (Below.refl w.heap.size w)
 have H : ((bytes_HasPrefix.f l0 l1).bind fun t101 => (if t101 = true then (if 0 ≤ (l1.length : Int) then (if (l1.length : Int) ≤ (l0.length : Int) then (some (l0.drop ((l1.length : Int) : Int).toNat)) else (none)) else (none)) else (some l0))) = some r := h
 clear h
 replace H := Ob H
 obtain ⟨t101, A30, H⟩ := H
 replace H : (if t101 = true then (if 0 ≤ (l1.length : Int) then (if (l1.length : Int) ≤ (l0.length : Int) then (some (l0.drop ((l1.length : Int) : Int).toNat)) else (none)) else (none)) else (some l0)) = some r := H
 have A3 := Ak A30
 clear A30
 by_cases c4 : t101 = true
 ·subst c4
  rw [if_pos rfl] at H
  by_cases c5 : 0 ≤ (l1.length : Int)
  ·rw [if_pos c5] at H
   have c5b0 := eq_true c5
   have c5b1 := decide_eq_true c5
   clear c5
   by_cases c6 : (l1.length : Int) ≤ (l0.length : Int)
   ·rw [if_pos c6] at H
    have c6b0 := eq_true c6
    have c6b1 := decide_eq_true c6
    clear c6
    obtain ⟨y102, hy102⟩ : ∃ y_ : List Int, y_ = (l0.drop ((l1.length : Int) : Int).toNat) := ⟨_, rfl⟩
    replace H : (some y102) = some r := by rw [hy102]; exact H
    have Ny102 := Ak hy102
    clear hy102
    obtain rfl := Oi H
    go_enter Try.func140, Try.ntmps140
    go_wp2_with (first | (go_at_call 147; (with_reducible refine (bytes_HasPrefix.calls _ _ l0 _ _ l1 true _ ?side1 ?side2 ?side3 ?side4 A3.out).mono ?_); (case side1 => repeat (first | exact (Kd.V_reads' HO0.out).2.2 | (with_reducible refine Kd.C_alloc ?_ _) | (with_reducible refine Kd.C_drewN ?_ _) | (with_reducible refine Kd.C_drew ?_))); (case side2 => exact (Kd.V_reads' HO0.out).2.1); (case side3 => repeat (first | exact HR1.out | (with_reducible refine Kd.C_alloc ?_ _) | (with_reducible refine Kd.C_drewN ?_ _) | (with_reducible refine Kd.C_drew ?_))); (case side4 => exact HC1.out); rintro e w' ⟨rfl, ⟨nd, rfl⟩⟩; have q7 : ((l1.length : Int) : Int) ≤ ((l0.length : Int) : Int) := of_decide_eq_true (by assumption); obtain ⟨i07, hi07, _, hsz7, _⟩ := info_parts info5; have hroom7 : l0.length ≤ c0 := (Kd.V_reads' HO0.out).2.1; have hC7 : Kd.F (Kd.int .u8) _ _ A0 l0.length l0 := (Kd.V_at (base := w.heap.size) HO0.out).2.2; have q07 : (0 : Int) ≤ ((l1.length : Int) : Int) := of_decide_eq_true (by assumption); have hcut7 := cut_from (P := Try.prog) 52 5 .i64 Try.underlying52 hi07 1 hsz7 A0 l0.length c0 (l1.length : Int) q07 q7; have hr7 := Kd.F_cut (m := ((l1.length : Int) : Int).toNat) (c := c0) hC7 (by omega) hroom7; obtain ⟨A7, hA7⟩ : ∃ A1, A1 = (if c0 = ((l1.length : Int) : Int).toNat then A0 else (A0 : Option Addr).map (·.add (((l1.length : Int) : Int).toNat * 1))) := ⟨_, rfl⟩; obtain ⟨c7, hc7⟩ : ∃ c1, c1 = c0 - ((l1.length : Int) : Int).toNat := ⟨_, rfl⟩; have hy7 : y102.length = l0.length - ((l1.length : Int) : Int).toNat := (by rw [Ny102.out, List.length_drop] <;> omega); rw [show (l0).drop ((l1.length : Int) : Int).toNat = y102 from Ny102.out.symm] at hr7; replace hr7 : Kd.F (Kd.int .u8) _ _ A7 y102.length y102 := (by rw [hA7]; exact hr7); rw [← hy7, ← hA7, ← hc7] at hcut7; have HO106 := Ak (show Kd.V (Kd.int .u8) 5 _ w.heap.size _ (.slice A7 y102.length c7) y102 from Kd.V_mk (by rw [hy7, hc7]; exact Nat.sub_le_sub_right hroom7 _) hr7); have HC106 := Ak (show y102.length ≤ c7 from by rw [hy7, hc7]; exact Nat.sub_le_sub_right hroom7 _); clear hr7 hC7 hroom7 hi07 hsz7 hc7; have KY7 := Ak hy7; have KA7 := Ak hA7; clear hy7 hA7; replace q7 := eq_true q7))
    go_ret
    exact ⟨_, rfl, by (with_reducible repeat (first | apply Kd.V_alloc | apply Kd.V_drewN | apply Kd.V_drew)); exact HO106.out, by repeat (first | exact HB.out | apply below_alloc | apply pw_below_drewN | apply below_drew1)⟩
   ·rw [if_neg c6] at H
    exact absurd H (by simp)
  ·rw [if_neg c5] at H
   exact absurd H (by simp)
 ·replace c4 := Bool.eq_false_iff.mpr c4
  subst c4
  rw [if_neg (show ¬ (false = true) by decide)] at H
  obtain rfl := Oi H
  go_enter Try.func140, Try.ntmps140
  go_wp2_with (first | (go_at_call 147; (with_reducible refine (bytes_HasPrefix.calls _ _ l0 _ _ l1 false _ ?side1 ?side2 ?side3 ?side4 A3.out).mono ?_); (case side1 => repeat (first | exact (Kd.V_reads' HO0.out).2.2 | (with_reducible refine Kd.C_alloc ?_ _) | (with_reducible refine Kd.C_drewN ?_ _) | (with_reducible refine Kd.C_drew ?_))); (case side2 => exact (Kd.V_reads' HO0.out).2.1); (case side3 => repeat (first | exact HR1.out | (with_reducible refine Kd.C_alloc ?_ _) | (with_reducible refine Kd.C_drewN ?_ _) | (with_reducible refine Kd.C_drew ?_))); (case side4 => exact HC1.out); rintro e w' ⟨rfl, ⟨nd, rfl⟩⟩))
  go_ret
  exact ⟨_, rfl, by (with_reducible repeat (first | apply Kd.V_alloc | apply Kd.V_drewN | apply Kd.V_drew)); exact HO0.out, by repeat (first | exact HB.out | apply below_alloc | apply pw_below_drewN | apply below_drew1)⟩
mutual
def impl_formOf.j0 : Nat → Int → Bool → Option (Int × Int)
 | 0, _, _ => none
 | k + 1, x0, x9 => if x9 = true then (some (2, wrap64 (Go.bits .and .u8 x0 31))) else (if x0 ≥ 224 then (impl_formOf.j1 k x0 (decide (x0 ≤ 239))) else (impl_formOf.j1 k x0 false))
def impl_formOf.j1 : Nat → Int → Bool → Option (Int × Int)
 | 0, _, _ => none
 | k + 1, x0, x19 => if x19 = true then (some (3, wrap64 (Go.bits .and .u8 x0 15))) else (if x0 ≥ 240 then (if x0 ≤ 244 then (some (4, wrap64 (Go.bits .and .u8 x0 7))) else (some (0, 0))) else (some (0, 0)))
end
def impl_formOf.f (k : Nat) (a0 : Int) : Option (Int × Int) := if a0 < 128 then (some (1, wrap64 (a0))) else (if a0 ≥ 194 then (impl_formOf.j0 k a0 (decide (a0 ≤ 223))) else (impl_formOf.j0 k a0 false))
theorem impl_formOf.mono_l : ∀ k, (∀ y0 y1, LeO (impl_formOf.j0 k y0 y1) (impl_formOf.j0 (k + 1) y0 y1)) ∧ (∀ y0 y1, LeO (impl_formOf.j1 k y0 y1) (impl_formOf.j1 (k + 1) y0 y1))
 | 0 => ⟨fun _ _ r h => by simp [impl_formOf.j0] at h, fun _ _ r h => by simp [impl_formOf.j1] at h⟩
 | k + 1 => by
  obtain ⟨ih0, ih1⟩ := impl_formOf.mono_l k
  refine ⟨?_, ?_⟩
  ·intro y0 y1
   unfold impl_formOf.j0
   repeat' (with_reducible first | exact ih0 _ _ | exact ih1 _ _ | exact LeO.refl _ | exact LeO.none _ | refine LeO.ite ?_ ?_ | refine LeO.bind ?_ (fun _ => ?_))
  ·intro y0 y1
   unfold impl_formOf.j1
   repeat' (with_reducible first | exact ih0 _ _ | exact ih1 _ _ | exact LeO.refl _ | exact LeO.none _ | refine LeO.ite ?_ ?_ | refine LeO.bind ?_ (fun _ => ?_))
theorem impl_formOf.mono : ∀ a0 k, LeO (impl_formOf.f k a0) (impl_formOf.f (k + 1) a0) := by
 intro a0 k
 obtain ⟨ih0, ih1⟩ := impl_formOf.mono_l k
 unfold impl_formOf.f
 repeat' (with_reducible first | exact ih0 _ _ | exact ih1 _ _ | exact LeO.refl _ | exact LeO.none _ | refine LeO.ite ?_ ?_ | refine LeO.bind ?_ (fun _ => ?_))
theorem impl_formOf.calls (k : Nat) (a0 : Int) (r1 : Int) (r2 : Int) (w : World) (h : impl_formOf.f k a0 = some (r1, r2)) :
 Calls Try.prog 148 #[.int .u8 a0] w fun e w' => e = .returned (.tuple #[.int .i64 r1, .int .i64 r2]) ∧ Drawn0 w w' := by
 have H : (if a0 < 128 then (some (1, wrap64 (a0))) else (if a0 ≥ 194 then (impl_formOf.j0 k a0 (decide (a0 ≤ 223))) else (impl_formOf.j0 k a0 false))) = some (r1, r2) := h
 clear h
 by_cases c2 : a0 < 128
 ·rw [if_pos c2] at H
  have c2b0 := decide_eq_true c2
  clear c2
  simp only [Option.some.injEq, Prod.mk.injEq] at H
  obtain ⟨rfl, rfl⟩ := H
  go_enter Try.func148, Try.ntmps148
  go_wp2
  go_ret2
  exact ⟨rfl, by repeat (first | exact Drawn0.refl _ | apply Drawn0.step)⟩
 ·rw [if_neg c2] at H
  have c2b0 := decide_eq_false c2
  clear c2
  have HC3 := Ak H
  clear H
  go_enter Try.func148, Try.ntmps148
  go_upto_region 3 with (fail)
  go_cut [9] (fun v9 wc => ∃ (kq : Nat) (x9_2 : Bool), v9 = .bool x9_2 ∧ Aside0 (impl_formOf.j0 kq a0 x9_2 = some (r1, r2)) ∧ Aside0 (kq ≤ k) ∧ Drawn0 w wc)
  case first =>
   have H := HC3.out
   clear HC3
   by_cases c4 : a0 ≥ 194
   ·rw [if_pos c4] at H
    have c4b0 : decide (194 ≤ a0) = true := decide_eq_true c4
    clear c4
    (first | rw [c4b0] | (simp only [i64_w, i32_w]; rw [c4b0]) | skip)
    have H' := Ak H
    clear H
    go_wp2
    go_meet
    case rel => exact ⟨_, (decide (a0 ≤ 223)), rfl, H', ⟨by first | omega | exact Nat.le_refl _⟩, by repeat (first | exact Drawn0.refl _ | apply Drawn0.step)⟩
   ·rw [if_neg c4] at H
    have c4b0 : decide (194 ≤ a0) = false := decide_eq_false c4
    clear c4
    (first | rw [c4b0] | (simp only [i64_w, i32_w]; rw [c4b0]) | skip)
    have H' := Ak H
    clear H
    go_wp2
    go_meet
    case rel => exact ⟨_, (false), rfl, H', ⟨by first | omega | exact Nat.le_refl _⟩, by repeat (first | exact Drawn0.refl _ | apply Drawn0.step)⟩
  case rest =>
   clear HC3
   obtain ⟨kq, x9_2, rfl, HA, HJ2, ⟨mc2, rfl⟩⟩ := hcut
   cases kq with
   | zero => exact absurd HA.out (by simp [impl_formOf.j0])
   | succ kj2 =>
    have H := HA.out
    clear HA
    simp only [impl_formOf.j0] at H
    by_cases c5 : x9_2 = true
    ·subst c5
     rw [if_pos rfl] at H
     simp only [Option.some.injEq, Prod.mk.injEq] at H
     obtain ⟨rfl, rfl⟩ := H
     go_wp2
     go_ret2
     exact ⟨rfl, by repeat (first | exact Drawn0.refl _ | apply Drawn0.step)⟩
    ·replace c5 := Bool.eq_false_iff.mpr c5
     subst c5
     rw [if_neg (show ¬ (false = true) by decide)] at H
     have HC6 := Ak H
     clear H
     go_upto_region 5 with (fail)
     go_cut [19] (fun v19 wc => ∃ (kq : Nat) (x19_5 : Bool), v19 = .bool x19_5 ∧ Aside0 (impl_formOf.j1 kq a0 x19_5 = some (r1, r2)) ∧ Aside0 (kq ≤ kj2) ∧ Drawn0 w wc)
     case first =>
      have H := HC6.out
      clear HC6
      by_cases c7 : a0 ≥ 224
      ·rw [if_pos c7] at H
       have c7b0 : decide (224 ≤ a0) = true := decide_eq_true c7
       clear c7
       (first | rw [c7b0] | (simp only [i64_w, i32_w]; rw [c7b0]) | skip)
       have H' := Ak H
       clear H
       go_wp2
       go_meet
       case rel => exact ⟨_, (decide (a0 ≤ 239)), rfl, H', ⟨by have := HJ2.out; first | omega | exact Nat.le_refl _⟩, by repeat (first | exact Drawn0.refl _ | apply Drawn0.step)⟩
      ·rw [if_neg c7] at H
       have c7b0 : decide (224 ≤ a0) = false := decide_eq_false c7
       clear c7
       (first | rw [c7b0] | (simp only [i64_w, i32_w]; rw [c7b0]) | skip)
       have H' := Ak H
       clear H
       go_wp2
       go_meet
       case rel => exact ⟨_, (false), rfl, H', ⟨by have := HJ2.out; first | omega | exact Nat.le_refl _⟩, by repeat (first | exact Drawn0.refl _ | apply Drawn0.step)⟩
     case rest =>
      clear HC6
      obtain ⟨kq, x19_5, rfl, HA, HJ5, ⟨mc5, rfl⟩⟩ := hcut
      cases kq with
      | zero => exact absurd HA.out (by simp [impl_formOf.j1])
      | succ kj5 =>
       have H := HA.out
       clear HA
       simp only [impl_formOf.j1] at H
       by_cases c8 : x19_5 = true
       ·subst c8
        rw [if_pos rfl] at H
        simp only [Option.some.injEq, Prod.mk.injEq] at H
        obtain ⟨rfl, rfl⟩ := H
        go_wp2
        go_ret2
        exact ⟨rfl, by repeat (first | exact Drawn0.refl _ | apply Drawn0.step)⟩
       ·replace c8 := Bool.eq_false_iff.mpr c8
        subst c8
        rw [if_neg (show ¬ (false = true) by decide)] at H
        by_cases c9 : a0 ≥ 240
        ·rw [if_pos c9] at H
         have c9b0 : decide (240 ≤ a0) = true := decide_eq_true c9
         clear c9
         by_cases c10 : a0 ≤ 244
         ·rw [if_pos c10] at H
          have c10b0 := decide_eq_true c10
          clear c10
          simp only [Option.some.injEq, Prod.mk.injEq] at H
          obtain ⟨rfl, rfl⟩ := H
          go_wp2
          go_ret2
          exact ⟨rfl, by repeat (first | exact Drawn0.refl _ | apply Drawn0.step)⟩
         ·rw [if_neg c10] at H
          have c10b0 := decide_eq_false c10
          clear c10
          simp only [Option.some.injEq, Prod.mk.injEq] at H
          obtain ⟨rfl, rfl⟩ := H
          go_wp2
          go_ret2
          exact ⟨rfl, by repeat (first | exact Drawn0.refl _ | apply Drawn0.step)⟩
        ·rw [if_neg c9] at H
         have c9b0 : decide (240 ≤ a0) = false := decide_eq_false c9
         clear c9
         simp only [Option.some.injEq, Prod.mk.injEq] at H
         obtain ⟨rfl, rfl⟩ := H
         go_wp2
         go_ret2
         exact ⟨rfl, by repeat (first | exact Drawn0.refl _ | apply Drawn0.step)⟩
def impl_boundsOf.f (a0 : Int) : Option (Int × Int) := if a0 = 224 then (some (160, 191)) else (if a0 = 237 then (some (128, 159)) else (if a0 = 240 then (some (144, 191)) else (if a0 = 244 then (some (128, 143)) else (some (128, 191)))))
theorem impl_boundsOf.calls (a0 : Int) (r1 : Int) (r2 : Int) (w : World) (h : impl_boundsOf.f a0 = some (r1, r2)) :
 Calls Try.prog 149 #[.int .u8 a0] w fun e w' => e = .returned (.tuple #[.int .u8 r1, .int .u8 r2]) ∧ Drawn0 w w' := by
 have H : (if a0 = 224 then (some (160, 191)) else (if a0 = 237 then (some (128, 159)) else (if a0 = 240 then (some (144, 191)) else (if a0 = 244 then (some (128, 143)) else (some (128, 191)))))) = some (r1, r2) := h
 clear h
 by_cases c2 : a0 = 224
 ·rw [if_pos c2] at H
  have c2b0 := beq_iff_eq.mpr c2
  have c2b1 := bne_eq_false_iff_eq.mpr c2
  clear c2
  simp only [Option.some.injEq, Prod.mk.injEq] at H
  obtain ⟨rfl, rfl⟩ := H
  go_enter Try.func149, Try.ntmps149
  go_wp2
  go_ret2
  exact ⟨rfl, by repeat (first | exact Drawn0.refl _ | apply Drawn0.step)⟩
 ·rw [if_neg c2] at H
  have c2b0 := beq_eq_false_iff_ne.mpr c2
  have c2b1 := bne_iff_ne.mpr c2
  by_cases c3 : a0 = 237
  ·rw [if_pos c3] at H
   have c3b0 := beq_iff_eq.mpr c3
   have c3b1 := bne_eq_false_iff_eq.mpr c3
   clear c3
   simp only [Option.some.injEq, Prod.mk.injEq] at H
   obtain ⟨rfl, rfl⟩ := H
   go_enter Try.func149, Try.ntmps149
   go_wp2
   go_ret2
   exact ⟨rfl, by repeat (first | exact Drawn0.refl _ | apply Drawn0.step)⟩
  ·rw [if_neg c3] at H
   have c3b0 := beq_eq_false_iff_ne.mpr c3
   have c3b1 := bne_iff_ne.mpr c3
   by_cases c4 : a0 = 240
   ·rw [if_pos c4] at H
    have c4b0 := beq_iff_eq.mpr c4
    have c4b1 := bne_eq_false_iff_eq.mpr c4
    clear c4
    simp only [Option.some.injEq, Prod.mk.injEq] at H
    obtain ⟨rfl, rfl⟩ := H
    go_enter Try.func149, Try.ntmps149
    go_wp2
    go_ret2
    exact ⟨rfl, by repeat (first | exact Drawn0.refl _ | apply Drawn0.step)⟩
   ·rw [if_neg c4] at H
    have c4b0 := beq_eq_false_iff_ne.mpr c4
    have c4b1 := bne_iff_ne.mpr c4
    by_cases c5 : a0 = 244
    ·rw [if_pos c5] at H
     have c5b0 := beq_iff_eq.mpr c5
     have c5b1 := bne_eq_false_iff_eq.mpr c5
     clear c5
     simp only [Option.some.injEq, Prod.mk.injEq] at H
     obtain ⟨rfl, rfl⟩ := H
     go_enter Try.func149, Try.ntmps149
     go_wp2
     go_ret2
     exact ⟨rfl, by repeat (first | exact Drawn0.refl _ | apply Drawn0.step)⟩
    ·rw [if_neg c5] at H
     have c5b0 := beq_eq_false_iff_ne.mpr c5
     have c5b1 := bne_iff_ne.mpr c5
     simp only [Option.some.injEq, Prod.mk.injEq] at H
     obtain ⟨rfl, rfl⟩ := H
     go_enter Try.func149, Try.ntmps149
     go_wp2
     go_ret2
     exact ⟨rfl, by repeat (first | exact Drawn0.refl _ | apply Drawn0.step)⟩
def impl_readPoint.l0 : Nat → List Int → Int → Int → Int → Int → Int → Option (Int × Int)
 | 0, _, _, _, _, _, _ => none
 | k + 1, x0, x4, x5, x6, x7, x8 => if x8 < x4 then (if x8 ≥ (x0.length : Int) then (some (65533, x8)) else (if 0 ≤ x8 then (if x8 < (x0.length : Int) then (if (rd x0 x8) < x6 then (some (65533, x8)) else (if (rd x0 x8) > x7 then (some (65533, x8)) else (impl_readPoint.l0 k x0 x4 (Go.bits .or .i64 (wrap64 (x5 * 64)) (wrap64 (Go.bits .and .u8 (rd x0 x8) 63))) 128 191 (wrap64 (x8 + 1))))) else (none)) else (none))) else (some (x5, x4))
def impl_readPoint.f (k : Nat) (l0 : List Int) : Option (Int × Int) := if 0 < (l0.length : Int) then ((impl_formOf.f k (rd l0 0)).bind fun bt102 => (if bt102.1 = 0 then (some (65533, 1)) else ((impl_boundsOf.f (rd l0 0)).bind fun bt105 => (impl_readPoint.l0 k l0 bt102.1 bt102.2 bt105.1 bt105.2 1)))) else (none)
theorem impl_readPoint.mono_l : ∀ k, (∀ y0 y1 y2 y3 y4 y5, LeO (impl_readPoint.l0 k y0 y1 y2 y3 y4 y5) (impl_readPoint.l0 (k + 1) y0 y1 y2 y3 y4 y5))
 | 0 => fun _ _ _ _ _ _ r h => by simp [impl_readPoint.l0] at h
 | k + 1 => by
  have ih0 := impl_readPoint.mono_l k
  ·intro y0 y1 y2 y3 y4 y5
   unfold impl_readPoint.l0
   repeat' (with_reducible first | exact ih0 _ _ _ _ _ _ | exact impl_formOf.mono _ _ | exact LeO.refl _ | exact LeO.none _ | refine LeO.ite ?_ ?_ | refine LeO.bind ?_ (fun _ => ?_))
theorem impl_readPoint.mono : ∀ a0 k, LeO (impl_readPoint.f k a0) (impl_readPoint.f (k + 1) a0) := by
 intro a0 k
 have ih0 := impl_readPoint.mono_l k
 unfold impl_readPoint.f
 repeat' (with_reducible first | exact ih0 _ _ _ _ _ _ | exact impl_formOf.mono _ _ | exact LeO.refl _ | exact LeO.none _ | refine LeO.ite ?_ ?_ | refine LeO.bind ?_ (fun _ => ?_))
theorem impl_readPoint.calls (k : Nat) (A0 : Option Addr) (c0 : Nat) (l0 : List Int) (r1 : Int) (r2 : Int) (w : World) (hr0 : Kd.C (Kd.int .u8) w A0 l0.length l0) (hc0 : l0.length ≤ c0) (h : impl_readPoint.f k l0 = some (r1, r2)) :
 Calls Try.prog 141 #[.slice A0 l0.length c0] w fun e w' => e = .returned (.tuple #[.int .i64 r1, .int .i64 r2]) ∧ Drawn0 w w' := by
 have HR0 := Ak hr0
 have HC0 := Ak hc0
 clear hr0 hc0
 have H : (if 0 < (l0.length : Int) then ((impl_formOf.f k (rd l0 0)).bind fun bt102 => (if bt102.1 = 0 then (some (65533, 1)) else ((impl_boundsOf.f (rd l0 0)).bind fun bt105 => (impl_readPoint.l0 k l0 bt102.1 bt102.2 bt105.1 bt105.2 1)))) else (none)) = some (r1, r2) := h
 clear h
 by_cases c2 : 0 < (l0.length : Int)
 ·rw [if_pos c2] at H
  have c2b0 := decide_eq_true c2
  have c2b1 : decide (0 < l0.length) = true := decide_eq_true (by omega)
  clear c2
  replace H := Ob H
  obtain ⟨⟨t102, t103⟩, A30, H⟩ := H
  dsimp only at H
  have A3 := Ak A30
  clear A30
  by_cases c4 : t102 = 0
  ·rw [if_pos c4] at H
   have c4b0 := beq_iff_eq.mpr c4
   have c4b1 := bne_eq_false_iff_eq.mpr c4
   clear c4
   simp only [Option.some.injEq, Prod.mk.injEq] at H
   obtain ⟨rfl, rfl⟩ := H
   have p101 : 0 ≤ (0 : Int) := (by omega)
   have q101 : 0 < (l0.length : Int) := of_decide_eq_true (by assumption)
   obtain ⟨ad101, e101, hx101_0⟩ := Kd.at_int HR0.out 0 p101 q101
   cases e101
   have qi101 : (0 < l0.length) = True := eq_true (by omega)
   (try rw [show ((0 : Int)).toNat = 0 from rfl] at hx101_0)
   (try rw [Addr.add_zero'] at hx101_0)
   replace p101 := eq_true p101
   replace q101 := eq_true q101
   go_enter Try.func141, Try.ntmps141
   go_wp2_with (first | (go_at_call 148; (with_reducible refine (impl_formOf.calls k (rd l0 0) t102 t103 _ A3.out).mono ?_); rintro e w' ⟨rfl, ⟨nd, rfl⟩⟩))
   go_ret2
   exact ⟨rfl, by repeat (first | exact Drawn0.refl _ | apply Drawn0.step)⟩
  ·rw [if_neg c4] at H
   have c4b0 := beq_eq_false_iff_ne.mpr c4
   have c4b1 := bne_iff_ne.mpr c4
   replace H := Ob H
   obtain ⟨⟨t105, t106⟩, A50, H⟩ := H
   dsimp only at H
   have A5 := Ak A50
   clear A50
   have H' := Ak H
   clear H
   have p101 : 0 ≤ (0 : Int) := (by omega)
   have q101 : 0 < (l0.length : Int) := of_decide_eq_true (by assumption)
   obtain ⟨ad101, e101, hx101_0⟩ := Kd.at_int HR0.out 0 p101 q101
   cases e101
   have qi101 : (0 < l0.length) = True := eq_true (by omega)
   (try rw [show ((0 : Int)).toNat = 0 from rfl] at hx101_0)
   (try rw [Addr.add_zero'] at hx101_0)
   replace p101 := eq_true p101
   replace q101 := eq_true q101
   go_enter Try.func141, Try.ntmps141
   go_wp2_with (first | (go_at_call 148; (with_reducible refine (impl_formOf.calls k (rd l0 0) t102 t103 _ A3.out).mono ?_); rintro e w' ⟨rfl, ⟨nd, rfl⟩⟩; have p104 : 0 ≤ (0 : Int) := (by omega); have q104 : 0 < (l0.length : Int) := of_decide_eq_true (by assumption); obtain ⟨ad104, e104, hx104_0⟩ := Kd.at_int HR0.out 0 p104 q104; obtain rfl : ad101 = ad104 := (by injection e104); have qi104 : (0 < l0.length) = True := eq_true (by omega); (try rw [show ((0 : Int)).toNat = 0 from rfl] at hx104_0); (try rw [Addr.add_zero'] at hx104_0); replace p104 := eq_true p104; replace q104 := eq_true q104) | (go_at_call 149; (with_reducible refine (impl_boundsOf.calls (rd l0 0) t105 t106 _ A5.out).mono ?_); rintro e w' ⟨rfl, ⟨nd, rfl⟩⟩))
   go_loopg [5, 6, 7, 8] k (fun kq v5 v6 v7 v8 w' => ∃ (x5_1 : Int) (x6_1 : Int) (x7_1 : Int) (x8_1 : Int), v5 = .int .i64 x5_1 ∧ v6 = .int .u8 x6_1 ∧ v7 = .int .u8 x7_1 ∧ v8 = .int .i64 x8_1 ∧ Aside0 (impl_readPoint.l0 kq l0 t102 x5_1 x6_1 x7_1 x8_1 = some (r1, r2)) ∧ Aside0 (kq ≤ k) ∧ Drawn0 w w')
   case atStart => exact ⟨(t103), (t105), (t106), (1), rfl, rfl, rfl, rfl, H', ⟨Nat.le_refl _⟩, by repeat (first | exact Drawn0.refl _ | apply Drawn0.step)⟩
   case round =>
    clear H'
    obtain ⟨x5_1, x6_1, x7_1, x8_1, rfl, rfl, rfl, rfl, HA, HK1, ⟨m1, rfl⟩⟩ := hrel
    cases gk with
    | zero => exact absurd HA.out (by simp [impl_readPoint.l0])
    | succ k1 =>
     have H := HA.out
     clear HA
     simp only [impl_readPoint.l0] at H
     by_cases c6 : x8_1 < t102
     ·rw [if_pos c6] at H
      have c6b0 := decide_eq_true c6
      clear c6
      by_cases c7 : x8_1 ≥ (l0.length : Int)
      ·rw [if_pos c7] at H
       have c7b0 : decide ((l0.length : Int) ≤ x8_1) = true := decide_eq_true c7
       clear c7
       simp only [Option.some.injEq, Prod.mk.injEq] at H
       obtain ⟨rfl, rfl⟩ := H
       go_wp2
       go_ret2
       exact ⟨rfl, by repeat (first | exact Drawn0.refl _ | apply Drawn0.step)⟩
      ·rw [if_neg c7] at H
       have c7b0 : decide ((l0.length : Int) ≤ x8_1) = false := decide_eq_false c7
       clear c7
       by_cases c8 : 0 ≤ x8_1
       ·rw [if_pos c8] at H
        have c8b0 := decide_eq_true c8
        clear c8
        by_cases c9 : x8_1 < (l0.length : Int)
        ·rw [if_pos c9] at H
         have c9b0 := decide_eq_true c9
         clear c9
         by_cases c10 : (rd l0 x8_1) < x6_1
         ·rw [if_pos c10] at H
          have c10b0 := decide_eq_true c10
          clear c10
          simp only [Option.some.injEq, Prod.mk.injEq] at H
          obtain ⟨rfl, rfl⟩ := H
          have p107 : 0 ≤ (x8_1 : Int) := of_decide_eq_true (by assumption)
          have q107 : x8_1 < (l0.length : Int) := of_decide_eq_true (by assumption)
          obtain ⟨ad107, e107, hx107_0⟩ := Kd.at_int HR0.out x8_1 p107 q107
          obtain rfl : ad101 = ad107 := (by injection e107)
          replace p107 := eq_true p107
          replace q107 := eq_true q107
          go_wp2
          go_ret2
          exact ⟨rfl, by repeat (first | exact Drawn0.refl _ | apply Drawn0.step)⟩
         ·rw [if_neg c10] at H
          have c10b0 := decide_eq_false c10
          clear c10
          by_cases c11 : (rd l0 x8_1) > x7_1
          ·rw [if_pos c11] at H
           have c11b0 : decide (x7_1 < (rd l0 x8_1)) = true := decide_eq_true c11
           clear c11
           simp only [Option.some.injEq, Prod.mk.injEq] at H
           obtain ⟨rfl, rfl⟩ := H
           have p107 : 0 ≤ (x8_1 : Int) := of_decide_eq_true (by assumption)
           have q107 : x8_1 < (l0.length : Int) := of_decide_eq_true (by assumption)
           obtain ⟨ad107, e107, hx107_0⟩ := Kd.at_int HR0.out x8_1 p107 q107
           obtain rfl : ad101 = ad107 := (by injection e107)
           replace p107 := eq_true p107
           replace q107 := eq_true q107
           have p108 : 0 ≤ (x8_1 : Int) := of_decide_eq_true (by assumption)
           have q108 : x8_1 < (l0.length : Int) := of_decide_eq_true (by assumption)
           obtain ⟨ad108, e108, hx108_0⟩ := Kd.at_int HR0.out x8_1 p108 q108
           obtain rfl : ad101 = ad108 := (by injection e108)
           replace p108 := eq_true p108
           replace q108 := eq_true q108
           go_wp2
           go_ret2
           exact ⟨rfl, by repeat (first | exact Drawn0.refl _ | apply Drawn0.step)⟩
          ·rw [if_neg c11] at H
           have c11b0 : decide (x7_1 < (rd l0 x8_1)) = false := decide_eq_false c11
           clear c11
           have H' := Ak H
           clear H
           have p107 : 0 ≤ (x8_1 : Int) := of_decide_eq_true (by assumption)
           have q107 : x8_1 < (l0.length : Int) := of_decide_eq_true (by assumption)
           obtain ⟨ad107, e107, hx107_0⟩ := Kd.at_int HR0.out x8_1 p107 q107
           obtain rfl : ad101 = ad107 := (by injection e107)
           replace p107 := eq_true p107
           replace q107 := eq_true q107
           have p108 : 0 ≤ (x8_1 : Int) := of_decide_eq_true (by assumption)
           have q108 : x8_1 < (l0.length : Int) := of_decide_eq_true (by assumption)
           obtain ⟨ad108, e108, hx108_0⟩ := Kd.at_int HR0.out x8_1 p108 q108
           obtain rfl : ad101 = ad108 := (by injection e108)
           replace p108 := eq_true p108
           replace q108 := eq_true q108
           have p109 : 0 ≤ (x8_1 : Int) := of_decide_eq_true (by assumption)
           have q109 : x8_1 < (l0.length : Int) := of_decide_eq_true (by assumption)
           obtain ⟨ad109, e109, hx109_0⟩ := Kd.at_int HR0.out x8_1 p109 q109
           obtain rfl : ad101 = ad109 := (by injection e109)
           replace p109 := eq_true p109
           replace q109 := eq_true q109
           go_wp2
           go_roundg k1
           case measure => have := HK1.out; omega
           case rel => exact ⟨(Go.bits .or .i64 (wrap64 (x5_1 * 64)) (wrap64 (Go.bits .and .u8 (rd l0 x8_1) 63))), (128), (191), (wrap64 (x8_1 + 1)), rfl, rfl, rfl, rfl, H', ⟨by have := HK1.out; omega⟩, by repeat (first | exact Drawn0.refl _ | apply Drawn0.step)⟩
        ·rw [if_neg c9] at H
         exact absurd H (by simp)
       ·rw [if_neg c8] at H
        exact absurd H (by simp)
     ·rw [if_neg c6] at H
      have c6b0 := decide_eq_false c6
      clear c6
      simp only [Option.some.injEq, Prod.mk.injEq] at H
      obtain ⟨rfl, rfl⟩ := H
      go_wp2
      go_ret2
      exact ⟨rfl, by repeat (first | exact Drawn0.refl _ | apply Drawn0.step)⟩
 ·rw [if_neg c2] at H
  exact absurd H (by simp)
def impl_UtfRead.l0 : Nat → List Int → List Int → Option (List Int)
 | 0, _, _ => none
 | k + 1, x0, x3 => if (x0.length : Int) > 0 then ((impl_readPoint.f k x0).bind fun bt107 => (if x3.length < 17592186044416 then (if 0 ≤ bt107.2 then (if bt107.2 ≤ (x0.length : Int) then (impl_UtfRead.l0 k (x0.drop (bt107.2 : Int).toNat) (x3 ++ [bt107.1])) else (none)) else (none)) else (none))) else (some x3)
def impl_UtfRead.f (k : Nat) (l0 : List Int) : Option (List Int) := if (l0.length : Int) > 3000 then (some ([] : List Int)) else ((bytes_TrimPrefix.f l0 (([239, 187, 191] : List Int))).bind fun t104 => (impl_UtfRead.l0 k t104 ([] : List Int)))
theorem impl_UtfRead.mono_l : ∀ k, (∀ y0 y1, LeO (impl_UtfRead.l0 k y0 y1) (impl_UtfRead.l0 (k + 1) y0 y1))
 | 0 => fun _ _ r h => by simp [impl_UtfRead.l0] at h
 | k + 1 => by
  have ih0 := impl_UtfRead.mono_l k
  ·intro y0 y1
   unfold impl_UtfRead.l0
   repeat' (with_reducible first | exact ih0 _ _ | exact impl_readPoint.mono _ _ | exact LeO.refl _ | exact LeO.none _ | refine LeO.ite ?_ ?_ | refine LeO.bind ?_ (fun _ => ?_))
theorem impl_UtfRead.mono : ∀ a0 k, LeO (impl_UtfRead.f k a0) (impl_UtfRead.f (k + 1) a0) := by
 intro a0 k
 have ih0 := impl_UtfRead.mono_l k
 unfold impl_UtfRead.f
 repeat' (with_reducible first | exact ih0 _ _ | exact impl_readPoint.mono _ _ | exact LeO.refl _ | exact LeO.none _ | refine LeO.ite ?_ ?_ | refine LeO.bind ?_ (fun _ => ?_))
theorem impl_UtfRead.calls (k : Nat) (A0 : Option Addr) (c0 : Nat) (l0 : List Int) (r : List Int) (w : World) (hr0 : Kd.C (Kd.int .u8) w A0 l0.length l0) (hc0 : l0.length ≤ c0) (h : impl_UtfRead.f k l0 = some r) :
 Calls Try.prog 131 #[.slice A0 l0.length c0] w fun e w' => ∃ v0_ : Value, e = .returned (v0_) ∧ Kd.R (Kd.int .i64) 3 w' w.heap.size (fun _ => True) v0_ r ∧ Below w.heap.size w w' := by
 have HR0 := Ak hr0
 have HC0 := Ak hc0
 clear hr0 hc0
 have HB := Ak (Below.refl w.heap.size w)
 have H : (if (l0.length : Int) > 3000 then (some ([] : List Int)) else ((bytes_TrimPrefix.f l0 (([239, 187, 191] : List Int))).bind fun t104 => (impl_UtfRead.l0 k t104 ([] : List Int)))) = some r := h
 clear h
 by_cases c2 : (l0.length : Int) > 3000
 ·rw [if_pos c2] at H
  have c2b0 : decide (3000 < (l0.length : Int)) = true := decide_eq_true c2
  have c2b1 : decide (3000 < l0.length) = true := decide_eq_true (by omega)
  clear c2
  obtain rfl := Oi H
  go_enter Try.func131, Try.ntmps131
  go_wp2
  go_ret
  exact ⟨_, rfl, by first | exact Kd.R_nil _ _ _ _ _ | exact Kd.N_nil _ _ _ _ _ | exact Kd.V_nil _ _ _ _ _ | exact Kd.Q_nil _ _ _ _ _ | exact Kd.S_nil _ _ _ _ _, by repeat (first | exact HB.out | apply below_alloc | apply pw_below_drewN | apply below_drew1)⟩
 ·rw [if_neg c2] at H
  have c2b0 : decide (3000 < (l0.length : Int)) = false := decide_eq_false c2
  have c2b1 : decide (3000 < l0.length) = false := decide_eq_false (by omega)
  clear c2
  obtain ⟨y101, hy101⟩ : ∃ y_ : List Int, y_ = (([239, 187, 191] : List Int)) := ⟨_, rfl⟩
  replace H : ((bytes_TrimPrefix.f l0 y101).bind fun t104 => (impl_UtfRead.l0 k t104 ([] : List Int))) = some r := by rw [hy101]; exact H
  have Ny101 := Ak hy101
  clear hy101
  replace H := Ob H
  obtain ⟨t104, A30, H⟩ := H
  replace H : (impl_UtfRead.l0 k t104 ([] : List Int)) = some r := H
  have A3 := Ak A30
  clear A30
  have H' := Ak H
  clear H
  go_enter Try.func131, Try.ntmps131
  go_wp2_with (first | ((with_reducible refine gate_dst (N := 10) rfl ?_); refine Kd.R_lit (Kd.int .u8) _ 5 ?hg (N := 10) ?hd (xs := ([239, 187, 191] : List Int)) (inner := [.int .u8 239, .int .u8 187, .int .u8 191]) (ok := fun _ => True) (okp := fun _ => True) ?hr ?hp (fun _ hk => hk) trivial (Below.refl _ _) (Nat.le_refl _) (by simp) ?_; (case hd => rfl); (case hg => rfl); (case hr => first | (go_simp; done) | (go_simp; rfl)); (case hp => exact (Reps.one (show Kd.M (Kd.int .u8) _ _ _ 239 [.int .u8 239] from rfl) (Reps.one (show Kd.M (Kd.int .u8) _ _ _ 187 [.int .u8 187] from rfl) (Reps.one (show Kd.M (Kd.int .u8) _ _ _ 191 [.int .u8 191] from rfl) (Reps.none _ _))))); intro v102 w4 ho5 hb hg_ hnew_; clear hg_ hnew_; (first | rw [← Ny101.out] at ho5 | (simp only [Int.reduceToNat] at ho5; rw [← Ny101.out] at ho5)); have n0_ := Ak (Kd.R_lower ho5 (below_size (by repeat (first | exact HB.out | apply below_alloc | apply pw_below_drewN | apply below_drew1)))); have n1_ := Ak (below_step (by repeat (first | exact HB.out | apply below_alloc | apply pw_below_drewN | apply below_drew1)) hb); clear HB; have HO103 := n0_; have HB := n1_; clear n0_ n1_; clear hb ho5; obtain ⟨Ao6, co6, eo6⟩ := Kd.R_slice HO103.out; subst eo6) | (go_at_call 140; (with_reducible refine (bytes_TrimPrefix.calls (fun k_ => k_ < w.heap.size) _ _ l0 _ _ y101 t104 _ ?side1 ?side2 ?side3 A3.out).mono ?_); (case side1 => exact Kd.V_mk HC0.out (Kd.F_below (Kd.C_F (Kd.heap_int .u8) HR0.out) (by repeat (first | exact HB.out | apply below_alloc | apply pw_below_drewN | apply below_drew1)))); (case side2 => repeat (first | exact (Kd.R_reads' HO103.out).2.2 | (with_reducible refine Kd.C_alloc ?_ _) | (with_reducible refine Kd.C_drewN ?_ _) | (with_reducible refine Kd.C_drew ?_))); (case side3 => exact (Kd.R_reads' HO103.out).2.1); rintro e w7 ⟨v105, rfl, ho0, hb⟩; have n0_ := Ak (Kd.R_below HO103.out hb); have n1_ := Ak (Kd.V_lower (Kd.V_mono (ok' := fun k_ => some k_ ≠ (.slice Ao6 y101.length co6 : Value).ownBlock) ho0 (fun k_ hk_ => Or.elim hk_ (fun hs_ => fun e_ => Nat.not_le.2 hs_ (Kd.R_base HO103.out k_ e_.symm)) (fun hn_ => (Kd.fresh' (Kd.R_lt HO103.out) k_ hn_)))) (below_size (by repeat (first | exact HB.out | apply below_alloc | apply pw_below_drewN | apply below_drew1)))); have n2_ := Ak (below_step (by repeat (first | exact HB.out | apply below_alloc | apply pw_below_drewN | apply below_drew1)) hb); clear HO103; clear HB; have HO103 := n0_; have HO106 := n1_; have HB := n2_; clear n0_ n1_ n2_; (try clear hb); (try clear hb2); (try clear hk); (try clear hi); (try clear ho0)))
  go_loopg [0, 3] k (fun kq v0 v3 w' => ∃ (x0_1 : List Int) (x3_1 : List Int), Aside0 (impl_UtfRead.l0 kq x0_1 x3_1 = some r) ∧ Aside0 (kq ≤ k) ∧ Aside0 (Kd.V (Kd.int .u8) 5 w' w.heap.size (fun k_ => some k_ ≠ (v3 : Value).ownBlock) v0 x0_1) ∧ Aside0 (Kd.R (Kd.int .i64) 3 w' w.heap.size (fun _ => True) v3 x3_1) ∧ Aside0 (Below w.heap.size w w'))
  case atStart => exact ⟨(t104), (([] : List Int)), H', ⟨Nat.le_refl _⟩, ⟨by (with_reducible repeat (first | apply Kd.V_alloc | apply Kd.V_drewN | apply Kd.V_drew)); exact Kd.V_mono HO106.out (fun _ hk => (by simp [Value.ownBlock]))⟩, ⟨by first | exact Kd.R_nil _ _ _ _ _ | exact Kd.N_nil _ _ _ _ _ | exact Kd.V_nil _ _ _ _ _ | exact Kd.Q_nil _ _ _ _ _ | exact Kd.S_nil _ _ _ _ _⟩, ⟨by repeat (first | exact HB.out | apply below_alloc | apply pw_below_drewN | apply below_drew1)⟩⟩
  case round =>
   clear H'
   obtain ⟨x0_1, x3_1, HA, HK1, HO_0, HO_3, HB⟩ := hrel
   cases gk with
   | zero => exact absurd HA.out (by simp [impl_UtfRead.l0])
   | succ k1 =>
    have H := HA.out
    clear HA
    simp only [impl_UtfRead.l0] at H
    by_cases c8 : (x0_1.length : Int) > 0
    ·rw [if_pos c8] at H
     have c8b0 : decide (0 < (x0_1.length : Int)) = true := decide_eq_true c8
     have c8b1 : decide (0 < x0_1.length) = true := decide_eq_true (by omega)
     clear c8
     replace H := Ob H
     obtain ⟨⟨t107, t108⟩, A90, H⟩ := H
     replace H : (if x3_1.length < 17592186044416 then (if 0 ≤ t108 then (if t108 ≤ (x0_1.length : Int) then (impl_UtfRead.l0 k1 (x0_1.drop (t108 : Int).toNat) (x3_1 ++ [t107])) else (none)) else (none)) else (none)) = some r := H
     have A9 := Ak A90
     clear A90
     by_cases c10 : x3_1.length < 17592186044416
     ·rw [if_pos c10] at H
      have LMc10 := Ak c10
      clear c10
      obtain ⟨y109, hy109⟩ : ∃ y_ : List Int, y_ = (x3_1 ++ [t107]) := ⟨_, rfl⟩
      replace H : (if 0 ≤ t108 then (if t108 ≤ (x0_1.length : Int) then (impl_UtfRead.l0 k1 (x0_1.drop (t108 : Int).toNat) y109) else (none)) else (none)) = some r := by rw [hy109]; exact H
      have Ny109 := Ak hy109
      clear hy109
      by_cases c11 : 0 ≤ t108
      ·rw [if_pos c11] at H
       have c11b0 := eq_true c11
       have c11b1 := decide_eq_true c11
       clear c11
       by_cases c12 : t108 ≤ (x0_1.length : Int)
       ·rw [if_pos c12] at H
        have c12b0 := eq_true c12
        have c12b1 := decide_eq_true c12
        clear c12
        obtain ⟨y112, hy112⟩ : ∃ y_ : List Int, y_ = (x0_1.drop (t108 : Int).toNat) := ⟨_, rfl⟩
        replace H : (impl_UtfRead.l0 k1 y112 y109) = some r := by rw [hy112]; exact H
        have Ny112 := Ak hy112
        clear hy112
        have H' := Ak H
        clear H
        obtain ⟨Ao13, co13, eo13⟩ := Kd.V_slice HO_0.out
        subst eo13
        go_wp2_with (first | (go_at_call 141; (with_reducible refine (impl_readPoint.calls k1 _ _ x0_1 t107 t108 _ ?side1 ?side2 A9.out).mono ?_); (case side1 => repeat (first | exact (Kd.V_reads' HO_0.out).2.2 | (with_reducible refine Kd.C_alloc ?_ _) | (with_reducible refine Kd.C_drewN ?_ _) | (with_reducible refine Kd.C_drew ?_))); (case side2 => exact (Kd.V_reads' HO_0.out).2.1); rintro e w' ⟨rfl, ⟨nd, rfl⟩⟩) | ((with_reducible refine gate_builtin (b := .append) (xs := #[.tmp 20, .tmp 22]) rfl ?_); at_builtin; refine Kd.R_append (Kd.int .i64) (w0 := w) w.heap.size rfl (.tmp 20) (.tmp 22) 37 3 (.int .i64 0) 8 rfl Try.underlying37 info3 rfl (by decide) (by omega) u3 x3_1 t107 [.int .i64 t107] (fun _ => True) (fun _ => False) rfl rfl ?aP (fun _ hk => hk.elim) ?aF ?aO ?aB ?aS ?aL ?_; (case aP => exact rfl); (case aB => exact (by repeat (first | exact HB.out | apply below_alloc | apply pw_below_drewN | apply below_drew1))); (case aF => exact (fun _ _ => trivial)); (case aO => exact HO_3.out); (case aS => exact (below_size (by repeat (first | exact HB.out | apply below_alloc | apply pw_below_drewN | apply below_drew1)))); (case aL => have := LMc10.out; omega); intro v110 w14 ho hb hg hat; rw [← Ny109.out] at ho; have n0_ := Ak (Kd.V_afterv (ok := (fun _ => True)) (by (with_reducible repeat (first | apply Kd.V_alloc | apply Kd.V_drewN | apply Kd.V_drew)); exact Kd.V_mono HO_0.out (fun _ hk => ⟨trivial, hk⟩)) hg hat); have n1_ := Ak (hb); have n2_ := Ak (ho); clear HO_0; clear HB; clear HO_3; have HO_0 := n0_; have HB := n1_; have HO111 := n2_; clear n0_ n1_ n2_; clear ho hb hg hat; have q15 : (t108 : Int) ≤ ((x0_1.length : Int) : Int) := of_decide_eq_true (by assumption); obtain ⟨i015, hi015, _, hsz15, _⟩ := info_parts info5; have hroom15 : x0_1.length ≤ co13 := (Kd.V_reads' HO_0.out).2.1; have hC15 : Kd.F (Kd.int .u8) _ _ Ao13 x0_1.length x0_1 := (Kd.V_at (base := w.heap.size) HO_0.out).2.2; have q015 : (0 : Int) ≤ (t108 : Int) := of_decide_eq_true (by assumption); have hcut15 := cut_from (P := Try.prog) 52 5 .i64 Try.underlying52 hi015 1 hsz15 Ao13 x0_1.length co13 t108 q015 q15; have hr15 := Kd.F_cut (m := (t108 : Int).toNat) (c := co13) hC15 (by omega) hroom15; obtain ⟨A15, hA15⟩ : ∃ A1, A1 = (if co13 = (t108 : Int).toNat then Ao13 else (Ao13 : Option Addr).map (·.add ((t108 : Int).toNat * 1))) := ⟨_, rfl⟩; obtain ⟨c15, hc15⟩ : ∃ c1, c1 = co13 - (t108 : Int).toNat := ⟨_, rfl⟩; have hy15 : y112.length = x0_1.length - (t108 : Int).toNat := (by rw [Ny112.out, List.length_drop] <;> omega); rw [show (x0_1).drop (t108 : Int).toNat = y112 from Ny112.out.symm] at hr15; replace hr15 : Kd.F (Kd.int .u8) _ _ A15 y112.length y112 := (by rw [hA15]; exact hr15); rw [← hy15, ← hA15, ← hc15] at hcut15; have HO116 := Ak (show Kd.V (Kd.int .u8) 5 _ w.heap.size _ (.slice A15 y112.length c15) y112 from Kd.V_mk (by rw [hy15, hc15]; exact Nat.sub_le_sub_right hroom15 _) hr15); have HC116 := Ak (show y112.length ≤ c15 from by rw [hy15, hc15]; exact Nat.sub_le_sub_right hroom15 _); clear hr15 hC15 hroom15 hi015 hsz15 hc15; have KY15 := Ak hy15; have KA15 := Ak hA15; clear hy15 hA15; replace q15 := eq_true q15))
        go_roundg k1
        case measure => have := HK1.out; omega
        case rel => exact ⟨(y112), (y109), H', ⟨by have := HK1.out; omega⟩, ⟨by (with_reducible repeat (first | apply Kd.V_alloc | apply Kd.V_drewN | apply Kd.V_drew)); exact Kd.V_mono HO116.out (fun _ hk => hk.2)⟩, ⟨by (with_reducible repeat (first | apply Kd.R_alloc | apply Kd.R_drewN | apply Kd.R_drew)); exact HO111.out⟩, ⟨by repeat (first | exact HB.out | apply below_alloc | apply pw_below_drewN | apply below_drew1)⟩⟩
       ·rw [if_neg c12] at H
        exact absurd H (by simp)
      ·rw [if_neg c11] at H
       exact absurd H (by simp)
     ·rw [if_neg c10] at H
      exact absurd H (by simp)
    ·rw [if_neg c8] at H
     have c8b0 : decide (0 < (x0_1.length : Int)) = false := decide_eq_false c8
     have c8b1 : decide (0 < x0_1.length) = false := decide_eq_false (by omega)
     clear c8
     obtain rfl := Oi H
     obtain ⟨Ao16, co16, eo16⟩ := Kd.V_slice HO_0.out
     subst eo16
     go_wp2
     go_ret
     exact ⟨_, rfl, by (with_reducible repeat (first | apply Kd.R_alloc | apply Kd.R_drewN | apply Kd.R_drew)); exact HO_3.out, by repeat (first | exact HB.out | apply below_alloc | apply pw_below_drewN | apply below_drew1)⟩
def impl_UtfOk.f (k : Nat) (l0 : List Int) : Option (Bool) := if (l0.length : Int) ≤ 3000 then ((impl_UtfRead.f k l0).bind fun t101 => ((impl_PointsPut.f k t101).bind fun t104 => ((bytes_Equal.f t104 l0).bind fun t107 => (some t107)))) else (some false)
theorem impl_UtfOk.mono : ∀ a0 k, LeO (impl_UtfOk.f k a0) (impl_UtfOk.f (k + 1) a0) := by
 intro a0 k
 unfold impl_UtfOk.f
 repeat' (with_reducible first | exact impl_PointsPut.mono _ _ | exact impl_UtfRead.mono _ _ | exact LeO.refl _ | exact LeO.none _ | refine LeO.ite ?_ ?_ | refine LeO.bind ?_ (fun _ => ?_))
theorem impl_UtfOk.calls (k : Nat) (A0 : Option Addr) (c0 : Nat) (l0 : List Int) (r : Bool) (w : World) (hr0 : Kd.C (Kd.int .u8) w A0 l0.length l0) (hc0 : l0.length ≤ c0) (h : impl_UtfOk.f k l0 = some r) :
 Calls Try.prog 113 #[.slice A0 l0.length c0] w fun e w' => e = .returned (.bool r) ∧ Below w.heap.size w w' := by
 have HR0 := Ak hr0
 have HC0 := Ak hc0
 clear hr0 hc0
 have HB := Ak (Below.refl w.heap.size w)
 have H : (if (l0.length : Int) ≤ 3000 then ((impl_UtfRead.f k l0).bind fun t101 => ((impl_PointsPut.f k t101).bind fun t104 => ((bytes_Equal.f t104 l0).bind fun t107 => (some t107)))) else (some false)) = some r := h
 clear h
 by_cases c2 : (l0.length : Int) ≤ 3000
 ·rw [if_pos c2] at H
  have c2b0 := decide_eq_true c2
  have c2b1 : decide (l0.length ≤ 3000) = true := decide_eq_true (by omega)
  clear c2
  replace H := Ob H
  obtain ⟨t101, A30, H⟩ := H
  replace H : ((impl_PointsPut.f k t101).bind fun t104 => ((bytes_Equal.f t104 l0).bind fun t107 => (some t107))) = some r := H
  have A3 := Ak A30
  clear A30
  replace H := Ob H
  obtain ⟨t104, A40, H⟩ := H
  replace H : ((bytes_Equal.f t104 l0).bind fun t107 => (some t107)) = some r := H
  have A4 := Ak A40
  clear A40
  replace H := Ob H
  obtain ⟨t107, A50, H⟩ := H
  replace H : (some t107) = some r := H
  have A5 := Ak A50
  clear A50
  obtain rfl := Oi H
  go_enter Try.func113, Try.ntmps113
  go_wp2_with (first | (go_at_call 131; (with_reducible refine (impl_UtfRead.calls k _ _ l0 t101 _ ?side1 ?side2 A3.out).mono ?_); (case side1 => repeat (first | exact HR0.out | (with_reducible refine Kd.C_alloc ?_ _) | (with_reducible refine Kd.C_drewN ?_ _) | (with_reducible refine Kd.C_drew ?_))); (case side2 => exact HC0.out); rintro e w6 ⟨v102, rfl, ho0, hb⟩; replace HO103 := Ak (Kd.R_lower ho0 (below_size (by repeat (first | exact HB.out | apply below_alloc | apply pw_below_drewN | apply below_drew1)))); replace HB := Ak (below_step (by repeat (first | exact HB.out | apply below_alloc | apply pw_below_drewN | apply below_drew1)) hb); (try clear hb); (try clear ho0); obtain ⟨Ao7, co7, eo7⟩ := Kd.R_slice HO103.out; subst eo7) | (go_at_call 130; (with_reducible refine (impl_PointsPut.calls k _ _ t101 t104 _ ?side1 ?side2 A4.out).mono ?_); (case side1 => repeat (first | exact (Kd.R_reads' HO103.out).2.2 | (with_reducible refine Kd.C_alloc ?_ _) | (with_reducible refine Kd.C_drewN ?_ _) | (with_reducible refine Kd.C_drew ?_))); (case side2 => exact (Kd.R_reads' HO103.out).2.1); rintro e w8 ⟨v105, rfl, ho0, hb⟩; replace HO103 := Ak (Kd.R_below HO103.out hb); replace HO106 := Ak (Kd.R_lower ho0 (below_size (by repeat (first | exact HB.out | apply below_alloc | apply pw_below_drewN | apply below_drew1)))); replace HB := Ak (below_step (by repeat (first | exact HB.out | apply below_alloc | apply pw_below_drewN | apply below_drew1)) hb); (try clear hb); (try clear ho0); obtain ⟨Ao9, co9, eo9⟩ := Kd.R_slice HO106.out; subst eo9) | (go_at_call 129; (with_reducible refine (bytes_Equal.calls _ _ t104 _ _ l0 t107 _ ?side1 ?side2 ?side3 ?side4 A5.out).mono ?_); (case side1 => repeat (first | exact (Kd.R_reads' HO106.out).2.2 | (with_reducible refine Kd.C_alloc ?_ _) | (with_reducible refine Kd.C_drewN ?_ _) | (with_reducible refine Kd.C_drew ?_))); (case side2 => exact (Kd.R_reads' HO106.out).2.1); (case side3 => exact (Kd.C_below HR0.out HB.out)); (case side4 => exact HC0.out); rintro e w' ⟨rfl, ⟨nd, rfl⟩⟩))
  go_ret
  exact ⟨rfl, by repeat (first | exact HB.out | apply below_alloc | apply pw_below_drewN | apply below_drew1)⟩
 ·rw [if_neg c2] at H
  have c2b0 := decide_eq_false c2
  have c2b1 : decide (l0.length ≤ 3000) = false := decide_eq_false (by omega)
  clear c2
  obtain rfl := Oi H
  go_enter Try.func113, Try.ntmps113
  go_wp2
  go_ret
  exact ⟨rfl, by repeat (first | exact HB.out | apply below_alloc | apply pw_below_drewN | apply below_drew1)⟩
def impl_textOk.f (k : Nat) (a0 : ByteArray) : Option (Bool) := if a0.size ≤ 140737488355328 then ((impl_UtfOk.f k (bytesOf a0)).bind fun t104 => (some t104)) else (none)
theorem impl_textOk.mono : ∀ a0 k, LeO (impl_textOk.f k a0) (impl_textOk.f (k + 1) a0) := by
 intro a0 k
 unfold impl_textOk.f
 repeat' (with_reducible first | exact impl_UtfOk.mono _ _ | exact LeO.refl _ | exact LeO.none _ | refine LeO.ite ?_ ?_ | refine LeO.bind ?_ (fun _ => ?_))
theorem impl_textOk.calls (k : Nat) (a0 : ByteArray) (r : Bool) (w : World) (h : impl_textOk.f k a0 = some r) :
 Calls Try.prog 86 #[.string a0] w fun e w' => e = .returned (.bool r) ∧ Below w.heap.size w w' := by
 have HB := Ak (Below.refl w.heap.size w)
 have H : (if a0.size ≤ 140737488355328 then ((impl_UtfOk.f k (bytesOf a0)).bind fun t104 => (some t104)) else (none)) = some r := h
 clear h
 by_cases c2 : a0.size ≤ 140737488355328
 ·rw [if_pos c2] at H
  have c2b0 := eq_true c2
  have c2b1 := decide_eq_true c2
  clear c2
  obtain ⟨y101, hy101⟩ : ∃ y_ : List Int, y_ = (bytesOf a0) := ⟨_, rfl⟩
  replace H : ((impl_UtfOk.f k y101).bind fun t104 => (some t104)) = some r := by rw [hy101]; exact H
  have Ny101 := Ak hy101
  clear hy101
  replace H := Ob H
  obtain ⟨t104, A30, H⟩ := H
  replace H : (some t104) = some r := H
  have A3 := Ak A30
  clear A30
  obtain rfl := Oi H
  go_enter Try.func86, Try.ntmps86
  go_wp2_with (first | ((with_reducible refine gate_dst (N := 4) rfl ?_); refine conv_V _ 5 rfl (N' := 4) rfl 9 52 _ rfl a0 rfl Try.underlying9 Try.underlying52 Try.underlying5 (of_decide_eq_true (by assumption) : a0.size ≤ 140737488355328) (ok := fun k_ => w.heap.size ≤ k_) (Nat.le_refl _) (Below.refl _ _) (Nat.le_refl _) ?_; intro v102 w4 ho5 hb hg_ hnew_; clear hg_ hnew_; (first | rw [← Ny101.out] at ho5 | (simp only [Int.reduceToNat] at ho5; rw [← Ny101.out] at ho5)); replace HO103 := Ak (Kd.V_lower (Kd.V_mono (ok' := fun k_ => True) ho5 (fun k_ hk_ => trivial)) (below_size (HB.out))); replace HB := Ak (below_step (HB.out) hb); clear hb ho5; obtain ⟨Ao6, co6, eo6⟩ := Kd.V_slice HO103.out; subst eo6) | (go_at_call 113; (with_reducible refine (impl_UtfOk.calls k _ _ y101 t104 _ ?side1 ?side2 A3.out).mono ?_); (case side1 => repeat (first | exact (Kd.V_reads' HO103.out).2.2 | (with_reducible refine Kd.C_alloc ?_ _) | (with_reducible refine Kd.C_drewN ?_ _) | (with_reducible refine Kd.C_drew ?_))); (case side2 => exact (Kd.V_reads' HO103.out).2.1); rintro e w7 ⟨rfl, hb⟩; replace HO103 := Ak (Kd.V_below HO103.out hb); replace HB := Ak (below_step (HB.out) hb); (try clear hb); (try clear hb2); (try clear hk); (try clear hi)))
  go_ret
  exact ⟨by first | rfl | (simp [*] <;> rfl), HB.out⟩
 ·rw [if_neg c2] at H
  exact absurd H (by simp)
def impl_doctypeOk.f (k : Nat) (a0 : ByteArray) : Option (Bool) := if (a0.size : Int) ≤ 60 then ((impl_textOk.f k a0).bind fun t101 => (some t101)) else (some false)
theorem impl_doctypeOk.mono : ∀ a0 k, LeO (impl_doctypeOk.f k a0) (impl_doctypeOk.f (k + 1) a0) := by
 intro a0 k
 unfold impl_doctypeOk.f
 repeat' (with_reducible first | exact impl_textOk.mono _ _ | exact LeO.refl _ | exact LeO.none _ | refine LeO.ite ?_ ?_ | refine LeO.bind ?_ (fun _ => ?_))
theorem impl_doctypeOk.calls (k : Nat) (a0 : ByteArray) (r : Bool) (w : World) (h : impl_doctypeOk.f k a0 = some r) :
 Calls Try.prog 83 #[.string a0] w fun e w' => e = .returned (.bool r) ∧ Below w.heap.size w w' := by
 have HB := Ak (Below.refl w.heap.size w)
 have H : (if (a0.size : Int) ≤ 60 then ((impl_textOk.f k a0).bind fun t101 => (some t101)) else (some false)) = some r := h
 clear h
 by_cases c2 : (a0.size : Int) ≤ 60
 ·rw [if_pos c2] at H
  have c2b0 := decide_eq_true c2
  have c2b1 : decide (a0.size ≤ 60) = true := decide_eq_true (by omega)
  clear c2
  replace H := Ob H
  obtain ⟨t101, A30, H⟩ := H
  replace H : (some t101) = some r := H
  have A3 := Ak A30
  clear A30
  obtain rfl := Oi H
  go_enter Try.func83, Try.ntmps83
  go_wp2_with (first | (go_at_call 86; (with_reducible refine (impl_textOk.calls k a0 t101 _ A3.out).mono ?_); rintro e w4 ⟨rfl, hb⟩; have n0_ := Ak (below_step (by repeat (first | exact HB.out | apply below_alloc | apply pw_below_drewN | apply below_drew1)) hb); clear HB; have HB := n0_; clear n0_; (try clear hb); (try clear hb2); (try clear hk); (try clear hi)))
  go_ret
  exact ⟨rfl, by repeat (first | exact HB.out | apply below_alloc | apply pw_below_drewN | apply below_drew1)⟩
 ·rw [if_neg c2] at H
  have c2b0 := decide_eq_false c2
  have c2b1 : decide (a0.size ≤ 60) = false := decide_eq_false (by omega)
  clear c2
  obtain rfl := Oi H
  go_enter Try.func83, Try.ntmps83
  go_wp2
  go_ret
  exact ⟨rfl, by repeat (first | exact HB.out | apply below_alloc | apply pw_below_drewN | apply below_drew1)⟩
def impl_IsBlank.f (a0 : Int) : Option (Bool) := if a0 = 9 then (some true) else (if a0 = 10 then (some true) else (if a0 = 12 then (some true) else (some (a0 == 32))))
theorem impl_IsBlank.calls (a0 : Int) (r : Bool) (w : World) (h : impl_IsBlank.f a0 = some r) :
 Calls Try.prog 126 #[.int .i64 a0] w fun e w' => e = .returned (.bool r) ∧ Drawn0 w w' := by
 have H : (if a0 = 9 then (some true) else (if a0 = 10 then (some true) else (if a0 = 12 then (some true) else (some (a0 == 32))))) = some r := h
 clear h
 by_cases c2 : a0 = 9
 ·rw [if_pos c2] at H
  have c2b0 := beq_iff_eq.mpr c2
  have c2b1 := bne_eq_false_iff_eq.mpr c2
  clear c2
  obtain rfl := Oi H
  go_enter Try.func126, Try.ntmps126
  go_wp2
  go_ret
  exact ⟨rfl, by repeat (first | exact Drawn0.refl _ | apply Drawn0.step)⟩
 ·rw [if_neg c2] at H
  have c2b0 := beq_eq_false_iff_ne.mpr c2
  have c2b1 := bne_iff_ne.mpr c2
  by_cases c3 : a0 = 10
  ·rw [if_pos c3] at H
   have c3b0 := beq_iff_eq.mpr c3
   have c3b1 := bne_eq_false_iff_eq.mpr c3
   clear c3
   obtain rfl := Oi H
   go_enter Try.func126, Try.ntmps126
   go_wp2
   go_ret
   exact ⟨rfl, by repeat (first | exact Drawn0.refl _ | apply Drawn0.step)⟩
  ·rw [if_neg c3] at H
   have c3b0 := beq_eq_false_iff_ne.mpr c3
   have c3b1 := bne_iff_ne.mpr c3
   by_cases c4 : a0 = 12
   ·rw [if_pos c4] at H
    have c4b0 := beq_iff_eq.mpr c4
    have c4b1 := bne_eq_false_iff_eq.mpr c4
    clear c4
    obtain rfl := Oi H
    go_enter Try.func126, Try.ntmps126
    go_wp2
    go_ret
    exact ⟨rfl, by repeat (first | exact Drawn0.refl _ | apply Drawn0.step)⟩
   ·rw [if_neg c4] at H
    have c4b0 := beq_eq_false_iff_ne.mpr c4
    have c4b1 := bne_iff_ne.mpr c4
    obtain rfl := Oi H
    go_enter Try.func126, Try.ntmps126
    go_wp2
    go_ret
    exact ⟨rfl, by repeat (first | exact Drawn0.refl _ | apply Drawn0.step)⟩
def impl_isOuter.f (a0 : Int) : Option (Bool) := (impl_IsBlank.f a0).bind fun t101 => (if t101 = true then (some true) else (if a0 = 47 then (some true) else (if a0 = 62 then (some true) else (if a0 = 0 then (some true) else ((impl_inRange.f a0 65 90).bind fun t102 => (some t102))))))
theorem impl_isOuter.calls (a0 : Int) (r : Bool) (w : World) (h : impl_isOuter.f a0 = some r) :
 Calls Try.prog 110 #[.int .i64 a0] w fun e w' => e = .returned (.bool r) ∧ Drawn0 w w' := by
 have H : ((impl_IsBlank.f a0).bind fun t101 => (if t101 = true then (some true) else (if a0 = 47 then (some true) else (if a0 = 62 then (some true) else (if a0 = 0 then (some true) else ((impl_inRange.f a0 65 90).bind fun t102 => (some t102))))))) = some r := h
 clear h
 replace H := Ob H
 obtain ⟨t101, A20, H⟩ := H
 replace H : (if t101 = true then (some true) else (if a0 = 47 then (some true) else (if a0 = 62 then (some true) else (if a0 = 0 then (some true) else ((impl_inRange.f a0 65 90).bind fun t102 => (some t102)))))) = some r := H
 have A2 := Ak A20
 clear A20
 by_cases c3 : t101 = true
 ·subst c3
  rw [if_pos rfl] at H
  obtain rfl := Oi H
  go_enter Try.func110, Try.ntmps110
  go_wp2_with (first | (go_at_call 126; (with_reducible refine (impl_IsBlank.calls a0 true _ A2.out).mono ?_); rintro e w' ⟨rfl, ⟨nd, rfl⟩⟩))
  go_ret
  exact ⟨rfl, by repeat (first | exact Drawn0.refl _ | apply Drawn0.step)⟩
 ·replace c3 := Bool.eq_false_iff.mpr c3
  subst c3
  rw [if_neg (show ¬ (false = true) by decide)] at H
  by_cases c4 : a0 = 47
  ·rw [if_pos c4] at H
   have c4b0 := beq_iff_eq.mpr c4
   have c4b1 := bne_eq_false_iff_eq.mpr c4
   clear c4
   obtain rfl := Oi H
   go_enter Try.func110, Try.ntmps110
   go_wp2_with (first | (go_at_call 126; (with_reducible refine (impl_IsBlank.calls a0 false _ A2.out).mono ?_); rintro e w' ⟨rfl, ⟨nd, rfl⟩⟩))
   go_ret
   exact ⟨rfl, by repeat (first | exact Drawn0.refl _ | apply Drawn0.step)⟩
  ·rw [if_neg c4] at H
   have c4b0 := beq_eq_false_iff_ne.mpr c4
   have c4b1 := bne_iff_ne.mpr c4
   by_cases c5 : a0 = 62
   ·rw [if_pos c5] at H
    have c5b0 := beq_iff_eq.mpr c5
    have c5b1 := bne_eq_false_iff_eq.mpr c5
    clear c5
    obtain rfl := Oi H
    go_enter Try.func110, Try.ntmps110
    go_wp2_with (first | (go_at_call 126; (with_reducible refine (impl_IsBlank.calls a0 false _ A2.out).mono ?_); rintro e w' ⟨rfl, ⟨nd, rfl⟩⟩))
    go_ret
    exact ⟨rfl, by repeat (first | exact Drawn0.refl _ | apply Drawn0.step)⟩
   ·rw [if_neg c5] at H
    have c5b0 := beq_eq_false_iff_ne.mpr c5
    have c5b1 := bne_iff_ne.mpr c5
    by_cases c6 : a0 = 0
    ·rw [if_pos c6] at H
     have c6b0 := beq_iff_eq.mpr c6
     have c6b1 := bne_eq_false_iff_eq.mpr c6
     clear c6
     obtain rfl := Oi H
     go_enter Try.func110, Try.ntmps110
     go_wp2_with (first | (go_at_call 126; (with_reducible refine (impl_IsBlank.calls a0 false _ A2.out).mono ?_); rintro e w' ⟨rfl, ⟨nd, rfl⟩⟩))
     go_ret
     exact ⟨rfl, by repeat (first | exact Drawn0.refl _ | apply Drawn0.step)⟩
    ·rw [if_neg c6] at H
     have c6b0 := beq_eq_false_iff_ne.mpr c6
     have c6b1 := bne_iff_ne.mpr c6
     replace H := Ob H
     obtain ⟨t102, A70, H⟩ := H
     replace H : (some t102) = some r := H
     have A7 := Ak A70
     clear A70
     obtain rfl := Oi H
     go_enter Try.func110, Try.ntmps110
     go_wp2_with (first | (go_at_call 126; (with_reducible refine (impl_IsBlank.calls a0 false _ A2.out).mono ?_); rintro e w' ⟨rfl, ⟨nd, rfl⟩⟩) | (go_at_call 40; (with_reducible refine (impl_inRange.calls a0 65 90 t102 _ A7.out).mono ?_); rintro e w' ⟨rfl, ⟨nd, rfl⟩⟩))
     go_ret
     exact ⟨rfl, by repeat (first | exact Drawn0.refl _ | apply Drawn0.step)⟩
mutual
def impl_NameOk.j0 : Nat → ByteArray → Bool → Option (Bool)
 | 0, _, _ => none
 | k + 1, x0, x23 => if x23 = true then (some false) else (if x0.size ≤ 140737488355328 then ((some (bytesOf x0 : List Int)).bind fun y103 => (impl_NameOk.l0 k y103 (y103.length : Int) 0)) else (none))
def impl_NameOk.l0 : Nat → List Int → Int → Int → Option (Bool)
 | 0, _, _, _ => none
 | k + 1, x25, x26, x27 => if x27 < x26 then (if 0 ≤ x27 then (if x27 < (x25.length : Int) then ((impl_isOuter.f (wrap64 (rd x25 x27))).bind fun t107 => (if t107 = true then (some false) else (impl_NameOk.l0 k x25 x26 (wrap64 (x27 + 1))))) else (none)) else (none)) else (some true)
end
def impl_NameOk.f (k : Nat) (a0 : ByteArray) : Option (Bool) := (impl_inRange.f (a0.size : Int) 1 60).bind fun t101 => (if t101 = true then (if 0 < (a0.size : Int) then (if (bt a0 0) < 97 then (impl_NameOk.j0 k a0 true) else (if (bt a0 0) > 122 then (impl_NameOk.j0 k a0 true) else ((impl_textOk.f k a0).bind fun t102 => (impl_NameOk.j0 k a0 (!t102))))) else (none)) else (impl_NameOk.j0 k a0 true))
theorem impl_NameOk.mono_l : ∀ k, (∀ y0 y1, LeO (impl_NameOk.j0 k y0 y1) (impl_NameOk.j0 (k + 1) y0 y1)) ∧ (∀ y0 y1 y2, LeO (impl_NameOk.l0 k y0 y1 y2) (impl_NameOk.l0 (k + 1) y0 y1 y2))
 | 0 => ⟨fun _ _ r h => by simp [impl_NameOk.j0] at h, fun _ _ _ r h => by simp [impl_NameOk.l0] at h⟩
 | k + 1 => by
  obtain ⟨ih0, ih1⟩ := impl_NameOk.mono_l k
  refine ⟨?_, ?_⟩
  ·intro y0 y1
   unfold impl_NameOk.j0
   repeat' (with_reducible first | exact ih0 _ _ | exact ih1 _ _ _ | exact impl_textOk.mono _ _ | exact LeO.refl _ | exact LeO.none _ | refine LeO.ite ?_ ?_ | refine LeO.bind ?_ (fun _ => ?_))
  ·intro y0 y1 y2
   unfold impl_NameOk.l0
   repeat' (with_reducible first | exact ih0 _ _ | exact ih1 _ _ _ | exact impl_textOk.mono _ _ | exact LeO.refl _ | exact LeO.none _ | refine LeO.ite ?_ ?_ | refine LeO.bind ?_ (fun _ => ?_))
theorem impl_NameOk.mono : ∀ a0 k, LeO (impl_NameOk.f k a0) (impl_NameOk.f (k + 1) a0) := by
 intro a0 k
 obtain ⟨ih0, ih1⟩ := impl_NameOk.mono_l k
 unfold impl_NameOk.f
 repeat' (with_reducible first | exact ih0 _ _ | exact ih1 _ _ _ | exact impl_textOk.mono _ _ | exact LeO.refl _ | exact LeO.none _ | refine LeO.ite ?_ ?_ | refine LeO.bind ?_ (fun _ => ?_))
theorem impl_NameOk.calls (k : Nat) (a0 : ByteArray) (r : Bool) (w : World) (h : impl_NameOk.f k a0 = some r) :
 Calls Try.prog 84 #[.string a0] w fun e w' => e = .returned (.bool r) ∧ Below w.heap.size w w' := by
 have HB := Ak (Below.refl w.heap.size w)
 have H : ((impl_inRange.f (a0.size : Int) 1 60).bind fun t101 => (if t101 = true then (if 0 < (a0.size : Int) then (if (bt a0 0) < 97 then (impl_NameOk.j0 k a0 true) else (if (bt a0 0) > 122 then (impl_NameOk.j0 k a0 true) else ((impl_textOk.f k a0).bind fun t102 => (impl_NameOk.j0 k a0 (!t102))))) else (none)) else (impl_NameOk.j0 k a0 true))) = some r := h
 clear h
 have HC2 := Ak H
 clear H
 go_enter Try.func84, Try.ntmps84
 go_upto_region 1 with (fail)
 go_cut [23] (fun v23 wc => ∃ (kq : Nat) (x23_1 : Bool), v23 = .bool x23_1 ∧ Aside0 (impl_NameOk.j0 kq a0 x23_1 = some r) ∧ Aside0 (kq ≤ k) ∧ Aside0 (Below w.heap.size w wc))
 case first =>
  have H := HC2.out
  clear HC2
  replace H := Ob H
  obtain ⟨t101, A30, H⟩ := H
  replace H : (if t101 = true then (if 0 < (a0.size : Int) then (if (bt a0 0) < 97 then (impl_NameOk.j0 k a0 true) else (if (bt a0 0) > 122 then (impl_NameOk.j0 k a0 true) else ((impl_textOk.f k a0).bind fun t102 => (impl_NameOk.j0 k a0 (!t102))))) else (none)) else (impl_NameOk.j0 k a0 true)) = some r := H
  have A3 := Ak A30
  clear A30
  by_cases c4 : t101 = true
  ·subst c4
   rw [if_pos rfl] at H
   by_cases c5 : 0 < (a0.size : Int)
   ·rw [if_pos c5] at H
    have c5b0 := decide_eq_true c5
    have c5b1 : decide (0 < a0.size) = true := decide_eq_true (by omega)
    clear c5
    (first | rw [c5b0] | (simp only [i64_w, i32_w]; rw [c5b0]) | skip)
    by_cases c7 : (bt a0 0) < 97
    ·rw [if_pos c7] at H
     have c7b0 := decide_eq_true c7
     clear c7
     have H' := Ak H
     clear H
     go_wp2_with (first | (go_at_call 40; (with_reducible refine (impl_inRange.calls (a0.size : Int) 1 60 true _ A3.out).mono ?_); rintro e w' ⟨rfl, ⟨nd, rfl⟩⟩; have p6 : 0 ≤ (0 : Int) := (by omega); have q6 : 0 < a0.size := (by have : (0 : Int) < (a0.size : Int) := of_decide_eq_true (by assumption); omega); have hx6 : ∀ h : 0 < a0.size, ((a0[0]'h).toNat : Int) = bt a0 0 := bt_at a0 0; clear p6; have qi6 : (0 < (a0.size : Int)) = True := eq_true (of_decide_eq_true (by assumption)); replace q6 := eq_true q6))
     go_meet
     case rel => exact ⟨_, (true), rfl, H', ⟨by first | omega | exact Nat.le_refl _⟩, ⟨by repeat (first | exact HB.out | apply below_alloc | apply pw_below_drewN | apply below_drew1)⟩⟩
    ·rw [if_neg c7] at H
     have c7b0 := decide_eq_false c7
     clear c7
     by_cases c9 : (bt a0 0) > 122
     ·rw [if_pos c9] at H
      have c9b0 : decide (122 < (bt a0 0)) = true := decide_eq_true c9
      clear c9
      have H' := Ak H
      clear H
      go_wp2_with (first | (go_at_call 40; (with_reducible refine (impl_inRange.calls (a0.size : Int) 1 60 true _ A3.out).mono ?_); rintro e w' ⟨rfl, ⟨nd, rfl⟩⟩; have p6 : 0 ≤ (0 : Int) := (by omega); have q6 : 0 < a0.size := (by have : (0 : Int) < (a0.size : Int) := of_decide_eq_true (by assumption); omega); have hx6 : ∀ h : 0 < a0.size, ((a0[0]'h).toNat : Int) = bt a0 0 := bt_at a0 0; clear p6; have qi6 : (0 < (a0.size : Int)) = True := eq_true (of_decide_eq_true (by assumption)); replace q6 := eq_true q6; have p8 : 0 ≤ (0 : Int) := (by omega); have q8 : 0 < a0.size := (by have : (0 : Int) < (a0.size : Int) := of_decide_eq_true (by assumption); omega); have hx8 : ∀ h : 0 < a0.size, ((a0[0]'h).toNat : Int) = bt a0 0 := bt_at a0 0; clear p8; have qi8 : (0 < (a0.size : Int)) = True := eq_true (of_decide_eq_true (by assumption)); replace q8 := eq_true q8))
      go_meet
      case rel => exact ⟨_, (true), rfl, H', ⟨by first | omega | exact Nat.le_refl _⟩, ⟨by repeat (first | exact HB.out | apply below_alloc | apply pw_below_drewN | apply below_drew1)⟩⟩
     ·rw [if_neg c9] at H
      have c9b0 : decide (122 < (bt a0 0)) = false := decide_eq_false c9
      clear c9
      replace H := Ob H
      obtain ⟨t102, A100, H⟩ := H
      replace H : (impl_NameOk.j0 k a0 (!t102)) = some r := H
      have A10 := Ak A100
      clear A100
      have H' := Ak H
      clear H
      go_wp2_with (first | (go_at_call 40; (with_reducible refine (impl_inRange.calls (a0.size : Int) 1 60 true _ A3.out).mono ?_); rintro e w' ⟨rfl, ⟨nd, rfl⟩⟩; have p6 : 0 ≤ (0 : Int) := (by omega); have q6 : 0 < a0.size := (by have : (0 : Int) < (a0.size : Int) := of_decide_eq_true (by assumption); omega); have hx6 : ∀ h : 0 < a0.size, ((a0[0]'h).toNat : Int) = bt a0 0 := bt_at a0 0; clear p6; have qi6 : (0 < (a0.size : Int)) = True := eq_true (of_decide_eq_true (by assumption)); replace q6 := eq_true q6; have p8 : 0 ≤ (0 : Int) := (by omega); have q8 : 0 < a0.size := (by have : (0 : Int) < (a0.size : Int) := of_decide_eq_true (by assumption); omega); have hx8 : ∀ h : 0 < a0.size, ((a0[0]'h).toNat : Int) = bt a0 0 := bt_at a0 0; clear p8; have qi8 : (0 < (a0.size : Int)) = True := eq_true (of_decide_eq_true (by assumption)); replace q8 := eq_true q8) | (go_at_call 86; (with_reducible refine (impl_textOk.calls k a0 t102 _ A10.out).mono ?_); rintro e w11 ⟨rfl, hb⟩; replace HB := Ak (below_step (by repeat (first | exact HB.out | apply below_alloc | apply pw_below_drewN | apply below_drew1)) hb); (try clear hb); (try clear hb2); (try clear hk); (try clear hi)))
      go_meet
      case rel => exact ⟨_, (!t102), rfl, H', ⟨by first | omega | exact Nat.le_refl _⟩, ⟨by repeat (first | exact HB.out | apply below_alloc | apply pw_below_drewN | apply below_drew1)⟩⟩
   ·rw [if_neg c5] at H
    exact absurd H (by simp)
  ·replace c4 := Bool.eq_false_iff.mpr c4
   subst c4
   rw [if_neg (show ¬ (false = true) by decide)] at H
   have H' := Ak H
   clear H
   go_wp2_with (first | (go_at_call 40; (with_reducible refine (impl_inRange.calls (a0.size : Int) 1 60 false _ A3.out).mono ?_); rintro e w' ⟨rfl, ⟨nd, rfl⟩⟩))
   go_meet
   case rel => exact ⟨_, (true), rfl, H', ⟨by first | omega | exact Nat.le_refl _⟩, ⟨by repeat (first | exact HB.out | apply below_alloc | apply pw_below_drewN | apply below_drew1)⟩⟩
 case rest =>
  clear HC2
  obtain ⟨kq, x23_1, rfl, HA, HJ1, HB⟩ := hcut
  cases kq with
  | zero => exact absurd HA.out (by simp [impl_NameOk.j0])
  | succ kj1 =>
   have H := HA.out
   clear HA
   simp only [impl_NameOk.j0] at H
   by_cases c12 : x23_1 = true
   ·subst c12
    rw [if_pos rfl] at H
    obtain rfl := Oi H
    go_wp2
    go_ret
    exact ⟨rfl, by repeat (first | exact HB.out | apply below_alloc | apply pw_below_drewN | apply below_drew1)⟩
   ·replace c12 := Bool.eq_false_iff.mpr c12
    subst c12
    rw [if_neg (show ¬ (false = true) by decide)] at H
    by_cases c13 : a0.size ≤ 140737488355328
    ·rw [if_pos c13] at H
     have c13b0 := eq_true c13
     have c13b1 := decide_eq_true c13
     clear c13
     obtain ⟨y103, hy103⟩ : ∃ y_ : List Int, y_ = (bytesOf a0) := ⟨_, rfl⟩
     replace H : (impl_NameOk.l0 kj1 y103 (y103.length : Int) 0) = some r := by rw [hy103]; exact H
     have Ny103 := Ak hy103
     clear hy103
     have H' := Ak H
     clear H
     go_wp2_with (first | ((with_reducible refine gate_dst (N := 25) rfl ?_); refine conv_V _ 5 rfl (N' := 25) rfl 9 52 _ rfl a0 rfl Try.underlying9 Try.underlying52 Try.underlying5 (of_decide_eq_true (by assumption) : a0.size ≤ 140737488355328) (ok := fun k_ => wc.heap.size ≤ k_) (Nat.le_refl _) (Below.refl _ _) (Nat.le_refl _) ?_; intro v104 w14 ho15 hb hg_ hnew_; clear hg_ hnew_; (first | rw [← Ny103.out] at ho15 | (simp only [Int.reduceToNat] at ho15; rw [← Ny103.out] at ho15)); replace HO105 := Ak (Kd.V_lower (Kd.V_mono (ok' := fun k_ => True) ho15 (fun k_ hk_ => trivial)) (below_size (by repeat (first | exact HB.out | apply below_alloc | apply pw_below_drewN | apply below_drew1)))); replace HB := Ak (below_step (by repeat (first | exact HB.out | apply below_alloc | apply pw_below_drewN | apply below_drew1)) hb); clear hb ho15; obtain ⟨Ao16, co16, eo16⟩ := Kd.V_slice HO105.out; subst eo16))
     go_loopg [27] kj1 (fun kq v27 w' => ∃ (x27_2 : Int), v27 = .int .i64 x27_2 ∧ Aside0 (impl_NameOk.l0 kq y103 (y103.length : Int) x27_2 = some r) ∧ Aside0 (kq ≤ kj1) ∧ Aside0 (Kd.V (Kd.int .u8) 5 w' w.heap.size (fun _ => True) (.slice Ao16 y103.length co16) y103) ∧ Aside0 (Below w.heap.size w w'))
     case atStart => exact ⟨(0), rfl, H', ⟨Nat.le_refl _⟩, ⟨by (with_reducible repeat (first | apply Kd.V_alloc | apply Kd.V_drewN | apply Kd.V_drew)); exact HO105.out⟩, ⟨by repeat (first | exact HB.out | apply below_alloc | apply pw_below_drewN | apply below_drew1)⟩⟩
     case round =>
      clear H'
      obtain ⟨x27_2, rfl, HA, HK2, HO_25, HB⟩ := hrel
      cases gk with
      | zero => exact absurd HA.out (by simp [impl_NameOk.l0])
      | succ k2 =>
       have H := HA.out
       clear HA
       simp only [impl_NameOk.l0] at H
       by_cases c17 : x27_2 < (y103.length : Int)
       ·rw [if_pos c17] at H
        have c17b0 := decide_eq_true c17
        clear c17
        by_cases c18 : 0 ≤ x27_2
        ·rw [if_pos c18] at H
         have c18b0 := decide_eq_true c18
         clear c18
         by_cases c19 : x27_2 < (y103.length : Int)
         ·rw [if_pos c19] at H
          have c19b0 := decide_eq_true c19
          clear c19
          replace H := Ob H
          obtain ⟨t107, A200, H⟩ := H
          replace H : (if t107 = true then (some false) else (impl_NameOk.l0 k2 y103 (y103.length : Int) (wrap64 (x27_2 + 1)))) = some r := H
          have A20 := Ak A200
          clear A200
          by_cases c21 : t107 = true
          ·subst c21
           rw [if_pos rfl] at H
           obtain rfl := Oi H
           have p106 : 0 ≤ (x27_2 : Int) := of_decide_eq_true (by assumption)
           have q106 : x27_2 < (y103.length : Int) := of_decide_eq_true (by assumption)
           obtain ⟨ad106, e106, hx106_0⟩ := Kd.at_int (Kd.V_reads' HO_25.out).2.2 x27_2 p106 q106
           cases e106
           replace p106 := eq_true p106
           replace q106 := eq_true q106
           go_wp2_with (first | (go_at_call 110; (with_reducible refine (impl_isOuter.calls (wrap64 (rd y103 x27_2)) true _ A20.out).mono ?_); rintro e w' ⟨rfl, ⟨nd, rfl⟩⟩))
           go_ret
           exact ⟨rfl, by repeat (first | exact HB.out | apply below_alloc | apply pw_below_drewN | apply below_drew1)⟩
          ·replace c21 := Bool.eq_false_iff.mpr c21
           subst c21
           rw [if_neg (show ¬ (false = true) by decide)] at H
           have H' := Ak H
           clear H
           have p106 : 0 ≤ (x27_2 : Int) := of_decide_eq_true (by assumption)
           have q106 : x27_2 < (y103.length : Int) := of_decide_eq_true (by assumption)
           obtain ⟨ad106, e106, hx106_0⟩ := Kd.at_int (Kd.V_reads' HO_25.out).2.2 x27_2 p106 q106
           cases e106
           replace p106 := eq_true p106
           replace q106 := eq_true q106
           go_wp2_with (first | (go_at_call 110; (with_reducible refine (impl_isOuter.calls (wrap64 (rd y103 x27_2)) false _ A20.out).mono ?_); rintro e w' ⟨rfl, ⟨nd, rfl⟩⟩))
           go_roundg k2
           case measure => have := HJ1.out; have := HK2.out; omega
           case rel => exact ⟨(wrap64 (x27_2 + 1)), rfl, H', ⟨by have := HJ1.out; have := HK2.out; omega⟩, ⟨by (with_reducible repeat (first | apply Kd.V_alloc | apply Kd.V_drewN | apply Kd.V_drew)); exact HO_25.out⟩, ⟨by repeat (first | exact HB.out | apply below_alloc | apply pw_below_drewN | apply below_drew1)⟩⟩
         ·rw [if_neg c19] at H
          exact absurd H (by simp)
        ·rw [if_neg c18] at H
         exact absurd H (by simp)
       ·rw [if_neg c17] at H
        have c17b0 := decide_eq_false c17
        clear c17
        obtain rfl := Oi H
        go_wp2
        go_ret
        exact ⟨rfl, by repeat (first | exact HB.out | apply below_alloc | apply pw_below_drewN | apply below_drew1)⟩
    ·rw [if_neg c13] at H
     exact absurd H (by simp)
def impl_attrAt.l0 : Nat → List (S98) → ByteArray → Int → Option (Int)
 | 0, _, _, _ => none
 | k + 1, x0, x1, x6 => if x6 < (x0.length : Int) then (if 0 ≤ x6 then (if ((rd_T98 x0 x6).f0).toList = x1.toList then (some x6) else (impl_attrAt.l0 k x0 x1 (wrap64 (x6 + 1)))) else (none)) else (some (-1))
def impl_attrAt.f (k : Nat) (l0 : List (S98)) (a1 : ByteArray) : Option (Int) := impl_attrAt.l0 k l0 a1 0
theorem impl_attrAt.mono_l : ∀ k, (∀ y0 y1 y2, LeO (impl_attrAt.l0 k y0 y1 y2) (impl_attrAt.l0 (k + 1) y0 y1 y2))
 | 0 => fun _ _ _ r h => by simp [impl_attrAt.l0] at h
 | k + 1 => by
  have ih0 := impl_attrAt.mono_l k
  ·intro y0 y1 y2
   unfold impl_attrAt.l0
   repeat' (with_reducible first | exact ih0 _ _ _ | exact LeO.refl _ | exact LeO.none _ | refine LeO.ite ?_ ?_)
theorem impl_attrAt.mono : ∀ a0 a1 k, LeO (impl_attrAt.f k a0 a1) (impl_attrAt.f (k + 1) a0 a1) := fun a0 a1 k => impl_attrAt.mono_l k a0 a1 0
theorem impl_attrAt.one (x : S98) (s : ByteArray) (B : Nat) (W : World) (hB : B < W.heap.size) (hc : W.cell? ⟨B, 0, none⟩ = some (.string s)) :
 Calls Try.prog 128 #[.agg #[.string x.f0, .string x.f1], .pointer (some ⟨B, 0, none⟩)] W fun e w' => e = .returned (.bool (x.f0.toList == s.toList)) ∧ Below W.heap.size W w' := by
 have hne : B ≠ W.heap.size := by omega
 go_enter Try.func128, Try.ntmps128
 go_wp2
 go_ret
 exact ⟨rfl, (Below.refl _ _).alloc (Nat.le_refl _) _⟩
theorem impl_attrAt.search (k : Nat) (A0 : Option Addr) (c0 : Nat) (l0 : List (S98)) (a1 : ByteArray) (B : Nat) (r : Int) (w : World) (hr0 : Kd.C k98 w A0 l0.length l0) (hc0 : l0.length ≤ c0) (hB : B < w.heap.size) (hc : w.cell? ⟨B, 0, none⟩ = some (.string a1)) (h : impl_attrAt.l0 k l0 a1 0 = some r) :
 Calls Try.prog 127 #[.slice A0 l0.length c0, .func (.func 128) #[] #[.pointer (some ⟨B, 0, none⟩)]] w fun e w' => e = .returned (.int .i64 r) ∧ Below w.heap.size w w' := by
 have HR0 := Ak hr0
 have HC0 := Ak hc0
 clear hr0 hc0
 have HBs := Ak hB
 have HCc := Ak hc
 clear hB hc
 have HB := Ak (Below.refl w.heap.size w)
 have H' := Ak h
 clear h
 have eg : ∀ args w, (callFunc 128 args).run Try.prog w = .ok (.enter 128 args) w := Go.Proofs.enters_of Try.func128 (by kernel_rfl) rfl
 go_enter Try.func127, Try.ntmps127
 go_wp2
 go_loopg [8] k (fun kq v8 w' => ∃ (x8_1 : Int), v8 = .int .i64 x8_1 ∧ Aside0 (impl_attrAt.l0 kq l0 a1 x8_1 = some r) ∧ Aside0 (kq ≤ k) ∧ Aside0 (Below w.heap.size w w'))
 case atStart => exact ⟨(0), rfl, H', ⟨Nat.le_refl _⟩, HB⟩
 case round =>
  clear H'
  obtain ⟨x8_1, rfl, HA, HK1, HB⟩ := hrel
  cases gk with
  | zero => exact absurd HA.out (by simp [impl_attrAt.l0])
  | succ k1 =>
   have H := HA.out
   clear HA
   simp only [impl_attrAt.l0] at H
   by_cases c3 : x8_1 < (l0.length : Int)
   ·rw [if_pos c3] at H
    have c3b0 := decide_eq_true c3
    by_cases c4 : 0 ≤ x8_1
    ·rw [if_pos c4] at H
     have c4b0 := decide_eq_true c4
     obtain ⟨ad, e_, hx_0, hx_1⟩ := at_T98 (Kd.C_below HR0.out HB.out) x8_1 c4 c3
     cases e_
     have hb8 := Ak (impl_attrAt.one (rd_T98 l0 x8_1) a1 B wr (Nat.lt_of_lt_of_le HBs.out HB.out.size) ((HB.out.cell (p := ⟨B, 0, none⟩) HBs.out).trans HCc.out))
     have p3 := eq_true c4
     have q3 := eq_true c3
     clear c3 c4
     by_cases c5 : ((rd_T98 l0 x8_1).f0).toList = a1.toList
     ·rw [if_pos c5] at H
      have c5b0 := beq_iff_eq.mpr c5
      clear c5
      obtain rfl := Oi H
      have hb9 := Ak (show Calls Try.prog 128 #[.agg #[.string (rd_T98 l0 x8_1).f0, .string (rd_T98 l0 x8_1).f1], .pointer (some ⟨B, 0, none⟩)] wr fun e w' => e = .returned (.bool true) ∧ Below wr.heap.size wr w' from by rw [← c5b0]; exact hb8.out)
      go_wp2_with (go_at_fn 128; refine hb9.out.mono ?_; rintro e w' ⟨rfl, hb'⟩; have n_ := Ak (below_step HB.out hb'); clear HB hb'; have HB := n_; clear n_)
      go_ret
      exact ⟨rfl, HB.out⟩
     ·rw [if_neg c5] at H
      have c5b0 := beq_eq_false_iff_ne.mpr c5
      clear c5
      have H' := Ak H
      clear H
      have hb9 := Ak (show Calls Try.prog 128 #[.agg #[.string (rd_T98 l0 x8_1).f0, .string (rd_T98 l0 x8_1).f1], .pointer (some ⟨B, 0, none⟩)] wr fun e w' => e = .returned (.bool false) ∧ Below wr.heap.size wr w' from by rw [← c5b0]; exact hb8.out)
      go_wp2_with (go_at_fn 128; refine hb9.out.mono ?_; rintro e w' ⟨rfl, hb'⟩; have n_ := Ak (below_step HB.out hb'); clear HB hb'; have HB := n_; clear n_)
      go_roundg k1
      case measure => have := HK1.out; omega
      case rel => exact ⟨(wrap64 (x8_1 + 1)), rfl, H', ⟨by have := HK1.out; omega⟩, HB⟩
    ·rw [if_neg c4] at H
     exact absurd H (by simp)
   ·rw [if_neg c3] at H
    have c3b0 := decide_eq_false c3
    clear c3
    obtain rfl := Oi H
    go_wp2
    go_ret
    exact ⟨rfl, HB.out⟩
theorem impl_attrAt.calls (k : Nat) (A0 : Option Addr) (c0 : Nat) (l0 : List (S98)) (a1 : ByteArray) (r : Int) (w : World) (hr0 : Kd.C k98 w A0 l0.length l0) (hc0 : l0.length ≤ c0) (h : impl_attrAt.f k l0 a1 = some r) :
 Calls Try.prog 111 #[.slice A0 l0.length c0, .string a1] w fun e w' => e = .returned (.int .i64 r) ∧ Below w.heap.size w w' := by
 have C8 := Ak (impl_attrAt.search k A0 c0 l0 a1 w.heap.size r (w.alloc (.cells #[.string a1] 9)) (Kd.C_alloc hr0 _) hc0 (by simp) (by simp) h)
 clear hr0 hc0 h
 go_enter Try.func111, Try.ntmps111
 go_wp2_with (go_at_call 127; refine C8.out.mono ?_; rintro e w' ⟨rfl, hb'⟩)
 go_ret
 exact ⟨rfl, below_step ((Below.refl _ w).alloc (Nat.le_refl _) _) hb'⟩
def impl_attrOk.f (k : Nat) (a0_0 : ByteArray) (a0_1 : ByteArray) : Option (Bool) := (impl_inRange.f (a0_0.size : Int) 1 60).bind fun t102 => (if t102 = true then (if (a0_1.size : Int) ≤ 3000 then ((impl_textOk.f k a0_0).bind fun t103 => (if t103 = true then ((impl_textOk.f k a0_1).bind fun t104 => (some t104)) else (some false))) else (some false)) else (some false))
theorem impl_attrOk.mono : ∀ a0 a1 k, LeO (impl_attrOk.f k a0 a1) (impl_attrOk.f (k + 1) a0 a1) := by
 intro a0 a1 k
 unfold impl_attrOk.f
 repeat' (with_reducible first | exact impl_textOk.mono _ _ | exact LeO.refl _ | exact LeO.none _ | refine LeO.ite ?_ ?_ | refine LeO.bind ?_ (fun _ => ?_))
theorem impl_attrOk.calls (k : Nat) (a0_0 : ByteArray) (a0_1 : ByteArray) (r : Bool) (w : World) (h : impl_attrOk.f k a0_0 a0_1 = some r) :
 Calls Try.prog 112 #[.agg #[.string a0_0, .string a0_1]] w fun e w' => e = .returned (.bool r) ∧ Below w.heap.size w w' := by
 have hu98 := Try.underlying98
 have HB := Ak (Below.refl w.heap.size w)
 have H : ((impl_inRange.f (a0_0.size : Int) 1 60).bind fun t102 => (if t102 = true then (if (a0_1.size : Int) ≤ 3000 then ((impl_textOk.f k a0_0).bind fun t103 => (if t103 = true then ((impl_textOk.f k a0_1).bind fun t104 => (some t104)) else (some false))) else (some false)) else (some false))) = some r := h
 clear h
 replace H := Ob H
 obtain ⟨t102, A20, H⟩ := H
 replace H : (if t102 = true then (if (a0_1.size : Int) ≤ 3000 then ((impl_textOk.f k a0_0).bind fun t103 => (if t103 = true then ((impl_textOk.f k a0_1).bind fun t104 => (some t104)) else (some false))) else (some false)) else (some false)) = some r := H
 have A2 := Ak A20
 clear A20
 by_cases c3 : t102 = true
 ·subst c3
  rw [if_pos rfl] at H
  by_cases c4 : (a0_1.size : Int) ≤ 3000
  ·rw [if_pos c4] at H
   have c4b0 := decide_eq_true c4
   have c4b1 : decide (a0_1.size ≤ 3000) = true := decide_eq_true (by omega)
   clear c4
   replace H := Ob H
   obtain ⟨t103, A50, H⟩ := H
   replace H : (if t103 = true then ((impl_textOk.f k a0_1).bind fun t104 => (some t104)) else (some false)) = some r := H
   have A5 := Ak A50
   clear A50
   by_cases c6 : t103 = true
   ·subst c6
    rw [if_pos rfl] at H
    replace H := Ob H
    obtain ⟨t104, A70, H⟩ := H
    replace H : (some t104) = some r := H
    have A7 := Ak A70
    clear A70
    obtain rfl := Oi H
    go_enter Try.func112, Try.ntmps112
    go_wp2_with (first | ((with_reducible refine gate_dst (N := 1) rfl ?_); (try (refine gate_guard (by rfl) ?_; dsimp only)); refine box_event ?hg (N := 1) ?hd (cs := #[.string a0_0, .string a0_1]) (t := 98) ?hr ?_; (case hd => rfl); (case hg => rfl); (case hr => go_simp); intro gb101 hg w8 hbox hb; have n0_ := Ak (below_step (HB.out) hb); have n1_ := Ak (hbox); have n2_ := Ak ((by rw [hg]; exact (below_size (HB.out)) : w.heap.size ≤ gb101)); have n3_ := n2_; clear HB; have HB := n0_; have BK101 := n1_; have GW101 := n2_; have GE101 := n3_; clear n0_ n1_ n2_ n3_; clear hb hbox hg; have hcz9_0 := blk_cell BK101.out 0; have hcz9_1 := blk_cell BK101.out 1; have hfz9_0 := blk_frozen BK101.out 0; have hfz9_1 := blk_frozen BK101.out 1) | (go_at_call 40; (with_reducible refine (impl_inRange.calls (a0_0.size : Int) 1 60 true _ A2.out).mono ?_); rintro e w' ⟨rfl, ⟨nd, rfl⟩⟩) | (go_at_call 86; (with_reducible refine (impl_textOk.calls k a0_0 true _ A5.out).mono ?_); rintro e w10 ⟨rfl, hb⟩; replace BK101 := Ak (blk_below (g := gb101) (o := .cells #[.string a0_0, .string a0_1] 98 (0, 0)) (by (with_reducible repeat (first | refine blk_drewN ?_ _ | refine blk_drew ?_ | refine blk_alloc ?_ _)); exact BK101.out) hb); replace HB := Ak (below_step (by repeat (first | exact HB.out | apply below_alloc | apply pw_below_drewN | apply below_drew1 | refine below_set ?_ GE101.out)) hb); (try clear hb); have hcz11_0 := blk_cell BK101.out 0; have hcz11_1 := blk_cell BK101.out 1; have hfz11_0 := blk_frozen BK101.out 0; have hfz11_1 := blk_frozen BK101.out 1) | (go_at_call 86; (with_reducible refine (impl_textOk.calls k a0_1 t104 _ A7.out).mono ?_); rintro e w12 ⟨rfl, hb⟩; replace BK101 := Ak (blk_below (g := gb101) (o := .cells #[.string a0_0, .string a0_1] 98 (0, 0)) (by (with_reducible repeat (first | refine blk_drewN ?_ _ | refine blk_drew ?_ | refine blk_alloc ?_ _)); exact BK101.out) hb); replace HB := Ak (below_step (by repeat (first | exact HB.out | apply below_alloc | apply pw_below_drewN | apply below_drew1 | refine below_set ?_ GE101.out)) hb); (try clear hb)))
    go_ret
    exact ⟨rfl, by repeat (first | exact HB.out | apply below_alloc | apply pw_below_drewN | apply below_drew1 | refine below_set ?_ GE101.out)⟩
   ·replace c6 := Bool.eq_false_iff.mpr c6
    subst c6
    rw [if_neg (show ¬ (false = true) by decide)] at H
    obtain rfl := Oi H
    go_enter Try.func112, Try.ntmps112
    go_wp2_with (first | ((with_reducible refine gate_dst (N := 1) rfl ?_); (try (refine gate_guard (by rfl) ?_; dsimp only)); refine box_event ?hg (N := 1) ?hd (cs := #[.string a0_0, .string a0_1]) (t := 98) ?hr ?_; (case hd => rfl); (case hg => rfl); (case hr => go_simp); intro gb101 hg w13 hbox hb; have n0_ := Ak (below_step (HB.out) hb); have n1_ := Ak (hbox); have n2_ := Ak ((by rw [hg]; exact (below_size (HB.out)) : w.heap.size ≤ gb101)); have n3_ := n2_; clear HB; have HB := n0_; have BK101 := n1_; have GW101 := n2_; have GE101 := n3_; clear n0_ n1_ n2_ n3_; clear hb hbox hg; have hcz14_0 := blk_cell BK101.out 0; have hcz14_1 := blk_cell BK101.out 1; have hfz14_0 := blk_frozen BK101.out 0; have hfz14_1 := blk_frozen BK101.out 1) | (go_at_call 40; (with_reducible refine (impl_inRange.calls (a0_0.size : Int) 1 60 true _ A2.out).mono ?_); rintro e w' ⟨rfl, ⟨nd, rfl⟩⟩) | (go_at_call 86; (with_reducible refine (impl_textOk.calls k a0_0 false _ A5.out).mono ?_); rintro e w15 ⟨rfl, hb⟩; replace BK101 := Ak (blk_below (g := gb101) (o := .cells #[.string a0_0, .string a0_1] 98 (0, 0)) (by (with_reducible repeat (first | refine blk_drewN ?_ _ | refine blk_drew ?_ | refine blk_alloc ?_ _)); exact BK101.out) hb); replace HB := Ak (below_step (by repeat (first | exact HB.out | apply below_alloc | apply pw_below_drewN | apply below_drew1 | refine below_set ?_ GE101.out)) hb); (try clear hb)))
    go_ret
    exact ⟨rfl, by repeat (first | exact HB.out | apply below_alloc | apply pw_below_drewN | apply below_drew1 | refine below_set ?_ GE101.out)⟩
  ·rw [if_neg c4] at H
   have c4b0 := decide_eq_false c4
   have c4b1 : decide (a0_1.size ≤ 3000) = false := decide_eq_false (by omega)
   clear c4
   obtain rfl := Oi H
   go_enter Try.func112, Try.ntmps112
   go_wp2_with (first | ((with_reducible refine gate_dst (N := 1) rfl ?_); (try (refine gate_guard (by rfl) ?_; dsimp only)); refine box_event ?hg (N := 1) ?hd (cs := #[.string a0_0, .string a0_1]) (t := 98) ?hr ?_; (case hd => rfl); (case hg => rfl); (case hr => go_simp); intro gb101 hg w16 hbox hb; have n0_ := Ak (below_step (HB.out) hb); have n1_ := Ak (hbox); have n2_ := Ak ((by rw [hg]; exact (below_size (HB.out)) : w.heap.size ≤ gb101)); have n3_ := n2_; clear HB; have HB := n0_; have BK101 := n1_; have GW101 := n2_; have GE101 := n3_; clear n0_ n1_ n2_ n3_; clear hb hbox hg; have hcz17_0 := blk_cell BK101.out 0; have hcz17_1 := blk_cell BK101.out 1; have hfz17_0 := blk_frozen BK101.out 0; have hfz17_1 := blk_frozen BK101.out 1) | (go_at_call 40; (with_reducible refine (impl_inRange.calls (a0_0.size : Int) 1 60 true _ A2.out).mono ?_); rintro e w' ⟨rfl, ⟨nd, rfl⟩⟩))
   go_ret
   exact ⟨rfl, by repeat (first | exact HB.out | apply below_alloc | apply pw_below_drewN | apply below_drew1 | refine below_set ?_ GE101.out)⟩
 ·replace c3 := Bool.eq_false_iff.mpr c3
  subst c3
  rw [if_neg (show ¬ (false = true) by decide)] at H
  obtain rfl := Oi H
  go_enter Try.func112, Try.ntmps112
  go_wp2_with (first | ((with_reducible refine gate_dst (N := 1) rfl ?_); (try (refine gate_guard (by rfl) ?_; dsimp only)); refine box_event ?hg (N := 1) ?hd (cs := #[.string a0_0, .string a0_1]) (t := 98) ?hr ?_; (case hd => rfl); (case hg => rfl); (case hr => go_simp); intro gb101 hg w18 hbox hb; have n0_ := Ak (below_step (HB.out) hb); have n1_ := Ak (hbox); have n2_ := Ak ((by rw [hg]; exact (below_size (HB.out)) : w.heap.size ≤ gb101)); have n3_ := n2_; clear HB; have HB := n0_; have BK101 := n1_; have GW101 := n2_; have GE101 := n3_; clear n0_ n1_ n2_ n3_; clear hb hbox hg; have hcz19_0 := blk_cell BK101.out 0; have hcz19_1 := blk_cell BK101.out 1; have hfz19_0 := blk_frozen BK101.out 0; have hfz19_1 := blk_frozen BK101.out 1) | (go_at_call 40; (with_reducible refine (impl_inRange.calls (a0_0.size : Int) 1 60 false _ A2.out).mono ?_); rintro e w' ⟨rfl, ⟨nd, rfl⟩⟩))
  go_ret
  exact ⟨rfl, by repeat (first | exact HB.out | apply below_alloc | apply pw_below_drewN | apply below_drew1 | refine below_set ?_ GE101.out)⟩
def impl_AttrsOk.l0 : Nat → List (S98) → List (S98) → Int → Int → Option (Bool)
 | 0, _, _, _, _ => none
 | k + 1, x0, x8, x9, x10 => if x10 < x9 then (if 0 ≤ x10 then (if x10 < (x8.length : Int) then ((impl_attrAt.f k x0 ((rd_T98 x8 x10).f0)).bind fun t103 => (if t103 = x10 then ((impl_attrOk.f k ((rd_T98 x8 x10).f0) ((rd_T98 x8 x10).f1)).bind fun t104 => (if t104 = true then (impl_AttrsOk.l0 k x0 x8 x9 (wrap64 (x10 + 1))) else (some false))) else (some false))) else (none)) else (none)) else (some true)
def impl_AttrsOk.f (k : Nat) (l0 : List (S98)) : Option (Bool) := if (l0.length : Int) > 20 then (some false) else (impl_AttrsOk.l0 k l0 l0 (l0.length : Int) 0)
theorem impl_AttrsOk.mono_l : ∀ k, (∀ y0 y1 y2 y3, LeO (impl_AttrsOk.l0 k y0 y1 y2 y3) (impl_AttrsOk.l0 (k + 1) y0 y1 y2 y3))
 | 0 => fun _ _ _ _ r h => by simp [impl_AttrsOk.l0] at h
 | k + 1 => by
  have ih0 := impl_AttrsOk.mono_l k
  ·intro y0 y1 y2 y3
   unfold impl_AttrsOk.l0
   repeat' (with_reducible first | exact ih0 _ _ _ _ | exact impl_attrAt.mono _ _ _ | exact impl_attrOk.mono _ _ _ | exact LeO.refl _ | exact LeO.none _ | refine LeO.ite ?_ ?_ | refine LeO.bind ?_ (fun _ => ?_))
theorem impl_AttrsOk.mono : ∀ a0 k, LeO (impl_AttrsOk.f k a0) (impl_AttrsOk.f (k + 1) a0) := by
 intro a0 k
 have ih0 := impl_AttrsOk.mono_l k
 unfold impl_AttrsOk.f
 repeat' (with_reducible first | exact ih0 _ _ _ _ | exact impl_attrAt.mono _ _ _ | exact impl_attrOk.mono _ _ _ | exact LeO.refl _ | exact LeO.none _ | refine LeO.ite ?_ ?_ | refine LeO.bind ?_ (fun _ => ?_))
theorem impl_AttrsOk.calls (k : Nat) (A0 : Option Addr) (c0 : Nat) (l0 : List (S98)) (r : Bool) (w : World) (hr0 : Kd.C k98 w A0 l0.length l0) (hc0 : l0.length ≤ c0) (h : impl_AttrsOk.f k l0 = some r) :
 Calls Try.prog 85 #[.slice A0 l0.length c0] w fun e w' => e = .returned (.bool r) ∧ Below w.heap.size w w' := by
 have hu98 := Try.underlying98
 have HR0 := Ak hr0
 have HC0 := Ak hc0
 clear hr0 hc0
 have HB := Ak (Below.refl w.heap.size w)
 have H : (if (l0.length : Int) > 20 then (some false) else (impl_AttrsOk.l0 k l0 l0 (l0.length : Int) 0)) = some r := h
 clear h
 by_cases c2 : (l0.length : Int) > 20
 ·rw [if_pos c2] at H
  have c2b0 : decide (20 < (l0.length : Int)) = true := decide_eq_true c2
  have c2b1 : decide (20 < l0.length) = true := decide_eq_true (by omega)
  clear c2
  obtain rfl := Oi H
  go_enter Try.func85, Try.ntmps85
  go_wp2
  go_ret
  exact ⟨rfl, HB.out⟩
 ·rw [if_neg c2] at H
  have c2b0 : decide (20 < (l0.length : Int)) = false := decide_eq_false c2
  have c2b1 : decide (20 < l0.length) = false := decide_eq_false (by omega)
  clear c2
  have H' := Ak H
  clear H
  go_enter Try.func85, Try.ntmps85
  go_wp2
  go_loopg [10] k (fun kq v10 w' => ∃ (x10_1 : Int), v10 = .int .i64 x10_1 ∧ Aside0 (impl_AttrsOk.l0 kq l0 l0 (l0.length : Int) x10_1 = some r) ∧ Aside0 (kq ≤ k) ∧ Aside0 (Below w.heap.size w w'))
  case atStart => exact ⟨(0), rfl, H', ⟨Nat.le_refl _⟩, ⟨HB.out⟩⟩
  case round =>
   clear H'
   obtain ⟨x10_1, rfl, HA, HK1, HB⟩ := hrel
   cases gk with
   | zero => exact absurd HA.out (by simp [impl_AttrsOk.l0])
   | succ k1 =>
    have H := HA.out
    clear HA
    simp only [impl_AttrsOk.l0] at H
    by_cases c3 : x10_1 < (l0.length : Int)
    ·rw [if_pos c3] at H
     have c3b0 := decide_eq_true c3
     clear c3
     by_cases c4 : 0 ≤ x10_1
     ·rw [if_pos c4] at H
      have c4b0 := decide_eq_true c4
      clear c4
      by_cases c5 : x10_1 < (l0.length : Int)
      ·rw [if_pos c5] at H
       have c5b0 := decide_eq_true c5
       clear c5
       replace H := Ob H
       obtain ⟨t103, A60, H⟩ := H
       replace H : (if t103 = x10_1 then ((impl_attrOk.f k1 ((rd_T98 l0 x10_1).f0) ((rd_T98 l0 x10_1).f1)).bind fun t104 => (if t104 = true then (impl_AttrsOk.l0 k1 l0 l0 (l0.length : Int) (wrap64 (x10_1 + 1))) else (some false))) else (some false)) = some r := H
       have A6 := Ak A60
       clear A60
       by_cases c7 : t103 = x10_1
       ·rw [if_pos c7] at H
        have c7b0 := beq_iff_eq.mpr c7
        have c7b1 := bne_eq_false_iff_eq.mpr c7
        clear c7
        replace H := Ob H
        obtain ⟨t104, A80, H⟩ := H
        replace H : (if t104 = true then (impl_AttrsOk.l0 k1 l0 l0 (l0.length : Int) (wrap64 (x10_1 + 1))) else (some false)) = some r := H
        have A8 := Ak A80
        clear A80
        by_cases c9 : t104 = true
        ·subst c9
         rw [if_pos rfl] at H
         have H' := Ak H
         clear H
         have p101 : 0 ≤ (x10_1 : Int) := of_decide_eq_true (by assumption)
         have q101 : x10_1 < (l0.length : Int) := of_decide_eq_true (by assumption)
         obtain ⟨ad101, e101, hx101_0, hx101_1⟩ := at_T98 HR0.out x10_1 p101 q101
         cases e101
         replace hx101_0 := pw_cell_below HB.out hx101_0
         replace hx101_1 := pw_cell_below HB.out hx101_1
         replace p101 := eq_true p101
         replace q101 := eq_true q101
         go_wp2_with (first | ((with_reducible refine gate_dst (N := 4) rfl ?_); refine box_event ?hg (N := 4) ?hd (cs := #[.string (⟨#[]⟩ : ByteArray), .string (⟨#[]⟩ : ByteArray)]) (t := 98) ?hr ?_; (case hd => rfl); (case hg => rfl); (case hr => go_simp); intro gb102 hg w10 hbox hb; have n0_ := Ak (below_step (HB.out) hb); have n1_ := Ak (hbox); have n2_ := Ak ((by rw [hg]; exact (below_size (HB.out)) : w.heap.size ≤ gb102)); have n3_ := n2_; clear HB; have HB := n0_; have BK102 := n1_; have GW102 := n2_; have GE102 := n3_; clear n0_ n1_ n2_ n3_; clear hb hbox hg; have hcz11_0 := blk_cell BK102.out 0; have hcz11_1 := blk_cell BK102.out 1; have hfz11_0 := blk_frozen BK102.out 0; have hfz11_1 := blk_frozen BK102.out 1) | (go_at_call 111; (with_reducible refine (impl_attrAt.calls k1 _ _ l0 ((rd_T98 l0 x10_1).f0) t103 _ ?side1 ?side2 A6.out).mono ?_); (case side1 => exact Kd.C_below HR0.out (by repeat (first | exact HB.out | apply below_alloc | apply pw_below_drewN | apply below_drew1 | refine below_set ?_ GE102.out))); (case side2 => exact HC0.out); rintro e w12 ⟨rfl, hb⟩; replace BK102 := Ak (blk_below (g := gb102) (o := .cells #[.string ((rd_T98 l0 x10_1).f0), .string ((rd_T98 l0 x10_1).f1)] 98 (0, 0)) (by (with_reducible repeat (first | refine blk_drewN ?_ _ | refine blk_drew ?_ | refine blk_alloc ?_ _)); refine blk_put (cs := #[.string ((rd_T98 l0 x10_1).f0), .string (⟨#[]⟩ : ByteArray)]) ?_ 1 _ rfl; (with_reducible repeat (first | refine blk_drewN ?_ _ | refine blk_drew ?_ | refine blk_alloc ?_ _)); refine blk_put (cs := #[.string (⟨#[]⟩ : ByteArray), .string (⟨#[]⟩ : ByteArray)]) ?_ 0 _ rfl; (with_reducible repeat (first | refine blk_drewN ?_ _ | refine blk_drew ?_ | refine blk_alloc ?_ _)); exact BK102.out) hb); replace HB := Ak (below_step (by repeat (first | exact HB.out | apply below_alloc | apply pw_below_drewN | apply below_drew1 | refine below_set ?_ GE102.out)) hb); (try clear hb); have hcz13_0 := blk_cell BK102.out 0; have hcz13_1 := blk_cell BK102.out 1; have hfz13_0 := blk_frozen BK102.out 0; have hfz13_1 := blk_frozen BK102.out 1) | (go_at_call 112; (with_reducible refine (impl_attrOk.calls k1 ((rd_T98 l0 x10_1).f0) ((rd_T98 l0 x10_1).f1) true _ A8.out).mono ?_); rintro e w14 ⟨rfl, hb⟩; replace BK102 := Ak (blk_below BK102.out hb); replace HB := Ak (below_step (by repeat (first | exact HB.out | apply below_alloc | apply pw_below_drewN | apply below_drew1 | refine below_set ?_ GE102.out)) hb); (try clear hb)))
         go_roundg k1
         case measure => have := HK1.out; omega
         case rel => exact ⟨(wrap64 (x10_1 + 1)), rfl, H', ⟨by have := HK1.out; omega⟩, ⟨by repeat (first | exact HB.out | apply below_alloc | apply pw_below_drewN | apply below_drew1 | refine below_set ?_ GE102.out)⟩⟩
        ·replace c9 := Bool.eq_false_iff.mpr c9
         subst c9
         rw [if_neg (show ¬ (false = true) by decide)] at H
         obtain rfl := Oi H
         have p101 : 0 ≤ (x10_1 : Int) := of_decide_eq_true (by assumption)
         have q101 : x10_1 < (l0.length : Int) := of_decide_eq_true (by assumption)
         obtain ⟨ad101, e101, hx101_0, hx101_1⟩ := at_T98 HR0.out x10_1 p101 q101
         cases e101
         replace hx101_0 := pw_cell_below HB.out hx101_0
         replace hx101_1 := pw_cell_below HB.out hx101_1
         replace p101 := eq_true p101
         replace q101 := eq_true q101
         go_wp2_with (first | ((with_reducible refine gate_dst (N := 4) rfl ?_); refine box_event ?hg (N := 4) ?hd (cs := #[.string (⟨#[]⟩ : ByteArray), .string (⟨#[]⟩ : ByteArray)]) (t := 98) ?hr ?_; (case hd => rfl); (case hg => rfl); (case hr => go_simp); intro gb102 hg w15 hbox hb; have n0_ := Ak (below_step (HB.out) hb); have n1_ := Ak (hbox); have n2_ := Ak ((by rw [hg]; exact (below_size (HB.out)) : w.heap.size ≤ gb102)); have n3_ := n2_; clear HB; have HB := n0_; have BK102 := n1_; have GW102 := n2_; have GE102 := n3_; clear n0_ n1_ n2_ n3_; clear hb hbox hg; have hcz16_0 := blk_cell BK102.out 0; have hcz16_1 := blk_cell BK102.out 1; have hfz16_0 := blk_frozen BK102.out 0; have hfz16_1 := blk_frozen BK102.out 1) | (go_at_call 111; (with_reducible refine (impl_attrAt.calls k1 _ _ l0 ((rd_T98 l0 x10_1).f0) t103 _ ?side1 ?side2 A6.out).mono ?_); (case side1 => exact Kd.C_below HR0.out (by repeat (first | exact HB.out | apply below_alloc | apply pw_below_drewN | apply below_drew1 | refine below_set ?_ GE102.out))); (case side2 => exact HC0.out); rintro e w17 ⟨rfl, hb⟩; replace BK102 := Ak (blk_below (g := gb102) (o := .cells #[.string ((rd_T98 l0 x10_1).f0), .string ((rd_T98 l0 x10_1).f1)] 98 (0, 0)) (by (with_reducible repeat (first | refine blk_drewN ?_ _ | refine blk_drew ?_ | refine blk_alloc ?_ _)); refine blk_put (cs := #[.string ((rd_T98 l0 x10_1).f0), .string (⟨#[]⟩ : ByteArray)]) ?_ 1 _ rfl; (with_reducible repeat (first | refine blk_drewN ?_ _ | refine blk_drew ?_ | refine blk_alloc ?_ _)); refine blk_put (cs := #[.string (⟨#[]⟩ : ByteArray), .string (⟨#[]⟩ : ByteArray)]) ?_ 0 _ rfl; (with_reducible repeat (first | refine blk_drewN ?_ _ | refine blk_drew ?_ | refine blk_alloc ?_ _)); exact BK102.out) hb); replace HB := Ak (below_step (by repeat (first | exact HB.out | apply below_alloc | apply pw_below_drewN | apply below_drew1 | refine below_set ?_ GE102.out)) hb); (try clear hb); have hcz18_0 := blk_cell BK102.out 0; have hcz18_1 := blk_cell BK102.out 1; have hfz18_0 := blk_frozen BK102.out 0; have hfz18_1 := blk_frozen BK102.out 1) | (go_at_call 112; (with_reducible refine (impl_attrOk.calls k1 ((rd_T98 l0 x10_1).f0) ((rd_T98 l0 x10_1).f1) false _ A8.out).mono ?_); rintro e w19 ⟨rfl, hb⟩; replace BK102 := Ak (blk_below BK102.out hb); replace HB := Ak (below_step (by repeat (first | exact HB.out | apply below_alloc | apply pw_below_drewN | apply below_drew1 | refine below_set ?_ GE102.out)) hb); (try clear hb)))
         go_ret
         exact ⟨rfl, by repeat (first | exact HB.out | apply below_alloc | apply pw_below_drewN | apply below_drew1 | refine below_set ?_ GE102.out)⟩
       ·rw [if_neg c7] at H
        have c7b0 := beq_eq_false_iff_ne.mpr c7
        have c7b1 := bne_iff_ne.mpr c7
        obtain rfl := Oi H
        have p101 : 0 ≤ (x10_1 : Int) := of_decide_eq_true (by assumption)
        have q101 : x10_1 < (l0.length : Int) := of_decide_eq_true (by assumption)
        obtain ⟨ad101, e101, hx101_0, hx101_1⟩ := at_T98 HR0.out x10_1 p101 q101
        cases e101
        replace hx101_0 := pw_cell_below HB.out hx101_0
        replace hx101_1 := pw_cell_below HB.out hx101_1
        replace p101 := eq_true p101
        replace q101 := eq_true q101
        go_wp2_with (first | ((with_reducible refine gate_dst (N := 4) rfl ?_); refine box_event ?hg (N := 4) ?hd (cs := #[.string (⟨#[]⟩ : ByteArray), .string (⟨#[]⟩ : ByteArray)]) (t := 98) ?hr ?_; (case hd => rfl); (case hg => rfl); (case hr => go_simp); intro gb102 hg w20 hbox hb; have n0_ := Ak (below_step (HB.out) hb); have n1_ := Ak (hbox); have n2_ := Ak ((by rw [hg]; exact (below_size (HB.out)) : w.heap.size ≤ gb102)); have n3_ := n2_; clear HB; have HB := n0_; have BK102 := n1_; have GW102 := n2_; have GE102 := n3_; clear n0_ n1_ n2_ n3_; clear hb hbox hg; have hcz21_0 := blk_cell BK102.out 0; have hcz21_1 := blk_cell BK102.out 1; have hfz21_0 := blk_frozen BK102.out 0; have hfz21_1 := blk_frozen BK102.out 1) | (go_at_call 111; (with_reducible refine (impl_attrAt.calls k1 _ _ l0 ((rd_T98 l0 x10_1).f0) t103 _ ?side1 ?side2 A6.out).mono ?_); (case side1 => exact Kd.C_below HR0.out (by repeat (first | exact HB.out | apply below_alloc | apply pw_below_drewN | apply below_drew1 | refine below_set ?_ GE102.out))); (case side2 => exact HC0.out); rintro e w22 ⟨rfl, hb⟩; replace BK102 := Ak (blk_below (g := gb102) (o := .cells #[.string ((rd_T98 l0 x10_1).f0), .string ((rd_T98 l0 x10_1).f1)] 98 (0, 0)) (by (with_reducible repeat (first | refine blk_drewN ?_ _ | refine blk_drew ?_ | refine blk_alloc ?_ _)); refine blk_put (cs := #[.string ((rd_T98 l0 x10_1).f0), .string (⟨#[]⟩ : ByteArray)]) ?_ 1 _ rfl; (with_reducible repeat (first | refine blk_drewN ?_ _ | refine blk_drew ?_ | refine blk_alloc ?_ _)); refine blk_put (cs := #[.string (⟨#[]⟩ : ByteArray), .string (⟨#[]⟩ : ByteArray)]) ?_ 0 _ rfl; (with_reducible repeat (first | refine blk_drewN ?_ _ | refine blk_drew ?_ | refine blk_alloc ?_ _)); exact BK102.out) hb); replace HB := Ak (below_step (by repeat (first | exact HB.out | apply below_alloc | apply pw_below_drewN | apply below_drew1 | refine below_set ?_ GE102.out)) hb); (try clear hb)))
        go_ret
        exact ⟨rfl, by repeat (first | exact HB.out | apply below_alloc | apply pw_below_drewN | apply below_drew1 | refine below_set ?_ GE102.out)⟩
      ·rw [if_neg c5] at H
       exact absurd H (by simp)
     ·rw [if_neg c4] at H
      exact absurd H (by simp)
    ·rw [if_neg c3] at H
     have c3b0 := decide_eq_false c3
     clear c3
     obtain rfl := Oi H
     go_wp2
     go_ret
     exact ⟨rfl, HB.out⟩
def impl_nodeOk.j0 : Nat → Bool → Int → ByteArray → List (S98) → ByteArray → Int → List Int → Option (Bool)
 | 0, _, _, _, _, _, _, _ => none
 | k + 1, x32, x102000, x102001, x102002, x102003, x102004, x102005 => if x32 = true then (some false) else (if x102000 = 1 then (if x102001.toList = ([] : List UInt8) then (if x102003.toList = ([] : List UInt8) then (some (x102004 == (-1))) else (some false)) else (some false)) else (if x102000 = 2 then ((impl_doctypeOk.f k x102001).bind fun t103 => (if t103 = true then (some (x102003.toList == ([] : List UInt8))) else (some false))) else (if x102000 = 3 then ((impl_NameOk.f k x102001).bind fun t104 => (if t104 = true then ((impl_AttrsOk.f k x102002).bind fun t105 => (if t105 = true then (some (x102003.toList == ([] : List UInt8))) else (some false))) else (some false))) else (if x102000 = 4 then (if x102001.toList = ([] : List UInt8) then (if x102003.toList = ([] : List UInt8) then (some false) else ((impl_textOk.f k x102003).bind fun t106 => (some t106))) else (some false)) else (if x102000 = 5 then (if x102001.toList = ([] : List UInt8) then ((impl_textOk.f k x102003).bind fun t107 => (some t107)) else (some false)) else (some false))))))
def impl_nodeOk.f (k : Nat) (a0_0 : Int) (a0_1 : ByteArray) (l0_2 : List (S98)) (a0_3 : ByteArray) (a0_4 : Int) (l0_5 : List Int) (a1 : Int) : Option (Bool) := if ((a0_0 == 1) != (a1 == 0)) = true then (impl_nodeOk.j0 k true a0_0 a0_1 l0_2 a0_3 a0_4 l0_5) else (if (l0_5.length : Int) > 0 then ((impl_Node_mayHold.f a0_0 a0_1 l0_2 a0_3 a0_4 l0_5).bind fun t102 => (if t102 = true then (if a0_0 = 3 then (impl_nodeOk.j0 k false a0_0 a0_1 l0_2 a0_3 a0_4 l0_5) else (impl_nodeOk.j0 k (decide ((l0_2.length : Int) > 0)) a0_0 a0_1 l0_2 a0_3 a0_4 l0_5)) else (impl_nodeOk.j0 k true a0_0 a0_1 l0_2 a0_3 a0_4 l0_5))) else (if a0_0 = 3 then (impl_nodeOk.j0 k false a0_0 a0_1 l0_2 a0_3 a0_4 l0_5) else (impl_nodeOk.j0 k (decide ((l0_2.length : Int) > 0)) a0_0 a0_1 l0_2 a0_3 a0_4 l0_5)))
theorem impl_nodeOk.mono_l : ∀ k, (∀ y0 y1 y2 y3 y4 y5 y6, LeO (impl_nodeOk.j0 k y0 y1 y2 y3 y4 y5 y6) (impl_nodeOk.j0 (k + 1) y0 y1 y2 y3 y4 y5 y6))
 | 0 => fun _ _ _ _ _ _ _ r h => by simp [impl_nodeOk.j0] at h
 | k + 1 => by
  have ih0 := impl_nodeOk.mono_l k
  ·intro y0 y1 y2 y3 y4 y5 y6
   unfold impl_nodeOk.j0
   repeat' (with_reducible first | exact ih0 _ _ _ _ _ _ _ | exact impl_AttrsOk.mono _ _ | exact impl_NameOk.mono _ _ | exact impl_doctypeOk.mono _ _ | exact impl_textOk.mono _ _ | exact LeO.refl _ | exact LeO.none _ | refine LeO.ite ?_ ?_ | refine LeO.bind ?_ (fun _ => ?_))
theorem impl_nodeOk.mono : ∀ a0 a1 a2 a3 a4 a5 a6 k, LeO (impl_nodeOk.f k a0 a1 a2 a3 a4 a5 a6) (impl_nodeOk.f (k + 1) a0 a1 a2 a3 a4 a5 a6) := by
 intro a0 a1 a2 a3 a4 a5 a6 k
 have ih0 := impl_nodeOk.mono_l k
 unfold impl_nodeOk.f
 repeat' (with_reducible first | exact ih0 _ _ _ _ _ _ _ | exact impl_AttrsOk.mono _ _ | exact impl_NameOk.mono _ _ | exact impl_doctypeOk.mono _ _ | exact impl_textOk.mono _ _ | exact LeO.refl _ | exact LeO.none _ | refine LeO.ite ?_ ?_ | refine LeO.bind ?_ (fun _ => ?_))
theorem impl_nodeOk.calls (k : Nat) (a0_0 : Int) (a0_1 : ByteArray) (A0_2 : Option Addr) (c0_2 : Nat) (l0_2 : List (S98)) (a0_3 : ByteArray) (a0_4 : Int) (A0_5 : Option Addr) (c0_5 : Nat) (l0_5 : List Int) (a1 : Int) (r : Bool) (w : World) (hr0_2 : Kd.C k98 w A0_2 l0_2.length l0_2) (hc0_2 : l0_2.length ≤ c0_2) (hr0_5 : Kd.C (Kd.int .i64) w A0_5 l0_5.length l0_5) (hc0_5 : l0_5.length ≤ c0_5) (h : impl_nodeOk.f k a0_0 a0_1 l0_2 a0_3 a0_4 l0_5 a1 = some r) :
 Calls Try.prog 41 #[.agg #[.int .i64 a0_0, .string a0_1, .slice A0_2 l0_2.length c0_2, .string a0_3, .int .i64 a0_4, .slice A0_5 l0_5.length c0_5], .int .i64 a1] w fun e w' => e = .returned (.bool r) ∧ Below w.heap.size w w' := by
 have hu45 := Try.underlying45
 have HR0_2 := Ak hr0_2
 have HC0_2 := Ak hc0_2
 clear hr0_2 hc0_2
 have HR0_5 := Ak hr0_5
 have HC0_5 := Ak hc0_5
 clear hr0_5 hc0_5
 have HB := Ak (Below.refl w.heap.size w)
 have H : (if ((a0_0 == 1) != (a1 == 0)) = true then (impl_nodeOk.j0 k true a0_0 a0_1 l0_2 a0_3 a0_4 l0_5) else (if (l0_5.length : Int) > 0 then ((impl_Node_mayHold.f a0_0 a0_1 l0_2 a0_3 a0_4 l0_5).bind fun t102 => (if t102 = true then (if a0_0 = 3 then (impl_nodeOk.j0 k false a0_0 a0_1 l0_2 a0_3 a0_4 l0_5) else (impl_nodeOk.j0 k (decide ((l0_2.length : Int) > 0)) a0_0 a0_1 l0_2 a0_3 a0_4 l0_5)) else (impl_nodeOk.j0 k true a0_0 a0_1 l0_2 a0_3 a0_4 l0_5))) else (if a0_0 = 3 then (impl_nodeOk.j0 k false a0_0 a0_1 l0_2 a0_3 a0_4 l0_5) else (impl_nodeOk.j0 k (decide ((l0_2.length : Int) > 0)) a0_0 a0_1 l0_2 a0_3 a0_4 l0_5)))) = some r := h
 clear h
 have HC3 := Ak H
 clear H
 go_enter Try.func41, Try.ntmps41
 go_upto_region 1 with (first | ((with_reducible refine gate_dst (N := 2) rfl ?_); (try (refine gate_guard (by rfl) ?_; dsimp only)); refine box_event ?hg (N := 2) ?hd (cs := #[.int .i64 a0_0, .string a0_1, .slice A0_2 l0_2.length c0_2, .string a0_3, .int .i64 a0_4, .slice A0_5 l0_5.length c0_5]) (t := 45) ?hr ?_; (case hd => rfl); (case hg => rfl); (case hr => first | (go_simp; done) | (go_simp; rfl)); intro gb101 hg w4 hbox hb; have n0_ := Ak (below_step (HB.out) hb); have n1_ := Ak (hbox); have n2_ := Ak ((by rw [hg]; exact (below_size (HB.out)) : w.heap.size ≤ gb101)); have n3_ := n2_; clear HB; have HB := n0_; have BK101 := n1_; have GW101 := n2_; have GE101 := n3_; clear n0_ n1_ n2_ n3_; clear hb hbox hg))
 (try simp only [Act.put, List.setIfInBounds_toArray, List.set_cons_zero, List.set_cons_succ])
 go_cut [32] (fun v32 wc => ∃ (kq : Nat) (x32_2 : Bool), v32 = .bool x32_2 ∧ Aside0 (impl_nodeOk.j0 kq x32_2 a0_0 a0_1 l0_2 a0_3 a0_4 l0_5 = some r) ∧ Aside0 (kq ≤ k) ∧ Aside0 (wc.heap[gb101]? = some (.cells #[.int .i64 a0_0, .string a0_1, (.slice A0_2 l0_2.length c0_2), .string a0_3, .int .i64 a0_4, (.slice A0_5 l0_5.length c0_5)] 45 (0, 0))) ∧ Aside0 (Below w.heap.size w wc))
 case first =>
  have H := HC3.out
  clear HC3
  by_cases c5 : ((a0_0 == 1) != (a1 == 0)) = true
  ·rw [if_pos c5] at H
   have c5b0 : ((a0_0 == 1) != (a1 == 0)) = true := c5
   (try (have c5b1 : decide ((a0_0 == 1) = (a1 == 0)) = false := by simpa using c5))
   (try (have c5b2 : ((a0_0 == 1) == (a1 == 0)) = false := by simpa using c5))
   (try (have c5b3 : ¬ ((a0_0 == 1) = (a1 == 0)) := by simpa using c5))
   clear c5
   (first | rw [c5b0] | (simp only [i64_w, i32_w]; rw [c5b0]) | skip)
   have H' := Ak H
   clear H
   have hcz6_0 := blk_cell BK101.out 0
   have hcz6_1 := blk_cell BK101.out 1
   have hcz6_2 := blk_cell BK101.out 2
   have hcz6_3 := blk_cell BK101.out 3
   have hcz6_4 := blk_cell BK101.out 4
   have hcz6_5 := blk_cell BK101.out 5
   have hfz6_0 := blk_frozen BK101.out
   go_wp2
   go_meet
   case rel => exact ⟨_, (true), (by first | rfl | (simp; done) | (simp [*]; done)), H', ⟨by first | omega | exact Nat.le_refl _⟩, ⟨by (with_reducible repeat (first | refine blk_drewN ?_ _ | refine blk_drew ?_ | refine blk_alloc ?_ _)); exact BK101.out⟩, ⟨HB.out⟩⟩
  ·rw [if_neg c5] at H
   have c5b0 : ((a0_0 == 1) != (a1 == 0)) = false := by simpa using c5
   (try (have c5b1 : decide ((a0_0 == 1) = (a1 == 0)) = true := by simpa using c5))
   (try (have c5b2 : ((a0_0 == 1) == (a1 == 0)) = true := by simpa using c5))
   clear c5
   (first | rw [c5b0] | (simp only [i64_w, i32_w]; rw [c5b0]) | skip)
   by_cases c7 : (l0_5.length : Int) > 0
   ·rw [if_pos c7] at H
    have c7b0 : decide (0 < (l0_5.length : Int)) = true := decide_eq_true c7
    have c7b1 : decide (0 < l0_5.length) = true := decide_eq_true (by omega)
    clear c7
    replace H := Ob H
    obtain ⟨t102, A80, H⟩ := H
    replace H : (if t102 = true then (if a0_0 = 3 then (impl_nodeOk.j0 k false a0_0 a0_1 l0_2 a0_3 a0_4 l0_5) else (impl_nodeOk.j0 k (decide ((l0_2.length : Int) > 0)) a0_0 a0_1 l0_2 a0_3 a0_4 l0_5)) else (impl_nodeOk.j0 k true a0_0 a0_1 l0_2 a0_3 a0_4 l0_5)) = some r := H
    have A8 := Ak A80
    clear A80
    by_cases c9 : t102 = true
    ·subst c9
     rw [if_pos rfl] at H
     by_cases c10 : a0_0 = 3
     ·rw [if_pos c10] at H
      have c10b0 := beq_iff_eq.mpr c10
      have c10b1 := bne_eq_false_iff_eq.mpr c10
      clear c10
      have H' := Ak H
      clear H
      have hcz11_0 := blk_cell BK101.out 0
      have hcz11_1 := blk_cell BK101.out 1
      have hcz11_2 := blk_cell BK101.out 2
      have hcz11_3 := blk_cell BK101.out 3
      have hcz11_4 := blk_cell BK101.out 4
      have hcz11_5 := blk_cell BK101.out 5
      have hfz11_0 := blk_frozen BK101.out
      go_wp2_with (first | (go_at_call 82; (with_reducible refine (impl_Node_mayHold.calls a0_0 a0_1 _ _ l0_2 a0_3 a0_4 _ _ l0_5 true _ ?side1 ?side2 ?side3 ?side4 A8.out).mono ?_); (case side1 => exact (Kd.C_below HR0_2.out HB.out)); (case side2 => exact HC0_2.out); (case side3 => exact (Kd.C_below HR0_5.out HB.out)); (case side4 => exact HC0_5.out); rintro e w12 ⟨rfl, hb⟩; replace BK101 := Ak (blk_below BK101.out hb); replace HB := Ak (below_step (HB.out) hb); (try clear hb); have hcz13_0 := blk_cell BK101.out 0; have hcz13_1 := blk_cell BK101.out 1; have hcz13_2 := blk_cell BK101.out 2; have hcz13_3 := blk_cell BK101.out 3; have hcz13_4 := blk_cell BK101.out 4; have hcz13_5 := blk_cell BK101.out 5; have hfz13_0 := blk_frozen BK101.out; have hfz13_1 := blk_frozen BK101.out 1; have hfz13_2 := blk_frozen BK101.out 2; have hfz13_3 := blk_frozen BK101.out 3; have hfz13_4 := blk_frozen BK101.out 4; have hfz13_5 := blk_frozen BK101.out 5))
      go_meet
      case rel => exact ⟨_, (false), (by first | rfl | (simp; done) | (simp [*]; done)), H', ⟨by first | omega | exact Nat.le_refl _⟩, ⟨by (with_reducible repeat (first | refine blk_drewN ?_ _ | refine blk_drew ?_ | refine blk_alloc ?_ _)); exact BK101.out⟩, ⟨HB.out⟩⟩
     ·rw [if_neg c10] at H
      have c10b0 := beq_eq_false_iff_ne.mpr c10
      have c10b1 := bne_iff_ne.mpr c10
      have H' := Ak H
      clear H
      have hcz14_0 := blk_cell BK101.out 0
      have hcz14_1 := blk_cell BK101.out 1
      have hcz14_2 := blk_cell BK101.out 2
      have hcz14_3 := blk_cell BK101.out 3
      have hcz14_4 := blk_cell BK101.out 4
      have hcz14_5 := blk_cell BK101.out 5
      have hfz14_0 := blk_frozen BK101.out
      go_wp2_with (first | (go_at_call 82; (with_reducible refine (impl_Node_mayHold.calls a0_0 a0_1 _ _ l0_2 a0_3 a0_4 _ _ l0_5 true _ ?side1 ?side2 ?side3 ?side4 A8.out).mono ?_); (case side1 => exact (Kd.C_below HR0_2.out HB.out)); (case side2 => exact HC0_2.out); (case side3 => exact (Kd.C_below HR0_5.out HB.out)); (case side4 => exact HC0_5.out); rintro e w15 ⟨rfl, hb⟩; replace BK101 := Ak (blk_below BK101.out hb); replace HB := Ak (below_step (HB.out) hb); (try clear hb); have hcz16_0 := blk_cell BK101.out 0; have hcz16_1 := blk_cell BK101.out 1; have hcz16_2 := blk_cell BK101.out 2; have hcz16_3 := blk_cell BK101.out 3; have hcz16_4 := blk_cell BK101.out 4; have hcz16_5 := blk_cell BK101.out 5; have hfz16_0 := blk_frozen BK101.out; have hfz16_1 := blk_frozen BK101.out 1; have hfz16_2 := blk_frozen BK101.out 2; have hfz16_3 := blk_frozen BK101.out 3; have hfz16_4 := blk_frozen BK101.out 4; have hfz16_5 := blk_frozen BK101.out 5))
      go_meet
      case rel => exact ⟨_, (decide ((l0_2.length : Int) > 0)), (by first | rfl | (simp; done) | (simp [*]; done)), H', ⟨by first | omega | exact Nat.le_refl _⟩, ⟨by (with_reducible repeat (first | refine blk_drewN ?_ _ | refine blk_drew ?_ | refine blk_alloc ?_ _)); exact BK101.out⟩, ⟨HB.out⟩⟩
    ·replace c9 := Bool.eq_false_iff.mpr c9
     subst c9
     rw [if_neg (show ¬ (false = true) by decide)] at H
     have H' := Ak H
     clear H
     have hcz17_0 := blk_cell BK101.out 0
     have hcz17_1 := blk_cell BK101.out 1
     have hcz17_2 := blk_cell BK101.out 2
     have hcz17_3 := blk_cell BK101.out 3
     have hcz17_4 := blk_cell BK101.out 4
     have hcz17_5 := blk_cell BK101.out 5
     have hfz17_0 := blk_frozen BK101.out
     go_wp2_with (first | (go_at_call 82; (with_reducible refine (impl_Node_mayHold.calls a0_0 a0_1 _ _ l0_2 a0_3 a0_4 _ _ l0_5 false _ ?side1 ?side2 ?side3 ?side4 A8.out).mono ?_); (case side1 => exact (Kd.C_below HR0_2.out HB.out)); (case side2 => exact HC0_2.out); (case side3 => exact (Kd.C_below HR0_5.out HB.out)); (case side4 => exact HC0_5.out); rintro e w18 ⟨rfl, hb⟩; replace BK101 := Ak (blk_below BK101.out hb); replace HB := Ak (below_step (HB.out) hb); (try clear hb)))
     go_meet
     case rel => exact ⟨_, (true), (by first | rfl | (simp; done) | (simp [*]; done)), H', ⟨by first | omega | exact Nat.le_refl _⟩, ⟨by (with_reducible repeat (first | refine blk_drewN ?_ _ | refine blk_drew ?_ | refine blk_alloc ?_ _)); exact BK101.out⟩, ⟨HB.out⟩⟩
   ·rw [if_neg c7] at H
    have c7b0 : decide (0 < (l0_5.length : Int)) = false := decide_eq_false c7
    have c7b1 : decide (0 < l0_5.length) = false := decide_eq_false (by omega)
    clear c7
    by_cases c19 : a0_0 = 3
    ·rw [if_pos c19] at H
     have c19b0 := beq_iff_eq.mpr c19
     have c19b1 := bne_eq_false_iff_eq.mpr c19
     clear c19
     have H' := Ak H
     clear H
     have hcz20_0 := blk_cell BK101.out 0
     have hcz20_1 := blk_cell BK101.out 1
     have hcz20_2 := blk_cell BK101.out 2
     have hcz20_3 := blk_cell BK101.out 3
     have hcz20_4 := blk_cell BK101.out 4
     have hcz20_5 := blk_cell BK101.out 5
     have hfz20_0 := blk_frozen BK101.out
     go_wp2
     go_meet
     case rel => exact ⟨_, (false), (by first | rfl | (simp; done) | (simp [*]; done)), H', ⟨by first | omega | exact Nat.le_refl _⟩, ⟨by (with_reducible repeat (first | refine blk_drewN ?_ _ | refine blk_drew ?_ | refine blk_alloc ?_ _)); exact BK101.out⟩, ⟨HB.out⟩⟩
    ·rw [if_neg c19] at H
     have c19b0 := beq_eq_false_iff_ne.mpr c19
     have c19b1 := bne_iff_ne.mpr c19
     have H' := Ak H
     clear H
     have hcz21_0 := blk_cell BK101.out 0
     have hcz21_1 := blk_cell BK101.out 1
     have hcz21_2 := blk_cell BK101.out 2
     have hcz21_3 := blk_cell BK101.out 3
     have hcz21_4 := blk_cell BK101.out 4
     have hcz21_5 := blk_cell BK101.out 5
     have hfz21_0 := blk_frozen BK101.out
     go_wp2
     go_meet
     case rel => exact ⟨_, (decide ((l0_2.length : Int) > 0)), (by first | rfl | (simp; done) | (simp [*]; done)), H', ⟨by first | omega | exact Nat.le_refl _⟩, ⟨by (with_reducible repeat (first | refine blk_drewN ?_ _ | refine blk_drew ?_ | refine blk_alloc ?_ _)); exact BK101.out⟩, ⟨HB.out⟩⟩
 case rest =>
  clear HC3
  obtain ⟨kq, x32_2, rfl, HA, HJ2, BK101, HB⟩ := hcut
  cases kq with
  | zero => exact absurd HA.out (by simp [impl_nodeOk.j0])
  | succ kj2 =>
   have H := HA.out
   clear HA
   simp only [impl_nodeOk.j0] at H
   by_cases c22 : x32_2 = true
   ·subst c22
    rw [if_pos rfl] at H
    obtain rfl := Oi H
    go_wp2
    go_ret
    exact ⟨by first | rfl | (simp [*] <;> rfl), HB.out⟩
   ·replace c22 := Bool.eq_false_iff.mpr c22
    subst c22
    rw [if_neg (show ¬ (false = true) by decide)] at H
    by_cases c23 : a0_0 = 1
    ·rw [if_pos c23] at H
     have c23b0 := beq_iff_eq.mpr c23
     have c23b1 := bne_eq_false_iff_eq.mpr c23
     clear c23
     by_cases c24 : a0_1.toList = ([] : List UInt8)
     ·rw [if_pos c24] at H
      have c24b0 := beq_iff_eq.mpr c24
      have c24b1 := bne_eq_false_iff_eq.mpr c24
      clear c24
      by_cases c25 : a0_3.toList = ([] : List UInt8)
      ·rw [if_pos c25] at H
       have c25b0 := beq_iff_eq.mpr c25
       have c25b1 := bne_eq_false_iff_eq.mpr c25
       clear c25
       obtain rfl := Oi H
       have hcz26_0 := blk_cell BK101.out 0
       have hcz26_1 := blk_cell BK101.out 1
       have hcz26_2 := blk_cell BK101.out 2
       have hcz26_3 := blk_cell BK101.out 3
       have hcz26_4 := blk_cell BK101.out 4
       have hcz26_5 := blk_cell BK101.out 5
       have hfz26_0 := blk_frozen BK101.out
       go_wp2
       go_ret
       exact ⟨by first | rfl | (simp [*] <;> rfl), HB.out⟩
      ·rw [if_neg c25] at H
       have c25b0 := beq_eq_false_iff_ne.mpr c25
       have c25b1 := bne_iff_ne.mpr c25
       obtain rfl := Oi H
       have hcz27_0 := blk_cell BK101.out 0
       have hcz27_1 := blk_cell BK101.out 1
       have hcz27_2 := blk_cell BK101.out 2
       have hcz27_3 := blk_cell BK101.out 3
       have hcz27_4 := blk_cell BK101.out 4
       have hcz27_5 := blk_cell BK101.out 5
       have hfz27_0 := blk_frozen BK101.out
       go_wp2
       go_ret
       exact ⟨by first | rfl | (simp [*] <;> rfl), HB.out⟩
     ·rw [if_neg c24] at H
      have c24b0 := beq_eq_false_iff_ne.mpr c24
      have c24b1 := bne_iff_ne.mpr c24
      obtain rfl := Oi H
      have hcz28_0 := blk_cell BK101.out 0
      have hcz28_1 := blk_cell BK101.out 1
      have hcz28_2 := blk_cell BK101.out 2
      have hcz28_3 := blk_cell BK101.out 3
      have hcz28_4 := blk_cell BK101.out 4
      have hcz28_5 := blk_cell BK101.out 5
      have hfz28_0 := blk_frozen BK101.out
      go_wp2
      go_ret
      exact ⟨by first | rfl | (simp [*] <;> rfl), HB.out⟩
    ·rw [if_neg c23] at H
     have c23b0 := beq_eq_false_iff_ne.mpr c23
     have c23b1 := bne_iff_ne.mpr c23
     by_cases c29 : a0_0 = 2
     ·rw [if_pos c29] at H
      have c29b0 := beq_iff_eq.mpr c29
      have c29b1 := bne_eq_false_iff_eq.mpr c29
      clear c29
      replace H := Ob H
      obtain ⟨t103, A300, H⟩ := H
      replace H : (if t103 = true then (some (a0_3.toList == ([] : List UInt8))) else (some false)) = some r := H
      have A30 := Ak A300
      clear A300
      by_cases c31 : t103 = true
      ·subst c31
       rw [if_pos rfl] at H
       obtain rfl := Oi H
       have hcz32_0 := blk_cell BK101.out 0
       have hcz32_1 := blk_cell BK101.out 1
       have hcz32_2 := blk_cell BK101.out 2
       have hcz32_3 := blk_cell BK101.out 3
       have hcz32_4 := blk_cell BK101.out 4
       have hcz32_5 := blk_cell BK101.out 5
       have hfz32_0 := blk_frozen BK101.out
       go_wp2_with (first | (go_at_call 83; (with_reducible refine (impl_doctypeOk.calls kj2 a0_1 true _ A30.out).mono ?_); rintro e w33 ⟨rfl, hb⟩; replace BK101 := Ak (blk_below BK101.out hb); replace HB := Ak (below_step (HB.out) hb); (try clear hb); have hcz34_0 := blk_cell BK101.out 0; have hcz34_1 := blk_cell BK101.out 1; have hcz34_2 := blk_cell BK101.out 2; have hcz34_3 := blk_cell BK101.out 3; have hcz34_4 := blk_cell BK101.out 4; have hcz34_5 := blk_cell BK101.out 5; have hfz34_0 := blk_frozen BK101.out; have hfz34_1 := blk_frozen BK101.out 1; have hfz34_2 := blk_frozen BK101.out 2; have hfz34_3 := blk_frozen BK101.out 3; have hfz34_4 := blk_frozen BK101.out 4; have hfz34_5 := blk_frozen BK101.out 5))
       go_ret
       exact ⟨by first | rfl | (simp [*] <;> rfl), HB.out⟩
      ·replace c31 := Bool.eq_false_iff.mpr c31
       subst c31
       rw [if_neg (show ¬ (false = true) by decide)] at H
       obtain rfl := Oi H
       have hcz35_0 := blk_cell BK101.out 0
       have hcz35_1 := blk_cell BK101.out 1
       have hcz35_2 := blk_cell BK101.out 2
       have hcz35_3 := blk_cell BK101.out 3
       have hcz35_4 := blk_cell BK101.out 4
       have hcz35_5 := blk_cell BK101.out 5
       have hfz35_0 := blk_frozen BK101.out
       go_wp2_with (first | (go_at_call 83; (with_reducible refine (impl_doctypeOk.calls kj2 a0_1 false _ A30.out).mono ?_); rintro e w36 ⟨rfl, hb⟩; replace BK101 := Ak (blk_below BK101.out hb); replace HB := Ak (below_step (HB.out) hb); (try clear hb)))
       go_ret
       exact ⟨by first | rfl | (simp [*] <;> rfl), HB.out⟩
     ·rw [if_neg c29] at H
      have c29b0 := beq_eq_false_iff_ne.mpr c29
      have c29b1 := bne_iff_ne.mpr c29
      by_cases c37 : a0_0 = 3
      ·rw [if_pos c37] at H
       have c37b0 := beq_iff_eq.mpr c37
       have c37b1 := bne_eq_false_iff_eq.mpr c37
       clear c37
       replace H := Ob H
       obtain ⟨t104, A380, H⟩ := H
       replace H : (if t104 = true then ((impl_AttrsOk.f kj2 l0_2).bind fun t105 => (if t105 = true then (some (a0_3.toList == ([] : List UInt8))) else (some false))) else (some false)) = some r := H
       have A38 := Ak A380
       clear A380
       by_cases c39 : t104 = true
       ·subst c39
        rw [if_pos rfl] at H
        replace H := Ob H
        obtain ⟨t105, A400, H⟩ := H
        replace H : (if t105 = true then (some (a0_3.toList == ([] : List UInt8))) else (some false)) = some r := H
        have A40 := Ak A400
        clear A400
        by_cases c41 : t105 = true
        ·subst c41
         rw [if_pos rfl] at H
         obtain rfl := Oi H
         have hcz42_0 := blk_cell BK101.out 0
         have hcz42_1 := blk_cell BK101.out 1
         have hcz42_2 := blk_cell BK101.out 2
         have hcz42_3 := blk_cell BK101.out 3
         have hcz42_4 := blk_cell BK101.out 4
         have hcz42_5 := blk_cell BK101.out 5
         have hfz42_0 := blk_frozen BK101.out
         go_wp2_with (first | (go_at_call 84; (with_reducible refine (impl_NameOk.calls kj2 a0_1 true _ A38.out).mono ?_); rintro e w43 ⟨rfl, hb⟩; replace BK101 := Ak (blk_below BK101.out hb); replace HB := Ak (below_step (HB.out) hb); (try clear hb); have hcz44_0 := blk_cell BK101.out 0; have hcz44_1 := blk_cell BK101.out 1; have hcz44_2 := blk_cell BK101.out 2; have hcz44_3 := blk_cell BK101.out 3; have hcz44_4 := blk_cell BK101.out 4; have hcz44_5 := blk_cell BK101.out 5; have hfz44_0 := blk_frozen BK101.out; have hfz44_1 := blk_frozen BK101.out 1; have hfz44_2 := blk_frozen BK101.out 2; have hfz44_3 := blk_frozen BK101.out 3; have hfz44_4 := blk_frozen BK101.out 4; have hfz44_5 := blk_frozen BK101.out 5) | (go_at_call 85; (with_reducible refine (impl_AttrsOk.calls kj2 _ _ l0_2 true _ ?side1 ?side2 A40.out).mono ?_); (case side1 => exact (Kd.C_below HR0_2.out HB.out)); (case side2 => exact HC0_2.out); rintro e w45 ⟨rfl, hb⟩; replace BK101 := Ak (blk_below BK101.out hb); replace HB := Ak (below_step (HB.out) hb); (try clear hb); have hcz46_0 := blk_cell BK101.out 0; have hcz46_1 := blk_cell BK101.out 1; have hcz46_2 := blk_cell BK101.out 2; have hcz46_3 := blk_cell BK101.out 3; have hcz46_4 := blk_cell BK101.out 4; have hcz46_5 := blk_cell BK101.out 5; have hfz46_0 := blk_frozen BK101.out; have hfz46_1 := blk_frozen BK101.out 1; have hfz46_2 := blk_frozen BK101.out 2; have hfz46_3 := blk_frozen BK101.out 3; have hfz46_4 := blk_frozen BK101.out 4; have hfz46_5 := blk_frozen BK101.out 5))
         go_ret
         exact ⟨by first | rfl | (simp [*] <;> rfl), HB.out⟩
        ·replace c41 := Bool.eq_false_iff.mpr c41
         subst c41
         rw [if_neg (show ¬ (false = true) by decide)] at H
         obtain rfl := Oi H
         have hcz47_0 := blk_cell BK101.out 0
         have hcz47_1 := blk_cell BK101.out 1
         have hcz47_2 := blk_cell BK101.out 2
         have hcz47_3 := blk_cell BK101.out 3
         have hcz47_4 := blk_cell BK101.out 4
         have hcz47_5 := blk_cell BK101.out 5
         have hfz47_0 := blk_frozen BK101.out
         go_wp2_with (first | (go_at_call 84; (with_reducible refine (impl_NameOk.calls kj2 a0_1 true _ A38.out).mono ?_); rintro e w48 ⟨rfl, hb⟩; replace BK101 := Ak (blk_below BK101.out hb); replace HB := Ak (below_step (HB.out) hb); (try clear hb); have hcz49_0 := blk_cell BK101.out 0; have hcz49_1 := blk_cell BK101.out 1; have hcz49_2 := blk_cell BK101.out 2; have hcz49_3 := blk_cell BK101.out 3; have hcz49_4 := blk_cell BK101.out 4; have hcz49_5 := blk_cell BK101.out 5; have hfz49_0 := blk_frozen BK101.out; have hfz49_1 := blk_frozen BK101.out 1; have hfz49_2 := blk_frozen BK101.out 2; have hfz49_3 := blk_frozen BK101.out 3; have hfz49_4 := blk_frozen BK101.out 4; have hfz49_5 := blk_frozen BK101.out 5) | (go_at_call 85; (with_reducible refine (impl_AttrsOk.calls kj2 _ _ l0_2 false _ ?side1 ?side2 A40.out).mono ?_); (case side1 => exact (Kd.C_below HR0_2.out HB.out)); (case side2 => exact HC0_2.out); rintro e w50 ⟨rfl, hb⟩; replace BK101 := Ak (blk_below BK101.out hb); replace HB := Ak (below_step (HB.out) hb); (try clear hb)))
         go_ret
         exact ⟨by first | rfl | (simp [*] <;> rfl), HB.out⟩
       ·replace c39 := Bool.eq_false_iff.mpr c39
        subst c39
        rw [if_neg (show ¬ (false = true) by decide)] at H
        obtain rfl := Oi H
        have hcz51_0 := blk_cell BK101.out 0
        have hcz51_1 := blk_cell BK101.out 1
        have hcz51_2 := blk_cell BK101.out 2
        have hcz51_3 := blk_cell BK101.out 3
        have hcz51_4 := blk_cell BK101.out 4
        have hcz51_5 := blk_cell BK101.out 5
        have hfz51_0 := blk_frozen BK101.out
        go_wp2_with (first | (go_at_call 84; (with_reducible refine (impl_NameOk.calls kj2 a0_1 false _ A38.out).mono ?_); rintro e w52 ⟨rfl, hb⟩; replace BK101 := Ak (blk_below BK101.out hb); replace HB := Ak (below_step (HB.out) hb); (try clear hb)))
        go_ret
        exact ⟨by first | rfl | (simp [*] <;> rfl), HB.out⟩
      ·rw [if_neg c37] at H
       have c37b0 := beq_eq_false_iff_ne.mpr c37
       have c37b1 := bne_iff_ne.mpr c37
       by_cases c53 : a0_0 = 4
       ·rw [if_pos c53] at H
        have c53b0 := beq_iff_eq.mpr c53
        have c53b1 := bne_eq_false_iff_eq.mpr c53
        clear c53
        by_cases c54 : a0_1.toList = ([] : List UInt8)
        ·rw [if_pos c54] at H
         have c54b0 := beq_iff_eq.mpr c54
         have c54b1 := bne_eq_false_iff_eq.mpr c54
         clear c54
         by_cases c55 : a0_3.toList = ([] : List UInt8)
         ·rw [if_pos c55] at H
          have c55b0 := beq_iff_eq.mpr c55
          have c55b1 := bne_eq_false_iff_eq.mpr c55
          clear c55
          obtain rfl := Oi H
          have hcz56_0 := blk_cell BK101.out 0
          have hcz56_1 := blk_cell BK101.out 1
          have hcz56_2 := blk_cell BK101.out 2
          have hcz56_3 := blk_cell BK101.out 3
          have hcz56_4 := blk_cell BK101.out 4
          have hcz56_5 := blk_cell BK101.out 5
          have hfz56_0 := blk_frozen BK101.out
          go_wp2
          go_ret
          exact ⟨by first | rfl | (simp [*] <;> rfl), HB.out⟩
         ·rw [if_neg c55] at H
          have c55b0 := beq_eq_false_iff_ne.mpr c55
          have c55b1 := bne_iff_ne.mpr c55
          replace H := Ob H
          obtain ⟨t106, A570, H⟩ := H
          replace H : (some t106) = some r := H
          have A57 := Ak A570
          clear A570
          obtain rfl := Oi H
          have hcz58_0 := blk_cell BK101.out 0
          have hcz58_1 := blk_cell BK101.out 1
          have hcz58_2 := blk_cell BK101.out 2
          have hcz58_3 := blk_cell BK101.out 3
          have hcz58_4 := blk_cell BK101.out 4
          have hcz58_5 := blk_cell BK101.out 5
          have hfz58_0 := blk_frozen BK101.out
          go_wp2_with (first | (go_at_call 86; (with_reducible refine (impl_textOk.calls kj2 a0_3 t106 _ A57.out).mono ?_); rintro e w59 ⟨rfl, hb⟩; replace BK101 := Ak (blk_below BK101.out hb); replace HB := Ak (below_step (HB.out) hb); (try clear hb)))
          go_ret
          exact ⟨by first | rfl | (simp [*] <;> rfl), HB.out⟩
        ·rw [if_neg c54] at H
         have c54b0 := beq_eq_false_iff_ne.mpr c54
         have c54b1 := bne_iff_ne.mpr c54
         obtain rfl := Oi H
         have hcz60_0 := blk_cell BK101.out 0
         have hcz60_1 := blk_cell BK101.out 1
         have hcz60_2 := blk_cell BK101.out 2
         have hcz60_3 := blk_cell BK101.out 3
         have hcz60_4 := blk_cell BK101.out 4
         have hcz60_5 := blk_cell BK101.out 5
         have hfz60_0 := blk_frozen BK101.out
         go_wp2
         go_ret
         exact ⟨by first | rfl | (simp [*] <;> rfl), HB.out⟩
       ·rw [if_neg c53] at H
        have c53b0 := beq_eq_false_iff_ne.mpr c53
        have c53b1 := bne_iff_ne.mpr c53
        by_cases c61 : a0_0 = 5
        ·rw [if_pos c61] at H
         have c61b0 := beq_iff_eq.mpr c61
         have c61b1 := bne_eq_false_iff_eq.mpr c61
         clear c61
         by_cases c62 : a0_1.toList = ([] : List UInt8)
         ·rw [if_pos c62] at H
          have c62b0 := beq_iff_eq.mpr c62
          have c62b1 := bne_eq_false_iff_eq.mpr c62
          clear c62
          replace H := Ob H
          obtain ⟨t107, A630, H⟩ := H
          replace H : (some t107) = some r := H
          have A63 := Ak A630
          clear A630
          obtain rfl := Oi H
          have hcz64_0 := blk_cell BK101.out 0
          have hcz64_1 := blk_cell BK101.out 1
          have hcz64_2 := blk_cell BK101.out 2
          have hcz64_3 := blk_cell BK101.out 3
          have hcz64_4 := blk_cell BK101.out 4
          have hcz64_5 := blk_cell BK101.out 5
          have hfz64_0 := blk_frozen BK101.out
          go_wp2_with (first | (go_at_call 86; (with_reducible refine (impl_textOk.calls kj2 a0_3 t107 _ A63.out).mono ?_); rintro e w65 ⟨rfl, hb⟩; replace BK101 := Ak (blk_below BK101.out hb); replace HB := Ak (below_step (HB.out) hb); (try clear hb)))
          go_ret
          exact ⟨by first | rfl | (simp [*] <;> rfl), HB.out⟩
         ·rw [if_neg c62] at H
          have c62b0 := beq_eq_false_iff_ne.mpr c62
          have c62b1 := bne_iff_ne.mpr c62
          obtain rfl := Oi H
          have hcz66_0 := blk_cell BK101.out 0
          have hcz66_1 := blk_cell BK101.out 1
          have hcz66_2 := blk_cell BK101.out 2
          have hcz66_3 := blk_cell BK101.out 3
          have hcz66_4 := blk_cell BK101.out 4
          have hcz66_5 := blk_cell BK101.out 5
          have hfz66_0 := blk_frozen BK101.out
          go_wp2
          go_ret
          exact ⟨by first | rfl | (simp [*] <;> rfl), HB.out⟩
        ·rw [if_neg c61] at H
         have c61b0 := beq_eq_false_iff_ne.mpr c61
         have c61b1 := bne_iff_ne.mpr c61
         obtain rfl := Oi H
         have hcz67_0 := blk_cell BK101.out 0
         have hcz67_1 := blk_cell BK101.out 1
         have hcz67_2 := blk_cell BK101.out 2
         have hcz67_3 := blk_cell BK101.out 3
         have hcz67_4 := blk_cell BK101.out 4
         have hcz67_5 := blk_cell BK101.out 5
         have hfz67_0 := blk_frozen BK101.out
         go_wp2
         go_ret
         exact ⟨by first | rfl | (simp [*] <;> rfl), HB.out⟩
def IsS29 (w0 W : World) (g : Nat) (f0 : List (S45)) : Prop := ∃ A0 c0, W.heap[g]? = some (.cells #[.slice A0 f0.length c0] 29 (0, 0)) ∧ w0.heap.size ≤ g ∧ Kd.C k45 w0 A0 f0.length f0
theorem IsS29.grown {w0 W : World} {g : Nat} {f0 : List (S45)} {W1 : World} {row : Option Nat} (h : IsS29 w0 W g f0) (hw : W.grownBy W1 row) (hne : some g ≠ row) : IsS29 w0 W1 g f0 := by
 obtain ⟨A0, c0, hb, hg, hr0⟩ := h
 exact ⟨A0, c0, blk_grown hb hw hne, hg, hr0⟩
theorem IsS29.own_neN {w0 W : World} {g : Nat} {f0 : List (S45)} {α : Type} {d : Kd α} {e : Nat} {base : Nat} {ok : Nat → Prop} {v : Value} {xs : List α} (h : IsS29 w0 W g f0) (ho : Kd.N d e W base ok v xs) (ht : e ≠ 29) : some g ≠ v.ownBlock := by
 obtain ⟨A0, c0, hb, hg, hr0⟩ := h
 exact Kd.N_ne ho hb ht
theorem IsS29.fresh {w0 W : World} {g : Nat} {f0 : List (S45)} (h : IsS29 w0 W g f0) : ∀ k, W.heap.size ≤ k → k ≠ g := by
 obtain ⟨A0, c0, hb, hg, hr0⟩ := h
 exact Kd.freshB hb
theorem IsS29.kept {w0 W : World} {g : Nat} {f0 : List (S45)} {W1 : World} {S : Nat → Prop} (h : IsS29 w0 W g f0) (hk : Kept W W1 S) (hne : ¬ S g) : IsS29 w0 W1 g f0 := by
 obtain ⟨A0, c0, hb, hg, hr0⟩ := h
 exact ⟨A0, c0, blk_kept hb hk hne, hg, hr0⟩
theorem IsS29.below {w0 W : World} {g : Nat} {f0 : List (S45)} {W1 : World} (h : IsS29 w0 W g f0) (hw : Below W.heap.size W W1) : IsS29 w0 W1 g f0 := h.grown (grown_of_below hw none) (by simp)
theorem IsS29.alloc {w0 W : World} {g : Nat} {f0 : List (S45)} (h : IsS29 w0 W g f0) (o : Obj) : IsS29 w0 (W.alloc o) g f0 := h.below (below_alloc (Below.refl _ _) o)
theorem IsS29.drewN {w0 W : World} {g : Nat} {f0 : List (S45)} (h : IsS29 w0 W g f0) (m : Nat) : IsS29 w0 (W.drewN m) g f0 := h
theorem IsS29.drew {w0 W : World} {g : Nat} {f0 : List (S45)} (h : IsS29 w0 W g f0) : IsS29 w0 W.drew g f0 := h
theorem IsS29.at_ {w0 W : World} {g : Nat} {f0 : List (S45)} {w' : World} {m : Nat} (hq : W.drewN m = w') (h : IsS29 w0 W g f0) : IsS29 w0 w' g f0 := by subst hq; exact IsS29.drewN h m
theorem IsS29.apart {w0 W : World} {g : Nat} {f0 : List (S45)} {α : Type} {d : Kd α} {e : Nat} {base : Nat} {ok : Nat → Prop} {v : Value} {xs : List α} (h : IsS29 w0 W g f0) (ho : d.R e W base ok v xs) (ht : ∀ q, q ∈ e :: d.E → q ≠ 29) : d.R e W base (fun k => ok k ∧ k ≠ g) v xs := by
 obtain ⟨A0, c0, hb, hg, hr0⟩ := h
 exact Kd.R_types ho hb ht
theorem IsS29.own_ne {w0 W : World} {g : Nat} {f0 : List (S45)} {α : Type} {d : Kd α} {e : Nat} {base : Nat} {ok : Nat → Prop} {v : Value} {xs : List α} (h : IsS29 w0 W g f0) (ho : d.R e W base ok v xs) (ht : e ≠ 29) : some g ≠ v.ownBlock := by
 obtain ⟨A0, c0, hb, hg, hr0⟩ := h
 exact Kd.R_ne ho hb ht
theorem IsS29.apartQ {w0 W : World} {g : Nat} {f0 : List (S45)} {α : Type} {d : Kd α} {e : Nat} {base : Nat} {ok : Nat → Prop} {v : Value} {xs : List α} (h : IsS29 w0 W g f0) (ho : d.Q e W base ok v xs) (ht : ∀ q, q ∈ e :: d.E → q ≠ 29) : d.Q e W base (fun k => ok k ∧ k ≠ g) v xs := by
 obtain ⟨A0, c0, hb, hg, hr0⟩ := h
 exact Kd.Q_types ho hb ht
theorem IsS29.own_neQ {w0 W : World} {g : Nat} {f0 : List (S45)} {α : Type} {d : Kd α} {e : Nat} {base : Nat} {ok : Nat → Prop} {v : Value} {xs : List α} (h : IsS29 w0 W g f0) (ho : d.Q e W base ok v xs) (ht : e ≠ 29) : some g ≠ v.ownBlock := by
 obtain ⟨A0, c0, hb, hg, hr0⟩ := h
 exact Kd.Q_ne ho hb ht
theorem IsS29.apartS {w0 W : World} {g : Nat} {f0 : List (S45)} {α : Type} {d : Kd α} {e : Nat} {base : Nat} {ok : Nat → Prop} {v : Value} {xs : List α} (h : IsS29 w0 W g f0) (ho : d.S e W base ok v xs) (ht : ∀ q, q ∈ e :: d.E → q ≠ 29) : d.S e W base (fun k => ok k ∧ k ≠ g) v xs := by
 obtain ⟨A0, c0, hb, hg, hr0⟩ := h
 exact Kd.S_types ho hb ht
theorem IsS29.own_neS {w0 W : World} {g : Nat} {f0 : List (S45)} {α : Type} {d : Kd α} {e : Nat} {base : Nat} {ok : Nat → Prop} {v : Value} {xs : List α} (h : IsS29 w0 W g f0) (ho : d.S e W base ok v xs) (ht : e ≠ 29) : some g ≠ v.ownBlock := by
 obtain ⟨A0, c0, hb, hg, hr0⟩ := h
 exact Kd.S_ne ho hb ht
theorem IsS29.lt {w0 W : World} {g : Nat} {f0 : List (S45)} (h : IsS29 w0 W g f0) : g < W.heap.size := by
 obtain ⟨A0, c0, hb, hg, hr0⟩ := h
 exact blk_lt hb
theorem IsS29.ge {w0 W : World} {g : Nat} {f0 : List (S45)} (h : IsS29 w0 W g f0) : w0.heap.size ≤ g := by
 obtain ⟨A0, c0, hb, hg, hr0⟩ := h
 exact hg
theorem IsS29.ne_blk {w0 W : World} {g : Nat} {f0 : List (S45)} {a : Nat} {cs : Array Value} {t : TypeId} {fr : Nat × Nat} (h : IsS29 w0 W g f0) (hb2 : W.heap[a]? = some (.cells cs t fr)) (ht : t ≠ 29) : g ≠ a := by
 obtain ⟨A0, c0, hb, hg, hr0⟩ := h
 rintro rfl
 rw [hb] at hb2
 injection hb2 with hb2
 injection hb2 with _ ht2
 exact ht ht2.symm
theorem IsS29.far {w0 W : World} {g : Nat} {f0 : List (S45)} {p : Addr} (h : IsS29 w0 W g f0) (hne : g ≠ p.block) (u : Value) : IsS29 w0 (W.setCell p u) g f0 := by
 obtain ⟨A0, c0, hb, hg, hr0⟩ := h
 exact ⟨A0, c0, blk_far hb hne u, hg, hr0⟩
theorem cellS29_0 {W : World} {g : Nat} {A0 : Option Addr} {c0 : Nat} {f0 : List (S45)} (h : W.heap[g]? = some (.cells #[.slice A0 f0.length c0] 29 (0, 0))) : W.cell? ⟨g, 0, none⟩ = some (.slice A0 f0.length c0) := (blk_cell h 0).trans rfl
theorem IsS29.new (w0 W : World) (A0 : Option Addr) (c0 : Nat) (f0 : List (S45)) (hB : Below w0.heap.size w0 W) (hr0 : Kd.C k45 w0 A0 f0.length f0) : IsS29 w0 (W.alloc (.cells #[.slice A0 f0.length c0] 29)) W.heap.size f0 := ⟨A0, c0, by simpa using heap_alloc_new W _, hB.size, hr0⟩
def impl_Tree_isNode.f (s0_0 : List (S45)) (a1 : Int) : Option (Bool) := (impl_inRange.f a1 0 (wrap64 ((s0_0.length : Int) - 1))).bind fun t101 => (some t101)
theorem impl_Tree_isNode.calls (g : Nat) (s0_0 : List (S45)) (a1 : Int) (r : Bool) (w0 w : World) (hI : IsS29 w0 w g s0_0) (hB : Below w0.heap.size w0 w) (h : impl_Tree_isNode.f s0_0 a1 = some r) :
 Calls Try.prog 64 #[.pointer (some ⟨g, 0, none⟩), .int .i64 a1] w fun e w' => e = .returned (.bool r) ∧ IsS29 w0 w' g s0_0 ∧ Below w0.heap.size w0 w' ∧ KeepBut w w' g none := by
 have HI0 := Ak hI
 have HK := Ak (KeepBut.refl w g none)
 have HL := Ak hB.size
 clear hI
 have HW0 := Ak hB.size
 have HB := Ak hB
 clear hB
 have H : ((impl_inRange.f a1 0 (wrap64 ((s0_0.length : Int) - 1))).bind fun t101 => (some t101)) = some r := h
 clear h
 replace H := Ob H
 obtain ⟨t101, A30, H⟩ := H
 replace H : (some t101) = some r := H
 have A3 := Ak A30
 clear A30
 obtain rfl := Oi H
 obtain ⟨ASz4_0, cSz4_0, HGz4, hgz4, HSz4_0⟩ := HI0.out
 have hcz4_0 := cellS29_0 HGz4
 clear HGz4 hgz4
 go_enter Try.func64, Try.ntmps64
 go_wp2_with (first | (go_at_call 40; (with_reducible refine (impl_inRange.calls a1 0 (wrap64 ((s0_0.length : Int) - 1)) t101 _ A3.out).mono ?_); rintro e w' ⟨rfl, ⟨nd, rfl⟩⟩))
 go_ret
 exact ⟨by first | rfl | (simp [*] <;> rfl), HI0.out, by repeat (first | exact HB.out | apply below_alloc | apply pw_below_drewN | apply below_drew1 | refine below_set ?_ (IsS29.ge HI0.out)), HK.out⟩
def impl_Tree_isAbove.l0 : Nat → Int → Int → Int → Int → List (S45) → Option (Bool)
 | 0, _, _, _, _, _ => none
 | k + 1, x1, x2, x11, x12, x1000 => if x12 < x11 then (if x2 = x1 then (some true) else ((impl_Tree_isNode.f x1000 x2).bind fun t102 => (if t102 = true then (if 0 ≤ x2 then (if x2 < (x1000.length : Int) then (impl_Tree_isAbove.l0 k x1 ((rd_T45 x1000 x2).f4) x11 (wrap64 (x12 + 1)) x1000) else (none)) else (none)) else (some false)))) else ((impl_Tree_isNode.f x1000 x2).bind fun t101 => (some t101))
def impl_Tree_isAbove.f (k : Nat) (s0_0 : List (S45)) (a1 : Int) (a2 : Int) : Option (Bool) := impl_Tree_isAbove.l0 k a1 a2 (s0_0.length : Int) 0 s0_0
theorem impl_Tree_isAbove.mono_l : ∀ k, (∀ y0 y1 y2 y3 y4, LeO (impl_Tree_isAbove.l0 k y0 y1 y2 y3 y4) (impl_Tree_isAbove.l0 (k + 1) y0 y1 y2 y3 y4))
 | 0 => fun _ _ _ _ _ r h => by simp [impl_Tree_isAbove.l0] at h
 | k + 1 => by
  have ih0 := impl_Tree_isAbove.mono_l k
  ·intro y0 y1 y2 y3 y4
   unfold impl_Tree_isAbove.l0
   repeat' (with_reducible first | exact ih0 _ _ _ _ _ | exact LeO.refl _ | exact LeO.none _ | refine LeO.ite ?_ ?_ | refine LeO.bind ?_ (fun _ => ?_))
theorem impl_Tree_isAbove.mono : ∀ a0 a1 a2 k, LeO (impl_Tree_isAbove.f k a0 a1 a2) (impl_Tree_isAbove.f (k + 1) a0 a1 a2) := by
 intro a0 a1 a2 k
 have ih0 := impl_Tree_isAbove.mono_l k
 unfold impl_Tree_isAbove.f
 repeat' (with_reducible first | exact ih0 _ _ _ _ _ | exact LeO.refl _ | exact LeO.none _ | refine LeO.ite ?_ ?_ | refine LeO.bind ?_ (fun _ => ?_))
theorem impl_Tree_isAbove.calls (k : Nat) (g : Nat) (s0_0 : List (S45)) (a1 : Int) (a2 : Int) (r : Bool) (w0 w : World) (hI : IsS29 w0 w g s0_0) (hB : Below w0.heap.size w0 w) (h : impl_Tree_isAbove.f k s0_0 a1 a2 = some r) :
 Calls Try.prog 87 #[.pointer (some ⟨g, 0, none⟩), .int .i64 a1, .int .i64 a2] w fun e w' => e = .returned (.bool r) ∧ IsS29 w0 w' g s0_0 ∧ Below w0.heap.size w0 w' ∧ KeepBut w w' g none := by
 have HI0 := Ak hI
 have HK := Ak (KeepBut.refl w g none)
 have HL := Ak hB.size
 clear hI
 have HW0 := Ak hB.size
 have HB := Ak hB
 clear hB
 have H : (impl_Tree_isAbove.l0 k a1 a2 (s0_0.length : Int) 0 s0_0) = some r := h
 clear h
 have H' := Ak H
 clear H
 obtain ⟨ASz4_0, cSz4_0, HGz4, hgz4, HSz4_0⟩ := HI0.out
 have hcz4_0 := cellS29_0 HGz4
 clear HGz4 hgz4
 go_enter Try.func87, Try.ntmps87
 go_wp2
 go_loopg [2, 12] k (fun kq v2 v12 w' => ∃ (x2_1 : Int) (x12_1 : Int), v2 = .int .i64 x2_1 ∧ v12 = .int .i64 x12_1 ∧ Aside0 (impl_Tree_isAbove.l0 kq a1 x2_1 (s0_0.length : Int) x12_1 s0_0 = some r) ∧ Aside0 (kq ≤ k) ∧ Aside0 (IsS29 w0 w' g s0_0) ∧ Aside0 (KeepBut w w' g none) ∧ Aside0 (Below w0.heap.size w0 w'))
 case atStart => exact ⟨(a2), (0), rfl, rfl, H', ⟨Nat.le_refl _⟩, ⟨HI0.out⟩, ⟨HK.out⟩, ⟨by repeat (first | exact HB.out | apply below_alloc | apply pw_below_drewN | apply below_drew1 | refine below_set ?_ (IsS29.ge HI0.out))⟩⟩
 case round =>
  clear H'
  try clear p2
  try clear hcz4_0
  obtain ⟨x2_1, x12_1, rfl, rfl, HA, HK1, HI0, HK, HB⟩ := hrel
  cases gk with
  | zero => exact absurd HA.out (by simp [impl_Tree_isAbove.l0])
  | succ k1 =>
   have H := HA.out
   clear HA
   simp only [impl_Tree_isAbove.l0] at H
   by_cases c5 : x12_1 < (s0_0.length : Int)
   ·rw [if_pos c5] at H
    have c5b0 := decide_eq_true c5
    clear c5
    by_cases c6 : x2_1 = a1
    ·rw [if_pos c6] at H
     have c6b0 := beq_iff_eq.mpr c6
     have c6b1 := bne_eq_false_iff_eq.mpr c6
     clear c6
     obtain rfl := Oi H
     go_wp2
     go_ret
     exact ⟨rfl, HI0.out, by repeat (first | exact HB.out | apply below_alloc | apply pw_below_drewN | apply below_drew1 | refine below_set ?_ (IsS29.ge HI0.out)), HK.out⟩
    ·rw [if_neg c6] at H
     have c6b0 := beq_eq_false_iff_ne.mpr c6
     have c6b1 := bne_iff_ne.mpr c6
     replace H := Ob H
     obtain ⟨t102, A70, H⟩ := H
     replace H : (if t102 = true then (if 0 ≤ x2_1 then (if x2_1 < (s0_0.length : Int) then (impl_Tree_isAbove.l0 k1 a1 ((rd_T45 s0_0 x2_1).f4) (s0_0.length : Int) (wrap64 (x12_1 + 1)) s0_0) else (none)) else (none)) else (some false)) = some r := H
     have A7 := Ak A70
     clear A70
     by_cases c8 : t102 = true
     ·subst c8
      rw [if_pos rfl] at H
      by_cases c9 : 0 ≤ x2_1
      ·rw [if_pos c9] at H
       have c9b0 := decide_eq_true c9
       clear c9
       by_cases c10 : x2_1 < (s0_0.length : Int)
       ·rw [if_pos c10] at H
        have c10b0 := decide_eq_true c10
        clear c10
        have H' := Ak H
        clear H
        go_wp2_with (first | (go_at_call 64; (with_reducible refine (impl_Tree_isNode.calls g s0_0 x2_1 true w0 _ ?side1 ?side2 A7.out).mono ?_); (case side1 => repeat (first | (with_reducible first | exact HI0.out | apply IsS29.alloc | apply IsS29.drewN | apply IsS29.drew) | exact HI0.out)); (case side2 => repeat (first | (with_reducible first | exact HB.out | apply below_alloc | apply pw_below_drewN | apply below_drew1 | refine below_set ?_ (IsS29.ge HI0.out)) | exact HB.out)); rintro e w11 ⟨rfl, hi, hb, hk⟩; replace HK := Ak (KeepBut.trans (HK.out) hk (.inl rfl)); replace HI0 := Ak (hi); replace HB := Ak (hb); (try clear hb); obtain ⟨ASz12_0, cSz12_0, HGz12, hgz12, HSz12_0⟩ := HI0.out; have hcz12_0 := cellS29_0 HGz12; clear HGz12 hgz12; have p103 : 0 ≤ (x2_1 : Int) := of_decide_eq_true (by assumption); have q103 : x2_1 < (s0_0.length : Int) := of_decide_eq_true (by assumption); obtain ⟨ad103, A103_2, c103_2, A103_5, c103_5, e103, hx103_0, hx103_1, hx103_2, hx103_3, hx103_4, hx103_5, hl103_2, hi103_2, hl103_5, hi103_5⟩ := at_T45 HSz12_0 x2_1 p103 q103; cases e103; replace hx103_0 := pw_cell_below HB.out hx103_0; replace hx103_1 := pw_cell_below HB.out hx103_1; replace hx103_2 := pw_cell_below HB.out hx103_2; replace hx103_3 := pw_cell_below HB.out hx103_3; replace hx103_4 := pw_cell_below HB.out hx103_4; replace hx103_5 := pw_cell_below HB.out hx103_5; have HR103_2 := Ak hi103_2; have HC103_2 := Ak hl103_2; clear hi103_2 hl103_2; have HR103_5 := Ak hi103_5; have HC103_5 := Ak hl103_5; clear hi103_5 hl103_5; replace p103 := eq_true p103; replace q103 := eq_true q103))
        go_roundg k1
        case measure => have := HK1.out; omega
        case rel => exact ⟨((rd_T45 s0_0 x2_1).f4), (wrap64 (x12_1 + 1)), rfl, rfl, H', ⟨by have := HK1.out; omega⟩, ⟨HI0.out⟩, ⟨HK.out⟩, ⟨by repeat (first | exact HB.out | apply below_alloc | apply pw_below_drewN | apply below_drew1 | refine below_set ?_ (IsS29.ge HI0.out))⟩⟩
       ·rw [if_neg c10] at H
        exact absurd H (by simp)
      ·rw [if_neg c9] at H
       exact absurd H (by simp)
     ·replace c8 := Bool.eq_false_iff.mpr c8
      subst c8
      rw [if_neg (show ¬ (false = true) by decide)] at H
      obtain rfl := Oi H
      go_wp2_with (first | (go_at_call 64; (with_reducible refine (impl_Tree_isNode.calls g s0_0 x2_1 false w0 _ ?side1 ?side2 A7.out).mono ?_); (case side1 => repeat (first | (with_reducible first | exact HI0.out | apply IsS29.alloc | apply IsS29.drewN | apply IsS29.drew) | exact HI0.out)); (case side2 => repeat (first | (with_reducible first | exact HB.out | apply below_alloc | apply pw_below_drewN | apply below_drew1 | refine below_set ?_ (IsS29.ge HI0.out)) | exact HB.out)); rintro e w13 ⟨rfl, hi, hb, hk⟩; replace HK := Ak (KeepBut.trans (HK.out) hk (.inl rfl)); replace HI0 := Ak (hi); replace HB := Ak (hb); (try clear hb)))
      go_ret
      exact ⟨rfl, HI0.out, by repeat (first | exact HB.out | apply below_alloc | apply pw_below_drewN | apply below_drew1 | refine below_set ?_ (IsS29.ge HI0.out)), HK.out⟩
   ·rw [if_neg c5] at H
    have c5b0 := decide_eq_false c5
    clear c5
    replace H := Ob H
    obtain ⟨t101, A140, H⟩ := H
    replace H : (some t101) = some r := H
    have A14 := Ak A140
    clear A140
    obtain rfl := Oi H
    go_wp2_with (first | (go_at_call 64; (with_reducible refine (impl_Tree_isNode.calls g s0_0 x2_1 t101 w0 _ ?side1 ?side2 A14.out).mono ?_); (case side1 => repeat (first | (with_reducible first | exact HI0.out | apply IsS29.alloc | apply IsS29.drewN | apply IsS29.drew) | exact HI0.out)); (case side2 => repeat (first | (with_reducible first | exact HB.out | apply below_alloc | apply pw_below_drewN | apply below_drew1 | refine below_set ?_ (IsS29.ge HI0.out)) | exact HB.out)); rintro e w15 ⟨rfl, hi, hb, hk⟩; replace HK := Ak (KeepBut.trans (HK.out) hk (.inl rfl)); replace HI0 := Ak (hi); replace HB := Ak (hb); (try clear hb)))
    go_ret
    exact ⟨rfl, HI0.out, by repeat (first | exact HB.out | apply below_alloc | apply pw_below_drewN | apply below_drew1 | refine below_set ?_ (IsS29.ge HI0.out)), HK.out⟩
end Go.Proofs.Ytgneacekgbjkkaa.X
