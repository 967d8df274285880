/- What the Go functions that FnEscape reaches compute, and that their walks come to just that (written by a program of this project over the kit's print). Conditions: as each states. -/
import Derived.Lib.SlBytesConst
import Derived.Lib.ReplaceLaws
import Derived.Test.YtlnmmcipioagaaaDoorKFnEscapex1
set_option maxHeartbeats 64000000
set_option maxRecDepth 100000
namespace Go.Proofs.YtlnmmcipioagaaaDoor.X
open Go.RowKit Go.Proofs.YtlnmmcipioagaaaDoorW.PrintWords Go.Proofs.YtlnmmcipioagaaaDoorW.PrintLast Go.Proofs.YtlnmmcipioagaaaDoorW.PrintMore
attribute [local go_sem] max2_int min2_int max_two min_two max_three min_three max_four min_four
set_option linter.unusedVariables false
set_option linter.unusedSimpArgs false
def impl_PointsPut.l0 : Nat → List Int → List Int → Int → Int → Option (List Int)
 | 0, _, _, _, _ => none
 | k + 1, x3, x9, x10, x11 => if x11 < x10 then (if 0 ≤ x11 then (if x11 < (x9.length : Int) then ((impl_putPoint.f k x3 (rd x9 x11)).bind fun t102 => (impl_PointsPut.l0 k t102 x9 x10 (wrap64 (x11 + 1)))) else (none)) else (none)) else (some x3)
def impl_PointsPut.f (k : Nat) (l0 : List Int) : Option (List Int) := if (l0.length : Int) > 3000 then (some ([] : List Int)) else (impl_PointsPut.l0 k ([] : List Int) l0 (l0.length : Int) 0)
theorem impl_PointsPut.mono_l : ∀ k, (∀ y0 y1 y2 y3, LeO (impl_PointsPut.l0 k y0 y1 y2 y3) (impl_PointsPut.l0 (k + 1) y0 y1 y2 y3))
 | 0 => fun _ _ _ _ r h => by simp [impl_PointsPut.l0] at h
 | k + 1 => by
  have ih0 := impl_PointsPut.mono_l k
  ·intro y0 y1 y2 y3
   unfold impl_PointsPut.l0
   repeat' (with_reducible first | exact ih0 _ _ _ _ | exact impl_putPoint.mono _ _ _ | exact LeO.refl _ | exact LeO.none _ | refine LeO.ite ?_ ?_ | refine LeO.bind ?_ (fun _ => ?_))
theorem impl_PointsPut.mono : ∀ a0 k, LeO (impl_PointsPut.f k a0) (impl_PointsPut.f (k + 1) a0) := by
 intro a0 k
 have ih0 := impl_PointsPut.mono_l k
 unfold impl_PointsPut.f
 repeat' (with_reducible first | exact ih0 _ _ _ _ | exact impl_putPoint.mono _ _ _ | exact LeO.refl _ | exact LeO.none _ | refine LeO.ite ?_ ?_ | refine LeO.bind ?_ (fun _ => ?_))
theorem impl_PointsPut.calls (k : Nat) (A0 : Option Addr) (c0 : Nat) (l0 : List Int) (r : List Int) (w : World) (hr0 : Kd.C (Kd.int .i64) w A0 l0.length l0) (hc0 : l0.length ≤ c0) (h : impl_PointsPut.f k l0 = some r) :
 Calls Tryd.prog 12 #[.slice A0 l0.length c0] w fun e w' => ∃ v0_ : Value, e = .returned (v0_) ∧ Kd.R (Kd.int .u8) 5 w' w.heap.size (fun _ => True) v0_ r ∧ Below w.heap.size w w' := by
 have HR0 := Ak hr0
 have HC0 := Ak hc0
 clear hr0 hc0
 have HB := Ak (Below.refl w.heap.size w)
 have H : (if (l0.length : Int) > 3000 then (some ([] : List Int)) else (impl_PointsPut.l0 k ([] : List Int) l0 (l0.length : Int) 0)) = some r := h
 clear h
 by_cases c2 : (l0.length : Int) > 3000
 ·rw [if_pos c2] at H
  have c2b0 : decide (3000 < (l0.length : Int)) = true := decide_eq_true c2
  have c2b1 : decide (3000 < l0.length) = true := decide_eq_true (by omega)
  clear c2
  obtain rfl := Oi H
  go_enter Tryd.func12, Tryd.ntmps12
  go_wp2
  go_ret
  exact ⟨_, rfl, by first | exact Kd.R_nil _ _ _ _ _ | exact Kd.N_nil _ _ _ _ _ | exact Kd.V_nil _ _ _ _ _ | exact Kd.Q_nil _ _ _ _ _ | exact Kd.S_nil _ _ _ _ _, HB.out⟩
 ·rw [if_neg c2] at H
  have c2b0 : decide (3000 < (l0.length : Int)) = false := decide_eq_false c2
  have c2b1 : decide (3000 < l0.length) = false := decide_eq_false (by omega)
  clear c2
  have H' := Ak H
  clear H
  go_enter Tryd.func12, Tryd.ntmps12
  go_wp2
  go_loopg [3, 11] k (fun kq v3 v11 w' => ∃ (x3_1 : List Int) (x11_1 : Int), v11 = .int .i64 x11_1 ∧ Aside0 (impl_PointsPut.l0 kq x3_1 l0 (l0.length : Int) x11_1 = some r) ∧ Aside0 (kq ≤ k) ∧ Aside0 (Kd.R (Kd.int .u8) 5 w' w.heap.size (fun _ => True) v3 x3_1) ∧ Aside0 (Below w.heap.size w w'))
  case atStart => exact ⟨(([] : List Int)), (0), rfl, H', ⟨Nat.le_refl _⟩, ⟨by first | exact Kd.R_nil _ _ _ _ _ | exact Kd.N_nil _ _ _ _ _ | exact Kd.V_nil _ _ _ _ _ | exact Kd.Q_nil _ _ _ _ _ | exact Kd.S_nil _ _ _ _ _⟩, ⟨HB.out⟩⟩
  case round =>
   clear H'
   obtain ⟨x3_1, x11_1, rfl, HA, HK1, HO_3, HB⟩ := hrel
   cases gk with
   | zero => exact absurd HA.out (by simp [impl_PointsPut.l0])
   | succ k1 =>
    have H := HA.out
    clear HA
    simp only [impl_PointsPut.l0] at H
    by_cases c3 : x11_1 < (l0.length : Int)
    ·rw [if_pos c3] at H
     have c3b0 := decide_eq_true c3
     clear c3
     by_cases c4 : 0 ≤ x11_1
     ·rw [if_pos c4] at H
      have c4b0 := decide_eq_true c4
      clear c4
      by_cases c5 : x11_1 < (l0.length : Int)
      ·rw [if_pos c5] at H
       have c5b0 := decide_eq_true c5
       clear c5
       replace H := Ob H
       obtain ⟨t102, A60, H⟩ := H
       replace H : (impl_PointsPut.l0 k1 t102 l0 (l0.length : Int) (wrap64 (x11_1 + 1))) = some r := H
       have A6 := Ak A60
       clear A60
       have H' := Ak H
       clear H
       have p101 : 0 ≤ (x11_1 : Int) := of_decide_eq_true (by assumption)
       have q101 : x11_1 < (l0.length : Int) := of_decide_eq_true (by assumption)
       obtain ⟨ad101, e101, hx101_0⟩ := Kd.at_int HR0.out x11_1 p101 q101
       cases e101
       replace hx101_0 := pw_cell_below HB.out hx101_0
       replace p101 := eq_true p101
       replace q101 := eq_true q101
       obtain ⟨Ao7, co7, eo7⟩ := Kd.R_slice HO_3.out
       subst eo7
       go_wp2_with (first | (go_at_call 23; (with_reducible refine (impl_putPoint.calls k1 (fun k_ => some k_ = (.slice Ao7 x3_1.length co7 : Value).ownBlock) (.slice Ao7 x3_1.length co7) x3_1 (rd l0 x11_1) t102 w _ ?side1 ?side2 A6.out).mono ?_); (case side1 => repeat (first | (with_reducible first | exact HB.out | apply below_alloc | apply pw_below_drewN | apply below_drew1) | exact HB.out)); (case side2 => exact Kd.R_tight rfl HO_3.out); rintro e w8 ⟨v103, rfl, ho0, hb, hkp⟩; replace HO104 := Ak (Kd.R_mono (ok' := fun k_ => True) ho0 (fun k_ hk_ => trivial)); replace HB := Ak (hb); (try clear hb); (try clear hkp); (try clear ho0)))
       go_roundg k1
       case measure => have := HK1.out; omega
       case rel => exact ⟨(t102), (wrap64 (x11_1 + 1)), rfl, H', ⟨by have := HK1.out; omega⟩, ⟨by (with_reducible repeat (first | apply Kd.R_alloc | apply Kd.R_drewN | apply Kd.R_drew)); exact HO104.out⟩, ⟨HB.out⟩⟩
      ·rw [if_neg c5] at H
       exact absurd H (by simp)
     ·rw [if_neg c4] at H
      exact absurd H (by simp)
    ·rw [if_neg c3] at H
     have c3b0 := decide_eq_false c3
     clear c3
     obtain rfl := Oi H
     go_wp2
     go_ret
     exact ⟨_, rfl, by (with_reducible repeat (first | apply Kd.R_alloc | apply Kd.R_drewN | apply Kd.R_drew)); exact HO_3.out, HB.out⟩
theorem C_lit {W : World} {g : Nat} {xs : List Int} {e : TypeId} {fr : Nat × Nat} (h : W.heap[g]? = some (.cells (xs.map (Value.int .u8)).toArray e fr)) (hl : xs.length ≤ 9223372036854775807) : (Kd.int .u8).C W (some ⟨g, 0, none⟩) xs.length xs := by
 refine ⟨rfl, hl, fun _ => ⟨_, rfl, fun j p hj => ⟨[.int .u8 p], rfl, rfl, fun i u hu => ?_⟩⟩⟩
 cases i with
 | succ i => simp at hu
 | zero =>
  have e0 : (⟨g, 0, none⟩ : Addr).add (j * (Kd.int .u8).sz + 0) = ⟨g, j, none⟩ := by
   have e1 : (Kd.int .u8).sz = 1 := rfl
   simp [Addr.add, e1]
   exact fun e_ => e_.symm
  have hu' : u = .int .u8 p := by simpa using hu.symm
  rw [e0, hu']
  simp [World.cell?, h, hj]
def spec_Escape.one (v : Bool) (b : Int) : List Int := if b = 38 then [38, 97, 109, 112, 59] else if b = 34 ∧ v = true then [38, 113, 117, 111, 116, 59] else if b = 60 ∧ v = false then [38, 108, 116, 59] else if b = 62 ∧ v = false then [38, 103, 116, 59] else [b % 256]
def spec_Escape.l0 : Nat → ByteArray → Bool → List Int → Int → Option ByteArray
 | 0, _, _, _, _ => none
 | k + 1, s, v, o, i => if i < (s.size : Int) then (if 0 ≤ i then (if o.length < 100000000000 then (if i < 1000000000000 then (if bt s i = 194 ∧ i + 1 < (s.size : Int) ∧ bt s (i + 1) = 160 then spec_Escape.l0 k s v (o ++ [38, 110, 98, 115, 112, 59]) (wrap64 (i + 1 + 1)) else spec_Escape.l0 k s v (o ++ spec_Escape.one v (bt s i)) (wrap64 (i + 1))) else none) else none) else none) else some (strOfNums o)
def spec_Escape.f (k : Nat) (s : ByteArray) (v : Bool) : Option ByteArray := spec_Escape.l0 k s v [] 0
theorem spec_Escape.mono0 : ∀ k a b c d, LeO (spec_Escape.l0 k a b c d) (spec_Escape.l0 (k + 1) a b c d)
 | 0 => fun _ _ _ _ r h => by simp [spec_Escape.l0] at h
 | k + 1 => fun a b c d => by
  rw [spec_Escape.l0, spec_Escape.l0]
  exact LeO.ite (LeO.ite (LeO.ite (LeO.ite (LeO.ite (spec_Escape.mono0 k _ _ _ _) (spec_Escape.mono0 k _ _ _ _)) (LeO.refl _)) (LeO.refl _)) (LeO.refl _)) (LeO.refl _)
theorem spec_Escape.mono : ∀ a0 a1 k, LeO (spec_Escape.f k a0 a1) (spec_Escape.f (k + 1) a0 a1) := fun _ _ k => spec_Escape.mono0 k _ _ _ _
theorem spec_Escape.calls (k : Nat) (s : ByteArray) (v : Bool) (r : ByteArray) (w : World) (h : spec_Escape.f k s v = some r) :
 Calls Tryd.prog 5 #[.string s, .bool v] w fun e w' => e = .returned (.string r) ∧ Below w.heap.size w w' := by
 have HA := Ak (show spec_Escape.l0 k s v [] 0 = some r from h)
 clear h
 have kc := fun (w : World) (C : Array Value) (n c : Nat) => Lib.run_convert_bytes_const (P := Tryd.prog) w 24 5 C n c Tryd.underlying24 Tryd.underlying5
 go_enter Tryd.func5, Tryd.ntmps5
 go_wp2_with (first | ((with_reducible refine gate_dst (N := 7) rfl ?_); refine Kd.R_lit (Kd.int .u8) _ 5 ?hg (N := 7) ?hd (xs := ([] : List Int)) (inner := []) (ok := fun _ => True) (okp := fun _ => True) ?hr ?hp (fun _ hk => hk) trivial (Below.refl _ _) (Nat.le_refl _) (by simp) ?_; (case hd => rfl); (case hg => rfl); (case hr => first | (go_simp; done) | (go_simp; rfl)); (case hp => exact (Reps.none _ _)); intro vz w2 hz hb hg_ hnew_; have HP := Ak (show Kd.R (Kd.int .u8) 5 w2 w.heap.size (fun _ => True) vz [] ∧ Below w.heap.size w w2 from ⟨hz, hb⟩); clear hz hb hg_ hnew_))
 go_loopg [5, 6] k (fun kq v5 v6 w' => ∃ (o : List Int) (i : Int), v6 = .int .i64 i ∧ Aside0 (spec_Escape.l0 kq s v o i = some r) ∧ Aside0 (kq ≤ k) ∧ Aside0 (Kd.R (Kd.int .u8) 5 w' w.heap.size (fun _ => True) v5 o ∧ Below w.heap.size w w'))
 case atStart => exact ⟨_, _, rfl, HA, ⟨Nat.le_refl _⟩, HP⟩
 case round =>
  clear HA HP
  obtain ⟨o, i, rfl, HA, HK, HP⟩ := hrel
  cases gk with
  | zero => exact absurd HA.out (by simp [spec_Escape.l0])
  | succ k1 =>
   have H := HA.out
   clear HA
   simp only [spec_Escape.l0] at H
   by_cases c1 : i < (s.size : Int)
   ·rw [if_pos c1] at H
    by_cases c2 : 0 ≤ i
    ·rw [if_pos c2] at H
     by_cases c3 : o.length < 100000000000
     ·rw [if_pos c3] at H
      have HL := Ak c3
      clear c3
      by_cases c4 : i < 1000000000000
      ·rw [if_pos c4] at H
       have c1b : decide (i < (s.size : Int)) = true := decide_eq_true c1
       have hw1 : wrap64 (i + 1) = i + 1 := by unfold wrap64; omega
       have c5 : 0 ≤ i + 1 := by omega
       clear c4
       have hx7 := bt_at s i
       have hy7 := bt_at s (i + 1)
       have hb0 : 0 ≤ bt s i ∧ bt s i ≤ 255 := bt_range s i
       replace c1 := eq_true c1
       replace c2 := eq_true c2
       replace c5 := eq_true c5
       by_cases e38 : bt s i = 38
       ·rw [if_neg (fun e => by have := e.1; omega)] at H
        have c38b : (bt s i == 38) = true := beq_iff_eq.2 e38
        have HA := Ak (show spec_Escape.l0 k1 s v (o ++ [38, 97, 109, 112, 59]) (wrap64 (i + 1)) = some r from by rw [show spec_Escape.one v (bt s i) = [38, 97, 109, 112, 59] from by unfold spec_Escape.one; simp [e38]] at H; exact H)
        clear H e38 hb0
        go_wp2_with (first | ((with_reducible refine gate_builtin (b := .append) (xs := #[.tmp 25, .tmp 27]) rfl ?_); at_builtin; refine Kd.R_append_rows (Kd.int .u8) (w0 := w) w.heap.size rfl (.tmp 25) (.tmp 27) 24 5 (.int .u8 0) 1 rfl Tryd.underlying24 info5 rfl (by decide) (by omega) u5 o [38, 97, 109, 112, 59] _ _ _ (fun _ => True) (fun _ => False) rfl rfl (Kd.R_below HP.out.1 (below_alloc (Below.refl _ _) _)) (C_lit (xs := [38, 97, 109, 112, 59]) (blk_new _ _) (by decide)) (fun _ _ h => h) (fun _ h => h.elim) (fun _ _ => trivial) (below_alloc HP.out.2 _) (below_size (below_alloc HP.out.2 _)) ?aL ?_; (case aL => have := HL.out; (try simp only [List.length_cons, List.length_nil]); omega); intro v1 w1 ho hb hg hat; have HP1 := Ak (And.intro ho hb); clear ho hb hg hat))
        go_roundg k1
        case measure => have := HK.out; omega
        case rel => exact ⟨_, _, rfl, HA, ⟨by have := HK.out; omega⟩, HP1⟩
       ·have c38b : (bt s i == 38) = false := beq_eq_false_iff_ne.2 e38
        go_upto_region 8 with (fail)
        go_cut [29] from 30 to 47 (fun v29 wc => v29 = .bool (decide (bt s i = 194 ∧ i + 1 < (s.size : Int) ∧ bt s (i + 1) = 160)) ∧ Aside0 (Kd.R (Kd.int .u8) 5 wc w.heap.size (fun _ => True) u5 o ∧ Below w.heap.size w wc))
        case first =>
         by_cases d1 : bt s i = 194
         ·have d1b : (bt s i == 194) = true := beq_iff_eq.2 d1
          have D1 := Ak d1
          clear d1
          by_cases d2 : i + 1 < (s.size : Int)
          ·have d2b : decide (i + 1 < (s.size : Int)) = true := decide_eq_true d2
           have D2 := Ak d2
           have d2c := eq_true d2
           clear d2
           by_cases d3 : bt s (i + 1) = 160
           ·have d3b : (bt s (i + 1) == 160) = true := beq_iff_eq.2 d3
            have D3 := Ak d3
            clear d3
            go_wp2
            go_meet
            case rel => exact ⟨by rw [decide_eq_true ⟨D1.out, D2.out, D3.out⟩], HP⟩
           ·have d3b : (bt s (i + 1) == 160) = false := beq_eq_false_iff_ne.2 d3
            have D3 := Ak d3
            clear d3
            go_wp2
            go_meet
            case rel => exact ⟨by rw [decide_eq_false]; exact fun e => D3.out e.2.2, HP⟩
          ·have d2b : decide (i + 1 < (s.size : Int)) = false := decide_eq_false d2
           have D2 := Ak d2
           clear d2
           go_wp2
           go_meet
           case rel => exact ⟨by rw [decide_eq_false]; exact fun e => by have := D2.out; have := e.2.1; omega, HP⟩
         ·have d1b : (bt s i == 194) = false := beq_eq_false_iff_ne.2 d1
          have D1 := Ak d1
          clear d1
          go_wp2
          go_meet
          case rel => exact ⟨by rw [decide_eq_false]; exact fun e => D1.out e.1, HP⟩
        case rest =>
         clear HP
         obtain ⟨rfl, HP⟩ := hcut
         by_cases d : bt s i = 194 ∧ i + 1 < (s.size : Int) ∧ bt s (i + 1) = 160
         ·rw [if_pos d] at H
          rw [decide_eq_true d]
          have HA := Ak H
          have hw2 : wrap64 (wrap64 (i + 1) + 1) = wrap64 (i + 1 + 1) := by rw [hw1]
          clear H d hb0
          go_wp2_with (first | ((with_reducible refine gate_builtin (b := .append) (xs := #[.tmp 48, .tmp 50]) rfl ?_); at_builtin; refine Kd.R_append_rows (Kd.int .u8) (w0 := w) w.heap.size rfl (.tmp 48) (.tmp 50) 24 5 (.int .u8 0) 1 rfl Tryd.underlying24 info5 rfl (by decide) (by omega) u5 o [38, 110, 98, 115, 112, 59] _ _ _ (fun _ => True) (fun _ => False) rfl rfl (Kd.R_below HP.out.1 (below_alloc (Below.refl _ _) _)) (C_lit (xs := [38, 110, 98, 115, 112, 59]) (blk_new _ _) (by decide)) (fun _ _ h => h) (fun _ h => h.elim) (fun _ _ => trivial) (below_alloc HP.out.2 _) (below_size (below_alloc HP.out.2 _)) ?aL ?_; (case aL => have := HL.out; (try simp only [List.length_cons, List.length_nil]); omega); intro v1 w1 ho hb hg hat; have HP1 := Ak (And.intro ho hb); clear ho hb hg hat))
          go_roundg k1
          case measure => have := HK.out; omega
          case rel => exact ⟨_, _, rfl, HA, ⟨by have := HK.out; omega⟩, HP1⟩
         ·rw [if_neg d] at H
          rw [decide_eq_false d]
          clear d hy7
          cases v with
          | true =>
           by_cases e34 : bt s i = 34
           ·have c34b : (bt s i == 34) = true := beq_iff_eq.2 e34
            have HA := Ak (show spec_Escape.l0 k1 s true (o ++ [38, 113, 117, 111, 116, 59]) (wrap64 (i + 1)) = some r from by rw [show spec_Escape.one true (bt s i) = [38, 113, 117, 111, 116, 59] from by unfold spec_Escape.one; simp [e38, e34]] at H; exact H)
            clear H
            clear e38 e34 hb0
            go_wp2_with (first | ((with_reducible refine gate_builtin (b := .append) (xs := #[.tmp 62, .tmp 64]) rfl ?_); at_builtin; refine Kd.R_append_rows (Kd.int .u8) (w0 := w) w.heap.size rfl (.tmp 62) (.tmp 64) 24 5 (.int .u8 0) 1 rfl Tryd.underlying24 info5 rfl (by decide) (by omega) u5 o [38, 113, 117, 111, 116, 59] _ _ _ (fun _ => True) (fun _ => False) rfl rfl (Kd.R_below HP.out.1 (below_alloc (Below.refl _ _) _)) (C_lit (xs := [38, 113, 117, 111, 116, 59]) (blk_new _ _) (by decide)) (fun _ _ h => h) (fun _ h => h.elim) (fun _ _ => trivial) (below_alloc HP.out.2 _) (below_size (below_alloc HP.out.2 _)) ?aL ?_; (case aL => have := HL.out; (try simp only [List.length_cons, List.length_nil]); omega); intro v1 w1 ho hb hg hat; have HP1 := Ak (And.intro ho hb); clear ho hb hg hat))
            go_roundg k1
            case measure => have := HK.out; omega
            case rel => exact ⟨_, _, rfl, HA, ⟨by have := HK.out; omega⟩, HP1⟩
           ·have c34b : (bt s i == 34) = false := beq_eq_false_iff_ne.2 e34
            by_cases e60 : bt s i = 60
            ·have c60b : (bt s i == 60) = true := beq_iff_eq.2 e60
             have c62b : (bt s i == 62) = false := beq_eq_false_iff_ne.2 (by omega)
             have HA := Ak (show spec_Escape.l0 k1 s true (o ++ [bt s i]) (wrap64 (i + 1)) = some r from by rw [show spec_Escape.one true (bt s i) = [bt s i] from by unfold spec_Escape.one; simp [e38, e34, e60, Int.emod_eq_of_lt hb0.1 (show bt s i < 256 by omega)]] at H; exact H)
             clear H
             clear hb0 e38 e34 e60
             go_wp2_with (first | ((with_reducible refine gate_builtin (b := .append) (xs := #[.tmp 14, .tmp 18]) rfl ?_); at_builtin; refine Kd.R_append (Kd.int .u8) (w0 := w) w.heap.size rfl (.tmp 14) (.tmp 18) 24 5 (.int .u8 0) 1 rfl Tryd.underlying24 info5 rfl (by decide) (by omega) u5 o (bt s i) [.int .u8 (bt s i)] (fun _ => True) (fun _ => False) rfl rfl ?aP (fun _ hk => hk.elim) (fun _ _ => trivial) HP.out.1 HP.out.2 (below_size HP.out.2) ?aL ?_; (case aP => exact rfl); (case aL => have := HL.out; omega); intro v1 w1 ho hb hg hat; have HP1 := Ak (And.intro ho hb); clear ho hb hg hat))
             go_roundg k1
             case measure => have := HK.out; omega
             case rel => exact ⟨_, _, rfl, HA, ⟨by have := HK.out; omega⟩, HP1⟩
            ·have c60b : (bt s i == 60) = false := beq_eq_false_iff_ne.2 e60
             by_cases e62 : bt s i = 62
             ·have c62b : (bt s i == 62) = true := beq_iff_eq.2 e62
              have HA := Ak (show spec_Escape.l0 k1 s true (o ++ [bt s i]) (wrap64 (i + 1)) = some r from by rw [show spec_Escape.one true (bt s i) = [bt s i] from by unfold spec_Escape.one; simp [e38, e34, e60, e62, Int.emod_eq_of_lt hb0.1 (show bt s i < 256 by omega)]] at H; exact H)
              clear H
              clear hb0 e38 e34 e60 e62
              go_wp2_with (first | ((with_reducible refine gate_builtin (b := .append) (xs := #[.tmp 14, .tmp 18]) rfl ?_); at_builtin; refine Kd.R_append (Kd.int .u8) (w0 := w) w.heap.size rfl (.tmp 14) (.tmp 18) 24 5 (.int .u8 0) 1 rfl Tryd.underlying24 info5 rfl (by decide) (by omega) u5 o (bt s i) [.int .u8 (bt s i)] (fun _ => True) (fun _ => False) rfl rfl ?aP (fun _ hk => hk.elim) (fun _ _ => trivial) HP.out.1 HP.out.2 (below_size HP.out.2) ?aL ?_; (case aP => exact rfl); (case aL => have := HL.out; omega); intro v1 w1 ho hb hg hat; have HP1 := Ak (And.intro ho hb); clear ho hb hg hat))
              go_roundg k1
              case measure => have := HK.out; omega
              case rel => exact ⟨_, _, rfl, HA, ⟨by have := HK.out; omega⟩, HP1⟩
             ·have c62b : (bt s i == 62) = false := beq_eq_false_iff_ne.2 e62
              have HA := Ak (show spec_Escape.l0 k1 s true (o ++ [bt s i]) (wrap64 (i + 1)) = some r from by rw [show spec_Escape.one true (bt s i) = [bt s i] from by unfold spec_Escape.one; simp [e38, e34, e60, e62, Int.emod_eq_of_lt hb0.1 (show bt s i < 256 by omega)]] at H; exact H)
              clear H
              clear hb0 e38 e34 e60 e62
              go_wp2_with (first | ((with_reducible refine gate_builtin (b := .append) (xs := #[.tmp 14, .tmp 18]) rfl ?_); at_builtin; refine Kd.R_append (Kd.int .u8) (w0 := w) w.heap.size rfl (.tmp 14) (.tmp 18) 24 5 (.int .u8 0) 1 rfl Tryd.underlying24 info5 rfl (by decide) (by omega) u5 o (bt s i) [.int .u8 (bt s i)] (fun _ => True) (fun _ => False) rfl rfl ?aP (fun _ hk => hk.elim) (fun _ _ => trivial) HP.out.1 HP.out.2 (below_size HP.out.2) ?aL ?_; (case aP => exact rfl); (case aL => have := HL.out; omega); intro v1 w1 ho hb hg hat; have HP1 := Ak (And.intro ho hb); clear ho hb hg hat))
              go_roundg k1
              case measure => have := HK.out; omega
              case rel => exact ⟨_, _, rfl, HA, ⟨by have := HK.out; omega⟩, HP1⟩
          | false =>
           by_cases e34 : bt s i = 34
           ·have e60 : ¬ bt s i = 60 := by omega
            have e62 : ¬ bt s i = 62 := by omega
            have c34b : (bt s i == 34) = true := beq_iff_eq.2 e34
            have c60b : (bt s i == 60) = false := beq_eq_false_iff_ne.2 e60
            have c62b : (bt s i == 62) = false := beq_eq_false_iff_ne.2 e62
            have HA := Ak (show spec_Escape.l0 k1 s false (o ++ [bt s i]) (wrap64 (i + 1)) = some r from by rw [show spec_Escape.one false (bt s i) = [bt s i] from by unfold spec_Escape.one; simp [e38, e34, e60, e62, Int.emod_eq_of_lt hb0.1 (show bt s i < 256 by omega)]] at H; exact H)
            clear H
            clear hb0 e38 e34 e60 e62
            go_wp2_with (first | ((with_reducible refine gate_builtin (b := .append) (xs := #[.tmp 14, .tmp 18]) rfl ?_); at_builtin; refine Kd.R_append (Kd.int .u8) (w0 := w) w.heap.size rfl (.tmp 14) (.tmp 18) 24 5 (.int .u8 0) 1 rfl Tryd.underlying24 info5 rfl (by decide) (by omega) u5 o (bt s i) [.int .u8 (bt s i)] (fun _ => True) (fun _ => False) rfl rfl ?aP (fun _ hk => hk.elim) (fun _ _ => trivial) HP.out.1 HP.out.2 (below_size HP.out.2) ?aL ?_; (case aP => exact rfl); (case aL => have := HL.out; omega); intro v1 w1 ho hb hg hat; have HP1 := Ak (And.intro ho hb); clear ho hb hg hat))
            go_roundg k1
            case measure => have := HK.out; omega
            case rel => exact ⟨_, _, rfl, HA, ⟨by have := HK.out; omega⟩, HP1⟩
           ·have c34b : (bt s i == 34) = false := beq_eq_false_iff_ne.2 e34
            by_cases e60 : bt s i = 60
            ·have c60b : (bt s i == 60) = true := beq_iff_eq.2 e60
             have HA := Ak (show spec_Escape.l0 k1 s false (o ++ [38, 108, 116, 59]) (wrap64 (i + 1)) = some r from by rw [show spec_Escape.one false (bt s i) = [38, 108, 116, 59] from by unfold spec_Escape.one; simp [e38, e34, e60]] at H; exact H)
             clear H
             clear e38 e34 e60 hb0
             go_wp2_with (first | ((with_reducible refine gate_builtin (b := .append) (xs := #[.tmp 75, .tmp 77]) rfl ?_); at_builtin; refine Kd.R_append_rows (Kd.int .u8) (w0 := w) w.heap.size rfl (.tmp 75) (.tmp 77) 24 5 (.int .u8 0) 1 rfl Tryd.underlying24 info5 rfl (by decide) (by omega) u5 o [38, 108, 116, 59] _ _ _ (fun _ => True) (fun _ => False) rfl rfl (Kd.R_below HP.out.1 (below_alloc (Below.refl _ _) _)) (C_lit (xs := [38, 108, 116, 59]) (blk_new _ _) (by decide)) (fun _ _ h => h) (fun _ h => h.elim) (fun _ _ => trivial) (below_alloc HP.out.2 _) (below_size (below_alloc HP.out.2 _)) ?aL ?_; (case aL => have := HL.out; (try simp only [List.length_cons, List.length_nil]); omega); intro v1 w1 ho hb hg hat; have HP1 := Ak (And.intro ho hb); clear ho hb hg hat))
             go_roundg k1
             case measure => have := HK.out; omega
             case rel => exact ⟨_, _, rfl, HA, ⟨by have := HK.out; omega⟩, HP1⟩
            ·have c60b : (bt s i == 60) = false := beq_eq_false_iff_ne.2 e60
             by_cases e62 : bt s i = 62
             ·have c62b : (bt s i == 62) = true := beq_iff_eq.2 e62
              have HA := Ak (show spec_Escape.l0 k1 s false (o ++ [38, 103, 116, 59]) (wrap64 (i + 1)) = some r from by rw [show spec_Escape.one false (bt s i) = [38, 103, 116, 59] from by unfold spec_Escape.one; simp [e38, e34, e60, e62]] at H; exact H)
              clear H
              clear e38 e34 e60 e62 hb0
              go_wp2_with (first | ((with_reducible refine gate_builtin (b := .append) (xs := #[.tmp 88, .tmp 90]) rfl ?_); at_builtin; refine Kd.R_append_rows (Kd.int .u8) (w0 := w) w.heap.size rfl (.tmp 88) (.tmp 90) 24 5 (.int .u8 0) 1 rfl Tryd.underlying24 info5 rfl (by decide) (by omega) u5 o [38, 103, 116, 59] _ _ _ (fun _ => True) (fun _ => False) rfl rfl (Kd.R_below HP.out.1 (below_alloc (Below.refl _ _) _)) (C_lit (xs := [38, 103, 116, 59]) (blk_new _ _) (by decide)) (fun _ _ h => h) (fun _ h => h.elim) (fun _ _ => trivial) (below_alloc HP.out.2 _) (below_size (below_alloc HP.out.2 _)) ?aL ?_; (case aL => have := HL.out; (try simp only [List.length_cons, List.length_nil]); omega); intro v1 w1 ho hb hg hat; have HP1 := Ak (And.intro ho hb); clear ho hb hg hat))
              go_roundg k1
              case measure => have := HK.out; omega
              case rel => exact ⟨_, _, rfl, HA, ⟨by have := HK.out; omega⟩, HP1⟩
             ·have c62b : (bt s i == 62) = false := beq_eq_false_iff_ne.2 e62
              have HA := Ak (show spec_Escape.l0 k1 s false (o ++ [bt s i]) (wrap64 (i + 1)) = some r from by rw [show spec_Escape.one false (bt s i) = [bt s i] from by unfold spec_Escape.one; simp [e38, e34, e60, e62, Int.emod_eq_of_lt hb0.1 (show bt s i < 256 by omega)]] at H; exact H)
              clear H
              clear hb0 e38 e34 e60 e62
              go_wp2_with (first | ((with_reducible refine gate_builtin (b := .append) (xs := #[.tmp 14, .tmp 18]) rfl ?_); at_builtin; refine Kd.R_append (Kd.int .u8) (w0 := w) w.heap.size rfl (.tmp 14) (.tmp 18) 24 5 (.int .u8 0) 1 rfl Tryd.underlying24 info5 rfl (by decide) (by omega) u5 o (bt s i) [.int .u8 (bt s i)] (fun _ => True) (fun _ => False) rfl rfl ?aP (fun _ hk => hk.elim) (fun _ _ => trivial) HP.out.1 HP.out.2 (below_size HP.out.2) ?aL ?_; (case aP => exact rfl); (case aL => have := HL.out; omega); intro v1 w1 ho hb hg hat; have HP1 := Ak (And.intro ho hb); clear ho hb hg hat))
              go_roundg k1
              case measure => have := HK.out; omega
              case rel => exact ⟨_, _, rfl, HA, ⟨by have := HK.out; omega⟩, HP1⟩
      ·rw [if_neg c4] at H; cases H
     ·rw [if_neg c3] at H; cases H
    ·rw [if_neg c2] at H; cases H
   ·rw [if_neg c1] at H
    obtain rfl := Oi H
    clear H
    have c1b : decide (i < (s.size : Int)) = false := decide_eq_false c1
    clear c1
    have hcv := own_string (P := Tryd.prog) Tryd.underlying24 Tryd.underlying5 Tryd.underlying9 (Kd.own_of_R HP.out.1)
    go_wp2
    go_ret
    exact ⟨rfl, HP.out.2⟩
end Go.Proofs.YtlnmmcipioagaaaDoor.X
namespace Go.Proofs.YtlnmmcipioagaaaDoor.X
open Go.RowKit Go.Proofs.YtlnmmcipioagaaaDoorW.PrintWords Go.Proofs.YtlnmmcipioagaaaDoorW.PrintLast Go.Proofs.YtlnmmcipioagaaaDoorW.PrintMore
attribute [local go_sem] max2_int min2_int max_two min_two max_three min_three max_four min_four
set_option linter.unusedVariables false
set_option linter.unusedSimpArgs false
open Go.Lib in
theorem rk_len (old new : List UInt8) : ∀ (k : Nat) (s : List UInt8), (replaceK old new k s).length ≤ s.length + k * new.length := by
 intro k
 induction k with
 | zero => intro s; simp [replaceK]
 | succ k ih =>
  intro s
  unfold replaceK
  split
  ·exact Nat.le_add_right _ _
  ·have h := ih (s.drop ((index s old).toNat + old.length))
   rw [List.length_drop] at h
   rw [List.length_append, List.length_append, List.length_take, Nat.succ_mul]
   omega
def rb (s old new : ByteArray) : ByteArray := ⟨(Lib.replaceAll s.data.toList old.data.toList new.data.toList).toArray⟩
open Go.Lib in
theorem rb_ok (s old new : ByteArray) (h1 : 1 ≤ old.size) : (rb s old new).size ≤ s.size + s.size * new.size ∧ s.size + countB s old * new.size ≤ s.size + s.size * new.size := by
 have hc := countB_le old h1 s.size s (Nat.le_refl _)
 have hm : countB s old * new.size ≤ s.size * new.size := Nat.mul_le_mul_right _ hc
 refine ⟨?_, by omega⟩
 have e1 : (rb s old new).size = (replaceAll s.data.toList old.data.toList new.data.toList).length := by
  rw [Lib.size_eq]; rfl
 have e2 : s.data.toList.length = s.size := (Lib.size_eq s).symm
 have e3 : new.data.toList.length = new.size := (Lib.size_eq new).symm
 rw [e1]
 unfold replaceAll replace
 split
 ·omega
 ·have h := rk_len old.data.toList new.data.toList (replaceNum s.data.toList old.data.toList (-1)) s.data.toList
  have e4 : replaceNum s.data.toList old.data.toList (-1) = countB s old := by unfold replaceNum; rw [if_pos (Or.inl (by decide))]
  rw [e4, e2, e3] at h
  rw [e4]
  omega
theorem ra_calls (s old new : ByteArray) (m : Int) (w : World) (hs : s.size < 4294967281) (hm : w.cell? ⟨0, 0, none⟩ = some (.int .i64 m)) (h1 : 1 ≤ old.size) (hlen : s.size + Lib.countB s old * new.size ≤ 140737488355328) :
 Calls Tryd.prog 13 #[.string s, .string old, .string new] w fun e w' => e = .returned (.string (rb s old new)) ∧ Below w.heap.size w w' := Tryd.strings_ReplaceAll s old new m w hs hm h1 hlen
def impl_Escape.f (s : ByteArray) (v : Bool) : ByteArray := if v = true then rb (rb (rb s ⟨#[38]⟩ ⟨#[38, 97, 109, 112, 59]⟩) ⟨#[194, 160]⟩ ⟨#[38, 110, 98, 115, 112, 59]⟩) ⟨#[34]⟩ ⟨#[38, 113, 117, 111, 116, 59]⟩ else rb (rb (rb (rb s ⟨#[38]⟩ ⟨#[38, 97, 109, 112, 59]⟩) ⟨#[194, 160]⟩ ⟨#[38, 110, 98, 115, 112, 59]⟩) ⟨#[60]⟩ ⟨#[38, 108, 116, 59]⟩) ⟨#[62]⟩ ⟨#[38, 103, 116, 59]⟩
theorem impl_Escape.calls (s : ByteArray) (v : Bool) (m : Int) (w : World) (h1 : s.size ≤ 1048576) (hm : w.cell? ⟨0, 0, none⟩ = some (.int .i64 m)) :
 Calls Tryd.prog 6 #[.string s, .bool v] w fun e w' => e = .returned (.string (impl_Escape.f s v)) ∧ Below w.heap.size w w' := by
 have k1 := rb_ok s ⟨#[38]⟩ ⟨#[38, 97, 109, 112, 59]⟩ (by decide)
 have k2 := rb_ok (rb s ⟨#[38]⟩ ⟨#[38, 97, 109, 112, 59]⟩) ⟨#[194, 160]⟩ ⟨#[38, 110, 98, 115, 112, 59]⟩ (by decide)
 have z1 : (⟨#[38, 97, 109, 112, 59]⟩ : ByteArray).size = 5 := rfl
 have z2 : (⟨#[38, 110, 98, 115, 112, 59]⟩ : ByteArray).size = 6 := rfl
 have z3 : (⟨#[38, 113, 117, 111, 116, 59]⟩ : ByteArray).size = 6 := rfl
 have z4 : (⟨#[38, 108, 116, 59]⟩ : ByteArray).size = 4 := rfl
 have z5 : (⟨#[38, 103, 116, 59]⟩ : ByteArray).size = 4 := rfl
 rw [z1] at k1
 rw [z2] at k2
 have HM := Ak hm
 have K1 := Ak (show s.size < 4294967281 ∧ s.size + Lib.countB s ⟨#[38]⟩ * (⟨#[38, 97, 109, 112, 59]⟩ : ByteArray).size ≤ 140737488355328 by rw [z1]; omega)
 have K2 := Ak (show (rb s ⟨#[38]⟩ ⟨#[38, 97, 109, 112, 59]⟩).size < 4294967281 ∧ (rb s ⟨#[38]⟩ ⟨#[38, 97, 109, 112, 59]⟩).size + Lib.countB (rb s ⟨#[38]⟩ ⟨#[38, 97, 109, 112, 59]⟩) ⟨#[194, 160]⟩ * (⟨#[38, 110, 98, 115, 112, 59]⟩ : ByteArray).size ≤ 140737488355328 by rw [z2]; omega)
 generalize hs2 : rb (rb s ⟨#[38]⟩ ⟨#[38, 97, 109, 112, 59]⟩) ⟨#[194, 160]⟩ ⟨#[38, 110, 98, 115, 112, 59]⟩ = s2 at k2
 have k3 := rb_ok s2 ⟨#[34]⟩ ⟨#[38, 113, 117, 111, 116, 59]⟩ (by decide)
 have k4 := rb_ok s2 ⟨#[60]⟩ ⟨#[38, 108, 116, 59]⟩ (by decide)
 rw [z3] at k3
 rw [z4] at k4
 have k5 := rb_ok (rb s2 ⟨#[60]⟩ ⟨#[38, 108, 116, 59]⟩) ⟨#[62]⟩ ⟨#[38, 103, 116, 59]⟩ (by decide)
 rw [z5] at k5
 have K3 := Ak (show s2.size < 4294967281 ∧ s2.size + Lib.countB s2 ⟨#[34]⟩ * (⟨#[38, 113, 117, 111, 116, 59]⟩ : ByteArray).size ≤ 140737488355328 by rw [z3]; omega)
 have K4 := Ak (show s2.size < 4294967281 ∧ s2.size + Lib.countB s2 ⟨#[60]⟩ * (⟨#[38, 108, 116, 59]⟩ : ByteArray).size ≤ 140737488355328 by rw [z4]; omega)
 have K5 := Ak (show (rb s2 ⟨#[60]⟩ ⟨#[38, 108, 116, 59]⟩).size < 4294967281 ∧ (rb s2 ⟨#[60]⟩ ⟨#[38, 108, 116, 59]⟩).size + Lib.countB (rb s2 ⟨#[60]⟩ ⟨#[38, 108, 116, 59]⟩) ⟨#[62]⟩ * (⟨#[38, 103, 116, 59]⟩ : ByteArray).size ≤ 140737488355328 by rw [z5]; omega)
 have HS := Ak hs2
 have O1 := Ak (show 1 ≤ (⟨#[38]⟩ : ByteArray).size by decide)
 have O2 := Ak (show 1 ≤ (⟨#[194, 160]⟩ : ByteArray).size by decide)
 have O3 := Ak (show 1 ≤ (⟨#[34]⟩ : ByteArray).size by decide)
 have O4 := Ak (show 1 ≤ (⟨#[60]⟩ : ByteArray).size by decide)
 have O5 := Ak (show 1 ≤ (⟨#[62]⟩ : ByteArray).size by decide)
 clear k1 k2 k3 k4 k5 z1 z2 z3 z4 z5 hm h1 hs2
 unfold impl_Escape.f
 cases v with
 | true =>
  rw [if_pos rfl, HS.out]
  go_enter Tryd.func6, Tryd.ntmps6
  go_wp2_with (first | (go_at_call 13; (with_reducible refine (ra_calls s ⟨#[38]⟩ ⟨#[38, 97, 109, 112, 59]⟩ m _ K1.out.1 HM.out O1.out K1.out.2).mono ?_); rintro e w1 ⟨rfl, hb⟩; have HB1 := Ak hb; clear hb) | (go_at_call 13; (with_reducible refine (ra_calls (rb s ⟨#[38]⟩ ⟨#[38, 97, 109, 112, 59]⟩) ⟨#[194, 160]⟩ ⟨#[38, 110, 98, 115, 112, 59]⟩ m _ K2.out.1 (pw_cell_below HB1.out HM.out) O2.out K2.out.2).mono ?_); rintro e w2 ⟨rfl, hb⟩; rw [HS.out]; have HB2 := Ak (below_step HB1.out hb); clear hb) | (go_at_call 13; (with_reducible refine (ra_calls s2 ⟨#[34]⟩ ⟨#[38, 113, 117, 111, 116, 59]⟩ m _ K3.out.1 (pw_cell_below HB2.out HM.out) O3.out K3.out.2).mono ?_); rintro e w3 ⟨rfl, hb⟩; have HB3 := Ak (below_step HB2.out hb); clear hb))
  go_ret
  exact ⟨rfl, HB3.out⟩
 | false =>
  rw [if_neg (by decide), HS.out]
  go_enter Tryd.func6, Tryd.ntmps6
  go_wp2_with (first | (go_at_call 13; (with_reducible refine (ra_calls s ⟨#[38]⟩ ⟨#[38, 97, 109, 112, 59]⟩ m _ K1.out.1 HM.out O1.out K1.out.2).mono ?_); rintro e w1 ⟨rfl, hb⟩; have HB1 := Ak hb; clear hb) | (go_at_call 13; (with_reducible refine (ra_calls (rb s ⟨#[38]⟩ ⟨#[38, 97, 109, 112, 59]⟩) ⟨#[194, 160]⟩ ⟨#[38, 110, 98, 115, 112, 59]⟩ m _ K2.out.1 (pw_cell_below HB1.out HM.out) O2.out K2.out.2).mono ?_); rintro e w2 ⟨rfl, hb⟩; rw [HS.out]; have HB2 := Ak (below_step HB1.out hb); clear hb) | (go_at_call 13; (with_reducible refine (ra_calls s2 ⟨#[60]⟩ ⟨#[38, 108, 116, 59]⟩ m _ K4.out.1 (pw_cell_below HB2.out HM.out) O4.out K4.out.2).mono ?_); rintro e w4 ⟨rfl, hb⟩; have HB4 := Ak (below_step HB2.out hb); clear hb) | (go_at_call 13; (with_reducible refine (ra_calls (rb s2 ⟨#[60]⟩ ⟨#[38, 108, 116, 59]⟩) ⟨#[62]⟩ ⟨#[38, 103, 116, 59]⟩ m _ K5.out.1 (pw_cell_below HB4.out HM.out) O5.out K5.out.2).mono ?_); rintro e w5 ⟨rfl, hb⟩; have HB5 := Ak (below_step HB4.out hb); clear hb))
  go_ret
  exact ⟨rfl, HB5.out⟩
end Go.Proofs.YtlnmmcipioagaaaDoor.X
namespace Go.Proofs.YtlnmmcipioagaaaDoor.X
open Go.RowKit Go.Proofs.YtlnmmcipioagaaaDoorW.PrintWords Go.Proofs.YtlnmmcipioagaaaDoorW.PrintLast Go.Proofs.YtlnmmcipioagaaaDoorW.PrintMore
attribute [local go_sem] max2_int min2_int max_two min_two max_three min_three max_four min_four
set_option linter.unusedVariables false
set_option linter.unusedSimpArgs false
def laws_big.f (l0 : List Int) : Option (Bool) := some (decide ((l0.length : Int) > 1048576))
theorem laws_big.calls (A0 : Option Addr) (c0 : Nat) (l0 : List Int) (r : Bool) (w : World) (hr0 : Kd.C (Kd.int .u8) w A0 l0.length l0) (hc0 : l0.length ≤ c0) (h : laws_big.f l0 = some r) :
 Calls Tryd.prog 7 #[.slice A0 l0.length c0] w fun e w' => e = .returned (.bool r) ∧ Drawn0 w w' := by
 have HR0 := Ak hr0
 have HC0 := Ak hc0
 clear hr0 hc0
 have H : (some (decide ((l0.length : Int) > 1048576))) = some r := h
 clear h
 obtain rfl := Oi H
 go_enter Tryd.func7, Tryd.ntmps7
 go_wp2
 go_ret
 exact ⟨by first | rfl | (simp; done) | (simp [*]; done), by repeat (first | exact Drawn0.refl _ | apply Drawn0.step)⟩
def IsS47 (w0 W : World) (g : Nat) (f0 : List Int) (f1 : Int) (f2 : Int) : Prop := ∃ A0 c0, W.heap[g]? = some (.cells #[.slice A0 f0.length c0, .int .i64 f1, .int .i64 f2] 47 (0, 0)) ∧ w0.heap.size ≤ g ∧ Kd.C (Kd.int .u8) w0 A0 f0.length f0
theorem IsS47.grown {w0 W : World} {g : Nat} {f0 : List Int} {f1 : Int} {f2 : Int} {W1 : World} {row : Option Nat} (h : IsS47 w0 W g f0 f1 f2) (hw : W.grownBy W1 row) (hne : some g ≠ row) : IsS47 w0 W1 g f0 f1 f2 := by
 obtain ⟨A0, c0, hb, hg, hr0⟩ := h
 exact ⟨A0, c0, blk_grown hb hw hne, hg, hr0⟩
theorem IsS47.own_neN {w0 W : World} {g : Nat} {f0 : List Int} {f1 : Int} {f2 : Int} {α : Type} {d : Kd α} {e : Nat} {base : Nat} {ok : Nat → Prop} {v : Value} {xs : List α} (h : IsS47 w0 W g f0 f1 f2) (ho : Kd.N d e W base ok v xs) (ht : e ≠ 47) : some g ≠ v.ownBlock := by
 obtain ⟨A0, c0, hb, hg, hr0⟩ := h
 exact Kd.N_ne ho hb ht
theorem IsS47.fresh {w0 W : World} {g : Nat} {f0 : List Int} {f1 : Int} {f2 : Int} (h : IsS47 w0 W g f0 f1 f2) : ∀ k, W.heap.size ≤ k → k ≠ g := by
 obtain ⟨A0, c0, hb, hg, hr0⟩ := h
 exact Kd.freshB hb
theorem IsS47.kept {w0 W : World} {g : Nat} {f0 : List Int} {f1 : Int} {f2 : Int} {W1 : World} {S : Nat → Prop} (h : IsS47 w0 W g f0 f1 f2) (hk : Kept W W1 S) (hne : ¬ S g) : IsS47 w0 W1 g f0 f1 f2 := by
 obtain ⟨A0, c0, hb, hg, hr0⟩ := h
 exact ⟨A0, c0, blk_kept hb hk hne, hg, hr0⟩
theorem IsS47.below {w0 W : World} {g : Nat} {f0 : List Int} {f1 : Int} {f2 : Int} {W1 : World} (h : IsS47 w0 W g f0 f1 f2) (hw : Below W.heap.size W W1) : IsS47 w0 W1 g f0 f1 f2 := h.grown (grown_of_below hw none) (by simp)
theorem IsS47.alloc {w0 W : World} {g : Nat} {f0 : List Int} {f1 : Int} {f2 : Int} (h : IsS47 w0 W g f0 f1 f2) (o : Obj) : IsS47 w0 (W.alloc o) g f0 f1 f2 := h.below (below_alloc (Below.refl _ _) o)
theorem IsS47.drewN {w0 W : World} {g : Nat} {f0 : List Int} {f1 : Int} {f2 : Int} (h : IsS47 w0 W g f0 f1 f2) (m : Nat) : IsS47 w0 (W.drewN m) g f0 f1 f2 := h
theorem IsS47.drew {w0 W : World} {g : Nat} {f0 : List Int} {f1 : Int} {f2 : Int} (h : IsS47 w0 W g f0 f1 f2) : IsS47 w0 W.drew g f0 f1 f2 := h
theorem IsS47.at_ {w0 W : World} {g : Nat} {f0 : List Int} {f1 : Int} {f2 : Int} {w' : World} {m : Nat} (hq : W.drewN m = w') (h : IsS47 w0 W g f0 f1 f2) : IsS47 w0 w' g f0 f1 f2 := by subst hq; exact IsS47.drewN h m
theorem IsS47.apart {w0 W : World} {g : Nat} {f0 : List Int} {f1 : Int} {f2 : Int} {α : Type} {d : Kd α} {e : Nat} {base : Nat} {ok : Nat → Prop} {v : Value} {xs : List α} (h : IsS47 w0 W g f0 f1 f2) (ho : d.R e W base ok v xs) (ht : ∀ q, q ∈ e :: d.E → q ≠ 47) : d.R e W base (fun k => ok k ∧ k ≠ g) v xs := by
 obtain ⟨A0, c0, hb, hg, hr0⟩ := h
 exact Kd.R_types ho hb ht
theorem IsS47.own_ne {w0 W : World} {g : Nat} {f0 : List Int} {f1 : Int} {f2 : Int} {α : Type} {d : Kd α} {e : Nat} {base : Nat} {ok : Nat → Prop} {v : Value} {xs : List α} (h : IsS47 w0 W g f0 f1 f2) (ho : d.R e W base ok v xs) (ht : e ≠ 47) : some g ≠ v.ownBlock := by
 obtain ⟨A0, c0, hb, hg, hr0⟩ := h
 exact Kd.R_ne ho hb ht
theorem IsS47.apartQ {w0 W : World} {g : Nat} {f0 : List Int} {f1 : Int} {f2 : Int} {α : Type} {d : Kd α} {e : Nat} {base : Nat} {ok : Nat → Prop} {v : Value} {xs : List α} (h : IsS47 w0 W g f0 f1 f2) (ho : d.Q e W base ok v xs) (ht : ∀ q, q ∈ e :: d.E → q ≠ 47) : d.Q e W base (fun k => ok k ∧ k ≠ g) v xs := by
 obtain ⟨A0, c0, hb, hg, hr0⟩ := h
 exact Kd.Q_types ho hb ht
theorem IsS47.own_neQ {w0 W : World} {g : Nat} {f0 : List Int} {f1 : Int} {f2 : Int} {α : Type} {d : Kd α} {e : Nat} {base : Nat} {ok : Nat → Prop} {v : Value} {xs : List α} (h : IsS47 w0 W g f0 f1 f2) (ho : d.Q e W base ok v xs) (ht : e ≠ 47) : some g ≠ v.ownBlock := by
 obtain ⟨A0, c0, hb, hg, hr0⟩ := h
 exact Kd.Q_ne ho hb ht
theorem IsS47.apartS {w0 W : World} {g : Nat} {f0 : List Int} {f1 : Int} {f2 : Int} {α : Type} {d : Kd α} {e : Nat} {base : Nat} {ok : Nat → Prop} {v : Value} {xs : List α} (h : IsS47 w0 W g f0 f1 f2) (ho : d.S e W base ok v xs) (ht : ∀ q, q ∈ e :: d.E → q ≠ 47) : d.S e W base (fun k => ok k ∧ k ≠ g) v xs := by
 obtain ⟨A0, c0, hb, hg, hr0⟩ := h
 exact Kd.S_types ho hb ht
theorem IsS47.own_neS {w0 W : World} {g : Nat} {f0 : List Int} {f1 : Int} {f2 : Int} {α : Type} {d : Kd α} {e : Nat} {base : Nat} {ok : Nat → Prop} {v : Value} {xs : List α} (h : IsS47 w0 W g f0 f1 f2) (ho : d.S e W base ok v xs) (ht : e ≠ 47) : some g ≠ v.ownBlock := by
 obtain ⟨A0, c0, hb, hg, hr0⟩ := h
 exact Kd.S_ne ho hb ht
theorem IsS47.lt {w0 W : World} {g : Nat} {f0 : List Int} {f1 : Int} {f2 : Int} (h : IsS47 w0 W g f0 f1 f2) : g < W.heap.size := by
 obtain ⟨A0, c0, hb, hg, hr0⟩ := h
 exact blk_lt hb
theorem IsS47.ge {w0 W : World} {g : Nat} {f0 : List Int} {f1 : Int} {f2 : Int} (h : IsS47 w0 W g f0 f1 f2) : w0.heap.size ≤ g := by
 obtain ⟨A0, c0, hb, hg, hr0⟩ := h
 exact hg
theorem IsS47.ne_blk {w0 W : World} {g : Nat} {f0 : List Int} {f1 : Int} {f2 : Int} {a : Nat} {cs : Array Value} {t : TypeId} {fr : Nat × Nat} (h : IsS47 w0 W g f0 f1 f2) (hb2 : W.heap[a]? = some (.cells cs t fr)) (ht : t ≠ 47) : g ≠ a := by
 obtain ⟨A0, c0, hb, hg, hr0⟩ := h
 rintro rfl
 rw [hb] at hb2
 injection hb2 with hb2
 injection hb2 with _ ht2
 exact ht ht2.symm
theorem IsS47.far {w0 W : World} {g : Nat} {f0 : List Int} {f1 : Int} {f2 : Int} {p : Addr} (h : IsS47 w0 W g f0 f1 f2) (hne : g ≠ p.block) (u : Value) : IsS47 w0 (W.setCell p u) g f0 f1 f2 := by
 obtain ⟨A0, c0, hb, hg, hr0⟩ := h
 exact ⟨A0, c0, blk_far hb hne u, hg, hr0⟩
theorem cellS47_0 {W : World} {g : Nat} {A0 : Option Addr} {c0 : Nat} {f0 : List Int} {f1 : Int} {f2 : Int} (h : W.heap[g]? = some (.cells #[.slice A0 f0.length c0, .int .i64 f1, .int .i64 f2] 47 (0, 0))) : W.cell? ⟨g, 0, none⟩ = some (.slice A0 f0.length c0) := (blk_cell h 0).trans rfl
theorem cellS47_1 {W : World} {g : Nat} {A0 : Option Addr} {c0 : Nat} {f0 : List Int} {f1 : Int} {f2 : Int} (h : W.heap[g]? = some (.cells #[.slice A0 f0.length c0, .int .i64 f1, .int .i64 f2] 47 (0, 0))) : W.cell? ⟨g, 1, none⟩ = some (.int .i64 f1) := (blk_cell h 1).trans rfl
theorem IsS47.set_1 {w0 W : World} {g : Nat} {f0 : List Int} {f1 : Int} {f2 : Int} (h : IsS47 w0 W g f0 f1 f2) (x : Int) : IsS47 w0 (W.setCell ⟨g, 1, none⟩ (.int .i64 x)) g f0 x f2 := by
 obtain ⟨A0, c0, hb, hg, hr0⟩ := h
 exact ⟨A0, c0, by simpa using blk_set hb 1 (.int .i64 x), hg, hr0⟩
theorem cellS47_2 {W : World} {g : Nat} {A0 : Option Addr} {c0 : Nat} {f0 : List Int} {f1 : Int} {f2 : Int} (h : W.heap[g]? = some (.cells #[.slice A0 f0.length c0, .int .i64 f1, .int .i64 f2] 47 (0, 0))) : W.cell? ⟨g, 2, none⟩ = some (.int .i64 f2) := (blk_cell h 2).trans rfl
theorem IsS47.set_2 {w0 W : World} {g : Nat} {f0 : List Int} {f1 : Int} {f2 : Int} (h : IsS47 w0 W g f0 f1 f2) (x : Int) : IsS47 w0 (W.setCell ⟨g, 2, none⟩ (.int .i64 x)) g f0 f1 x := by
 obtain ⟨A0, c0, hb, hg, hr0⟩ := h
 exact ⟨A0, c0, by simpa using blk_set hb 2 (.int .i64 x), hg, hr0⟩
theorem IsS47.new (w0 W : World) (A0 : Option Addr) (c0 : Nat) (f0 : List Int) (f1 : Int) (f2 : Int) (hB : Below w0.heap.size w0 W) (hr0 : Kd.C (Kd.int .u8) w0 A0 f0.length f0) : IsS47 w0 (W.alloc (.cells #[.slice A0 f0.length c0, .int .i64 f1, .int .i64 f2] 47)) W.heap.size f0 f1 f2 := ⟨A0, c0, by simpa using heap_alloc_new W _, hB.size, hr0⟩
def spec_l1New.l0 : Nat → List Int → Int → Int → Option (List Int × Int × Int)
 | 0, _, _, _ => none
 | k + 1, x0, x3, x4 => if x4 < (x0.length : Int) then (if x4 < 4000 then (if 0 ≤ x4 then (spec_l1New.l0 k x0 (Go.bits .and .i64 (wrap64 ((wrap64 ((wrap64 (x3 * 131)) + (wrap64 (rd x0 x4)))) + 7)) 1073741823) (wrap64 (x4 + 1))) else (none)) else (some (x0, 0, x3))) else (some (x0, 0, x3))
def spec_l1New.f (k : Nat) (l0 : List Int) : Option (List Int × Int × Int) := spec_l1New.l0 k l0 (wrap64 (11887 + (l0.length : Int))) 0
theorem spec_l1New.mono_l : ∀ k, (∀ y0 y1 y2, LeO (spec_l1New.l0 k y0 y1 y2) (spec_l1New.l0 (k + 1) y0 y1 y2))
 | 0 => fun _ _ _ r h => by simp [spec_l1New.l0] at h
 | k + 1 => by
  have ih0 := spec_l1New.mono_l k
  ·intro y0 y1 y2
   unfold spec_l1New.l0
   repeat' first
   | (with_reducible exact ih0 _ _ _)
   | (with_reducible exact LeO.refl _)
   | (with_reducible exact LeO.none _)
   | (with_reducible refine LeO.ite ?_ ?_)
   | (with_reducible refine LeO.bind ?_ (fun _ => ?_))
   | exact ih0 _ _ _
   | exact LeO.none _
   | refine LeO.ite ?_ ?_
   | refine LeO.bind ?_ (fun _ => ?_)
theorem spec_l1New.mono : ∀ a0 k, LeO (spec_l1New.f k a0) (spec_l1New.f (k + 1) a0) := by
 intro a0 k
 have ih0 := spec_l1New.mono_l k
 unfold spec_l1New.f
 repeat' first
  | (with_reducible exact ih0 _ _ _)
  | (with_reducible exact LeO.refl _)
  | (with_reducible exact LeO.none _)
  | (with_reducible refine LeO.ite ?_ ?_)
  | (with_reducible refine LeO.bind ?_ (fun _ => ?_))
  | exact ih0 _ _ _
  | exact LeO.none _
  | refine LeO.ite ?_ ?_
  | refine LeO.bind ?_ (fun _ => ?_)
theorem spec_l1New.calls (k : Nat) (A0 : Option Addr) (c0 : Nat) (l0 : List Int) (r1 : List Int) (r2 : Int) (r3 : Int) (w0 w : World) (hB : Below w0.heap.size w0 w) (hr0 : Kd.C (Kd.int .u8) w0 A0 l0.length l0) (hc0 : l0.length ≤ c0) (h : spec_l1New.f k l0 = some (r1, r2, r3)) :
 Calls Tryd.prog 14 #[.slice A0 l0.length c0] w fun e w' => ∃ g_ : Nat, e = .returned (.pointer (some ⟨g_, 0, none⟩)) ∧ IsS47 w0 w' g_ r1 r2 r3 ∧ Below w0.heap.size w0 w' ∧ Below w.heap.size w w' := by
 have hu47 := Tryd.underlying47
 have HR0 := Ak hr0
 have HC0 := Ak hc0
 clear hr0 hc0
 have HBW := Ak (Below.refl w.heap.size w)
 have HW0 := Ak hB.size
 have HB := Ak hB
 clear hB
 have H : (spec_l1New.l0 k l0 (wrap64 (11887 + (l0.length : Int))) 0) = some (r1, r2, r3) := h
 clear h
 have H' := Ak H
 clear H
 go_enter Tryd.func14, Tryd.ntmps14
 go_wp2
 go_loopg [3, 4] k (fun kq v3 v4 w' => ∃ (x3_1 : Int) (x4_1 : Int), v3 = .int .i64 x3_1 ∧ v4 = .int .i64 x4_1 ∧ Aside0 (spec_l1New.l0 kq l0 x3_1 x4_1 = some (r1, r2, r3)) ∧ Aside0 (kq ≤ k) ∧ Aside0 (Below w.heap.size w w') ∧ Aside0 (Below w0.heap.size w0 w'))
 case atStart => exact ⟨(wrap64 (11887 + (l0.length : Int))), (0), (by first | rfl | (simp; done) | (simp [*]; done)), (by first | rfl | (simp; done) | (simp [*]; done)), H', ⟨Nat.le_refl _⟩, ⟨HBW.out⟩, ⟨HB.out⟩⟩
 case round =>
  clear H'
  try clear c1
  obtain ⟨x3_1, x4_1, rfl, rfl, HA, HK1, HBW, HB⟩ := hrel
  cases gk with
  | zero => exact absurd HA.out (by simp [spec_l1New.l0])
  | succ k1 =>
   have H := HA.out
   clear HA
   simp only [spec_l1New.l0] at H
   by_cases c2 : x4_1 < (l0.length : Int)
   ·rw [if_pos c2] at H
    have c2b0 : decide (x4_1 < (l0.length : Int)) = true := decide_eq_true c2
    clear c2
    by_cases c3 : x4_1 < 4000
    ·rw [if_pos c3] at H
     have c3b0 : decide (x4_1 < 4000) = true := decide_eq_true c3
     clear c3
     by_cases c4 : 0 ≤ x4_1
     ·rw [if_pos c4] at H
      have c4b0 : decide (0 ≤ x4_1) = true := decide_eq_true c4
      clear c4
      have H' := Ak H
      clear H
      have p101 : 0 ≤ (x4_1 : Int) := of_decide_eq_true (by assumption)
      have q101 : x4_1 < (l0.length : Int) := of_decide_eq_true (by assumption)
      obtain ⟨ad101, e101, hx101_0⟩ := Kd.at_int HR0.out x4_1 p101 q101
      cases e101
      replace hx101_0 := pw_cell_below HB.out hx101_0
      replace p101 := eq_true p101
      replace q101 := eq_true q101
      go_wp2
      go_roundg k1
      case measure => have := HK1.out; omega
      case rel => exact ⟨(Go.bits .and .i64 (wrap64 ((wrap64 ((wrap64 (x3_1 * 131)) + (wrap64 (rd l0 x4_1)))) + 7)) 1073741823), (wrap64 (x4_1 + 1)), (by first | rfl | (simp; done) | (simp [*]; done)), (by first | rfl | (simp; done) | (simp [*]; done)), H', ⟨by have := HK1.out; omega⟩, ⟨HBW.out⟩, ⟨HB.out⟩⟩
     ·rw [if_neg c4] at H
      exact absurd H (by simp)
    ·rw [if_neg c3] at H
     have c3b0 : decide (x4_1 < 4000) = false := decide_eq_false c3
     clear c3
     simp only [Option.some.injEq, Prod.mk.injEq] at H
     obtain ⟨rfl, rfl, rfl⟩ := H
     go_wp2_with (first | ((with_reducible refine gate_dst (N := 31) rfl ?_); refine box_event ?hg (N := 31) ?hd (cs := #[.slice A0 l0.length c0, .int .i64 0, .int .i64 x3_1]) (t := 47) ?hr ?_; (case hd => rfl); (case hg => rfl); (case hr => go_simp); intro gb102 hg w5 hbox hb; have n0_ := Ak (below_step HBW.out hb); have n1_ := Ak (below_step (HB.out) hb); have n2_ := Ak (hbox); have n3_ := Ak ((by rw [hg]; exact (below_size (HBW.out)) : w.heap.size ≤ gb102)); have n4_ := Ak ((Nat.le_trans HW0.out (by rw [hg]; exact (below_size (HBW.out)) : w.heap.size ≤ gb102) : w0.heap.size ≤ gb102)); clear HBW; clear HB; have HBW := n0_; have HB := n1_; have BK102 := n2_; have GW102 := n3_; have GE102 := n4_; clear n0_ n1_ n2_ n3_ n4_; clear hb hbox hg))
     go_ret
     exact ⟨_, rfl, (show IsS47 w0 _ gb102 l0 0 x3_1 from ⟨_, _, by (with_reducible repeat (first | refine blk_drewN ?_ _ | refine blk_drew ?_ | refine blk_alloc ?_ _)); exact BK102.out, GE102.out, HR0.out⟩), HB.out, HBW.out⟩
   ·rw [if_neg c2] at H
    have c2b0 : decide (x4_1 < (l0.length : Int)) = false := decide_eq_false c2
    clear c2
    simp only [Option.some.injEq, Prod.mk.injEq] at H
    obtain ⟨rfl, rfl, rfl⟩ := H
    go_wp2_with (first | ((with_reducible refine gate_dst (N := 31) rfl ?_); refine box_event ?hg (N := 31) ?hd (cs := #[.slice A0 l0.length c0, .int .i64 0, .int .i64 x3_1]) (t := 47) ?hr ?_; (case hd => rfl); (case hg => rfl); (case hr => go_simp); intro gb103 hg w6 hbox hb; have n0_ := Ak (below_step HBW.out hb); have n1_ := Ak (below_step (HB.out) hb); have n2_ := Ak (hbox); have n3_ := Ak ((by rw [hg]; exact (below_size (HBW.out)) : w.heap.size ≤ gb103)); have n4_ := Ak ((Nat.le_trans HW0.out (by rw [hg]; exact (below_size (HBW.out)) : w.heap.size ≤ gb103) : w0.heap.size ≤ gb103)); clear HBW; clear HB; have HBW := n0_; have HB := n1_; have BK103 := n2_; have GW103 := n3_; have GE103 := n4_; clear n0_ n1_ n2_ n3_ n4_; clear hb hbox hg))
    go_ret
    exact ⟨_, rfl, (show IsS47 w0 _ gb103 l0 0 x3_1 from ⟨_, _, by (with_reducible repeat (first | refine blk_drewN ?_ _ | refine blk_drew ?_ | refine blk_alloc ?_ _)); exact BK103.out, GE103.out, HR0.out⟩), HB.out, HBW.out⟩
def spec_l1Byte.f (s0_0 : List Int) (s0_1 : Int) (s0_2 : Int) : Option (Int × Int × Int) := if s0_1 < (s0_0.length : Int) then (if 0 ≤ s0_1 then (some (Go.bits .and .i64 (wrap64 ((Go.bits .and .i64 (Go.bits .xor .i64 ((wrap64 ((wrap64 (s0_2 * 6364136223846793005)) + 1442695040888963407)) / 8589934592) ((wrap64 ((wrap64 (s0_2 * 6364136223846793005)) + 1442695040888963407)) / 35184372088832)) 255) + (wrap64 (rd s0_0 s0_1)))) 255, wrap64 (s0_1 + 1), wrap64 ((wrap64 (s0_2 * 6364136223846793005)) + 1442695040888963407))) else (none)) else (some (Go.bits .and .i64 (Go.bits .xor .i64 ((wrap64 ((wrap64 (s0_2 * 6364136223846793005)) + 1442695040888963407)) / 8589934592) ((wrap64 ((wrap64 (s0_2 * 6364136223846793005)) + 1442695040888963407)) / 35184372088832)) 255, s0_1, wrap64 ((wrap64 (s0_2 * 6364136223846793005)) + 1442695040888963407)))
theorem spec_l1Byte.calls (g : Nat) (s0_0 : List Int) (s0_1 : Int) (s0_2 : Int) (r1 : Int) (r2 : Int) (r3 : Int) (w0 w : World) (hI : IsS47 w0 w g s0_0 s0_1 s0_2) (hB : Below w0.heap.size w0 w) (h : spec_l1Byte.f s0_0 s0_1 s0_2 = some (r1, r2, r3)) :
 Calls Tryd.prog 25 #[.pointer (some ⟨g, 0, none⟩)] w fun e w' => e = .returned (.int .i64 r1) ∧ IsS47 w0 w' g s0_0 r2 r3 ∧ Below w0.heap.size w0 w' ∧ KeepBut w w' g none := by
 have HI0 := Ak hI
 have HK := Ak (KeepBut.refl w g none)
 have HL := Ak hB.size
 clear hI
 have HW0 := Ak hB.size
 have HB := Ak hB
 clear hB
 have H : (if s0_1 < (s0_0.length : Int) then (if 0 ≤ s0_1 then (some (Go.bits .and .i64 (wrap64 ((Go.bits .and .i64 (Go.bits .xor .i64 ((wrap64 ((wrap64 (s0_2 * 6364136223846793005)) + 1442695040888963407)) / 8589934592) ((wrap64 ((wrap64 (s0_2 * 6364136223846793005)) + 1442695040888963407)) / 35184372088832)) 255) + (wrap64 (rd s0_0 s0_1)))) 255, wrap64 (s0_1 + 1), wrap64 ((wrap64 (s0_2 * 6364136223846793005)) + 1442695040888963407))) else (none)) else (some (Go.bits .and .i64 (Go.bits .xor .i64 ((wrap64 ((wrap64 (s0_2 * 6364136223846793005)) + 1442695040888963407)) / 8589934592) ((wrap64 ((wrap64 (s0_2 * 6364136223846793005)) + 1442695040888963407)) / 35184372088832)) 255, s0_1, wrap64 ((wrap64 (s0_2 * 6364136223846793005)) + 1442695040888963407)))) = some (r1, r2, r3) := h
 clear h
 by_cases c2 : s0_1 < (s0_0.length : Int)
 ·rw [if_pos c2] at H
  have c2b0 : decide (s0_1 < (s0_0.length : Int)) = true := decide_eq_true c2
  clear c2
  by_cases c3 : 0 ≤ s0_1
  ·rw [if_pos c3] at H
   have c3b0 : decide (0 ≤ s0_1) = true := decide_eq_true c3
   clear c3
   simp only [Option.some.injEq, Prod.mk.injEq] at H
   obtain ⟨rfl, rfl, rfl⟩ := H
   obtain ⟨ASz4_0, cSz4_0, HGz4, hgz4, HSz4_0⟩ := HI0.out
   have hcz4_0 := cellS47_0 HGz4
   have hcz4_1 := cellS47_1 HGz4
   have hcz4_2 := cellS47_2 HGz4
   have hfz4_1 := blk_frozen HGz4 1
   have hfz4_2 := blk_frozen HGz4 2
   clear HGz4 hgz4
   have p101 : 0 ≤ (s0_1 : Int) := of_decide_eq_true (by assumption)
   have q101 : s0_1 < (s0_0.length : Int) := of_decide_eq_true (by assumption)
   obtain ⟨ad101, e101, hx101_0⟩ := Kd.at_int HSz4_0 s0_1 p101 q101
   cases e101
   have hn101_0 : ad101.block ≠ g := Nat.ne_of_lt (Nat.lt_of_lt_of_le (by have := World.block_lt_of_cell? _ _ hx101_0; first | rwa [add_block] at this | exact this) (IsS47.ge HI0.out))
   replace hx101_0 := pw_cell_below HB.out hx101_0
   replace hx101_0 := (cell_far (p := ⟨g, 2, none⟩) (by first | (rw [add_block]; exact hn101_0) | (show (Addr.add _ _).block ≠ _; rw [add_block]; exact hn101_0) | exact hn101_0) (.int .i64 (wrap64 ((wrap64 (s0_2 * 6364136223846793005)) + 1442695040888963407)))).trans hx101_0
   (try have hy101_0 := fun (n_ : Nat) => (show (((w.drewN n_).setCell ⟨g, 2, none⟩ (.int .i64 (wrap64 ((wrap64 (s0_2 * 6364136223846793005)) + 1442695040888963407))))).cell? _ = some _ from hx101_0))
   clear hn101_0
   replace p101 := eq_true p101
   replace q101 := eq_true q101
   go_enter Tryd.func25, Tryd.ntmps25
   go_wp2
   repeat (go_quiet (fail); try go_wp2)
   go_ret
   exact ⟨by first | rfl | (simp [*] <;> rfl), by repeat (first | exact HI0.out | apply IsS47.alloc | apply IsS47.drewN | apply IsS47.drew | apply IsS47.set_1 | apply IsS47.set_2), by repeat (first | exact HB.out | apply below_alloc | apply pw_below_drewN | apply below_drew1 | refine below_set ?_ (IsS47.ge HI0.out)), by repeat (first | exact HK.out | apply KeepBut.set_ | apply keep_drewN | apply keep_drew | apply keep_alloc)⟩
  ·rw [if_neg c3] at H
   exact absurd H (by simp)
 ·rw [if_neg c2] at H
  have c2b0 : decide (s0_1 < (s0_0.length : Int)) = false := decide_eq_false c2
  clear c2
  simp only [Option.some.injEq, Prod.mk.injEq] at H
  obtain ⟨rfl, rfl, rfl⟩ := H
  obtain ⟨ASz5_0, cSz5_0, HGz5, hgz5, HSz5_0⟩ := HI0.out
  have hcz5_0 := cellS47_0 HGz5
  have hcz5_1 := cellS47_1 HGz5
  have hcz5_2 := cellS47_2 HGz5
  have hfz5_1 := blk_frozen HGz5 1
  have hfz5_2 := blk_frozen HGz5 2
  clear HGz5 hgz5
  go_enter Tryd.func25, Tryd.ntmps25
  go_wp2
  repeat (go_quiet (fail); try go_wp2)
  go_ret
  exact ⟨by first | rfl | (simp [*] <;> rfl), by repeat (first | exact HI0.out | apply IsS47.alloc | apply IsS47.drewN | apply IsS47.drew | apply IsS47.set_1 | apply IsS47.set_2), by repeat (first | exact HB.out | apply below_alloc | apply pw_below_drewN | apply below_drew1 | refine below_set ?_ (IsS47.ge HI0.out)), by repeat (first | exact HK.out | apply KeepBut.set_ | apply keep_drewN | apply keep_drew | apply keep_alloc)⟩
def spec_l1Below.f (s0_0 : List Int) (s0_1 : Int) (s0_2 : Int) (a1 : Int) : Option (Int × Int × Int) := if a1 ≤ 0 then (some (0, s0_1, s0_2)) else (if a1 ≤ 256 then ((spec_l1Byte.f s0_0 s0_1 s0_2).bind fun bt101 => (if a1 = 0 then (none) else (some (Int.tmod bt101.1 a1, bt101.2.1, bt101.2.2)))) else ((spec_l1Byte.f s0_0 s0_1 s0_2).bind fun bt104 => ((spec_l1Byte.f s0_0 bt104.2.1 bt104.2.2).bind fun bt107 => ((spec_l1Byte.f s0_0 bt107.2.1 bt107.2.2).bind fun bt110 => ((spec_l1Byte.f s0_0 bt110.2.1 bt110.2.2).bind fun bt113 => (if a1 = 0 then (none) else (some (Int.tmod (wrap64 ((wrap64 ((wrap64 ((wrap64 (bt104.1 * 16777216)) + (wrap64 (bt107.1 * 65536)))) + (wrap64 (bt110.1 * 256)))) + bt113.1)) a1, bt113.2.1, bt113.2.2))))))))
theorem spec_l1Below.calls (g : Nat) (s0_0 : List Int) (s0_1 : Int) (s0_2 : Int) (a1 : Int) (r1 : Int) (r2 : Int) (r3 : Int) (w0 w : World) (hI : IsS47 w0 w g s0_0 s0_1 s0_2) (hB : Below w0.heap.size w0 w) (h : spec_l1Below.f s0_0 s0_1 s0_2 a1 = some (r1, r2, r3)) :
 Calls Tryd.prog 15 #[.pointer (some ⟨g, 0, none⟩), .int .i64 a1] w fun e w' => e = .returned (.int .i64 r1) ∧ IsS47 w0 w' g s0_0 r2 r3 ∧ Below w0.heap.size w0 w' ∧ KeepBut w w' g none := by
 have HI0 := Ak hI
 have HK := Ak (KeepBut.refl w g none)
 have HL := Ak hB.size
 clear hI
 have HW0 := Ak hB.size
 have HB := Ak hB
 clear hB
 have H : (if a1 ≤ 0 then (some (0, s0_1, s0_2)) else (if a1 ≤ 256 then ((spec_l1Byte.f s0_0 s0_1 s0_2).bind fun bt101 => (if a1 = 0 then (none) else (some (Int.tmod bt101.1 a1, bt101.2.1, bt101.2.2)))) else ((spec_l1Byte.f s0_0 s0_1 s0_2).bind fun bt104 => ((spec_l1Byte.f s0_0 bt104.2.1 bt104.2.2).bind fun bt107 => ((spec_l1Byte.f s0_0 bt107.2.1 bt107.2.2).bind fun bt110 => ((spec_l1Byte.f s0_0 bt110.2.1 bt110.2.2).bind fun bt113 => (if a1 = 0 then (none) else (some (Int.tmod (wrap64 ((wrap64 ((wrap64 ((wrap64 (bt104.1 * 16777216)) + (wrap64 (bt107.1 * 65536)))) + (wrap64 (bt110.1 * 256)))) + bt113.1)) a1, bt113.2.1, bt113.2.2))))))))) = some (r1, r2, r3) := h
 clear h
 by_cases c3 : a1 ≤ 0
 ·rw [if_pos c3] at H
  have c3b0 : decide (a1 ≤ 0) = true := decide_eq_true c3
  clear c3
  simp only [Option.some.injEq, Prod.mk.injEq] at H
  obtain ⟨rfl, rfl, rfl⟩ := H
  go_enter Tryd.func15, Tryd.ntmps15
  go_wp2
  go_ret
  exact ⟨by first | rfl | (simp [*] <;> rfl), HI0.out, by repeat (first | exact HB.out | apply below_alloc | apply pw_below_drewN | apply below_drew1 | refine below_set ?_ (IsS47.ge HI0.out)), HK.out⟩
 ·rw [if_neg c3] at H
  have c3b0 : decide (a1 ≤ 0) = false := decide_eq_false c3
  clear c3
  by_cases c4 : a1 ≤ 256
  ·rw [if_pos c4] at H
   have c4b0 : decide (a1 ≤ 256) = true := decide_eq_true c4
   clear c4
   replace H := Ob H
   obtain ⟨⟨t101, t102, t103⟩, A50, H⟩ := H
   replace H : (if a1 = 0 then (none) else (some (Int.tmod t101 a1, t102, t103))) = some (r1, r2, r3) := H
   have A5 := Ak A50
   clear A50
   by_cases c6 : a1 = 0
   ·rw [if_pos c6] at H
    exact absurd H (by simp)
   ·rw [if_neg c6] at H
    have c6b0 : (a1 == 0) = false := beq_eq_false_iff_ne.mpr c6
    have c6b1 : (a1 != 0) = true := bne_iff_ne.mpr c6
    simp only [Option.some.injEq, Prod.mk.injEq] at H
    obtain ⟨rfl, rfl, rfl⟩ := H
    go_enter Tryd.func15, Tryd.ntmps15
    go_wp2_with (first | ((with_reducible refine gate_callee (f := 25) rfl ?_); refine goesL_ (some 14) rfl rfl Tryd.func25 (by kernel_rfl) rfl #[.pointer (some ⟨g, 0, none⟩)] rfl (by (try simp only [List.map_toArray, List.map_cons, List.map_nil]); first | done | rfl | (simp only [List.length_drop, List.length_take]; rfl)) ?_; (with_reducible refine (spec_l1Byte.calls g s0_0 s0_1 s0_2 t101 t102 t103 w0 _ ?side1 ?side2 A5.out).mono ?_); (case side1 => repeat (first | (with_reducible first | exact HI0.out | apply IsS47.alloc | apply IsS47.drewN | apply IsS47.drew | apply IsS47.set_1 | apply IsS47.set_2) | exact HI0.out)); (case side2 => repeat (first | (with_reducible first | exact HB.out | apply below_alloc | apply pw_below_drewN | apply below_drew1 | refine below_set ?_ (IsS47.ge HI0.out)) | exact HB.out)); rintro e w7 ⟨rfl, hi, hb, hk⟩; refine ⟨_, rfl, ?_⟩; have n0_ := Ak (KeepBut.trans (HK.out) hk (.inl rfl)); have n1_ := Ak (hb); have n2_ := Ak (hi); clear HK; clear HB; clear HI0; have HK := n0_; have HB := n1_; have HI0 := n2_; clear n0_ n1_ n2_; (try clear hb)))
    go_ret
    exact ⟨by first | rfl | (simp [*] <;> rfl), HI0.out, by repeat (first | exact HB.out | apply below_alloc | apply pw_below_drewN | apply below_drew1 | refine below_set ?_ (IsS47.ge HI0.out)), HK.out⟩
  ·rw [if_neg c4] at H
   have c4b0 : decide (a1 ≤ 256) = false := decide_eq_false c4
   clear c4
   replace H := Ob H
   obtain ⟨⟨t104, t105, t106⟩, A80, H⟩ := H
   replace H : ((spec_l1Byte.f s0_0 t105 t106).bind fun bt107 => ((spec_l1Byte.f s0_0 bt107.2.1 bt107.2.2).bind fun bt110 => ((spec_l1Byte.f s0_0 bt110.2.1 bt110.2.2).bind fun bt113 => (if a1 = 0 then (none) else (some (Int.tmod (wrap64 ((wrap64 ((wrap64 ((wrap64 (t104 * 16777216)) + (wrap64 (bt107.1 * 65536)))) + (wrap64 (bt110.1 * 256)))) + bt113.1)) a1, bt113.2.1, bt113.2.2)))))) = some (r1, r2, r3) := H
   have A8 := Ak A80
   clear A80
   replace H := Ob H
   obtain ⟨⟨t107, t108, t109⟩, A90, H⟩ := H
   replace H : ((spec_l1Byte.f s0_0 t108 t109).bind fun bt110 => ((spec_l1Byte.f s0_0 bt110.2.1 bt110.2.2).bind fun bt113 => (if a1 = 0 then (none) else (some (Int.tmod (wrap64 ((wrap64 ((wrap64 ((wrap64 (t104 * 16777216)) + (wrap64 (t107 * 65536)))) + (wrap64 (bt110.1 * 256)))) + bt113.1)) a1, bt113.2.1, bt113.2.2))))) = some (r1, r2, r3) := H
   have A9 := Ak A90
   clear A90
   replace H := Ob H
   obtain ⟨⟨t110, t111, t112⟩, A100, H⟩ := H
   replace H : ((spec_l1Byte.f s0_0 t111 t112).bind fun bt113 => (if a1 = 0 then (none) else (some (Int.tmod (wrap64 ((wrap64 ((wrap64 ((wrap64 (t104 * 16777216)) + (wrap64 (t107 * 65536)))) + (wrap64 (t110 * 256)))) + bt113.1)) a1, bt113.2.1, bt113.2.2)))) = some (r1, r2, r3) := H
   have A10 := Ak A100
   clear A100
   replace H := Ob H
   obtain ⟨⟨t113, t114, t115⟩, A110, H⟩ := H
   replace H : (if a1 = 0 then (none) else (some (Int.tmod (wrap64 ((wrap64 ((wrap64 ((wrap64 (t104 * 16777216)) + (wrap64 (t107 * 65536)))) + (wrap64 (t110 * 256)))) + t113)) a1, t114, t115))) = some (r1, r2, r3) := H
   have A11 := Ak A110
   clear A110
   by_cases c12 : a1 = 0
   ·rw [if_pos c12] at H
    exact absurd H (by simp)
   ·rw [if_neg c12] at H
    have c12b0 : (a1 == 0) = false := beq_eq_false_iff_ne.mpr c12
    have c12b1 : (a1 != 0) = true := bne_iff_ne.mpr c12
    simp only [Option.some.injEq, Prod.mk.injEq] at H
    obtain ⟨rfl, rfl, rfl⟩ := H
    go_enter Tryd.func15, Tryd.ntmps15
    go_wp2_with (first | ((with_reducible refine gate_callee (f := 25) rfl ?_); refine goesL_ (some 18) rfl rfl Tryd.func25 (by kernel_rfl) rfl #[.pointer (some ⟨g, 0, none⟩)] rfl (by (try simp only [List.map_toArray, List.map_cons, List.map_nil]); first | done | rfl | (simp only [List.length_drop, List.length_take]; rfl)) ?_; (with_reducible refine (spec_l1Byte.calls g s0_0 s0_1 s0_2 t104 t105 t106 w0 _ ?side1 ?side2 A8.out).mono ?_); (case side1 => repeat (first | (with_reducible first | exact HI0.out | apply IsS47.alloc | apply IsS47.drewN | apply IsS47.drew | apply IsS47.set_1 | apply IsS47.set_2) | exact HI0.out)); (case side2 => repeat (first | (with_reducible first | exact HB.out | apply below_alloc | apply pw_below_drewN | apply below_drew1 | refine below_set ?_ (IsS47.ge HI0.out)) | exact HB.out)); rintro e w13 ⟨rfl, hi, hb, hk⟩; refine ⟨_, rfl, ?_⟩; have n0_ := Ak (KeepBut.trans (HK.out) hk (.inl rfl)); have n1_ := Ak (hb); have n2_ := Ak (hi); clear HK; clear HB; clear HI0; have HK := n0_; have HB := n1_; have HI0 := n2_; clear n0_ n1_ n2_; (try clear hb)) | ((with_reducible refine gate_callee (f := 25) rfl ?_); refine goesL_ (some 20) rfl rfl Tryd.func25 (by kernel_rfl) rfl #[.pointer (some ⟨g, 0, none⟩)] rfl (by (try simp only [List.map_toArray, List.map_cons, List.map_nil]); first | done | rfl | (simp only [List.length_drop, List.length_take]; rfl)) ?_; (with_reducible refine (spec_l1Byte.calls g s0_0 t105 t106 t107 t108 t109 w0 _ ?side1 ?side2 A9.out).mono ?_); (case side1 => repeat (first | (with_reducible first | exact HI0.out | apply IsS47.alloc | apply IsS47.drewN | apply IsS47.drew | apply IsS47.set_1 | apply IsS47.set_2) | exact HI0.out)); (case side2 => repeat (first | (with_reducible first | exact HB.out | apply below_alloc | apply pw_below_drewN | apply below_drew1 | refine below_set ?_ (IsS47.ge HI0.out)) | exact HB.out)); rintro e w14 ⟨rfl, hi, hb, hk⟩; refine ⟨_, rfl, ?_⟩; have n0_ := Ak (KeepBut.trans (HK.out) hk (.inl rfl)); have n1_ := Ak (hb); have n2_ := Ak (hi); clear HK; clear HB; clear HI0; have HK := n0_; have HB := n1_; have HI0 := n2_; clear n0_ n1_ n2_; (try clear hb)) | ((with_reducible refine gate_callee (f := 25) rfl ?_); refine goesL_ (some 22) rfl rfl Tryd.func25 (by kernel_rfl) rfl #[.pointer (some ⟨g, 0, none⟩)] rfl (by (try simp only [List.map_toArray, List.map_cons, List.map_nil]); first | done | rfl | (simp only [List.length_drop, List.length_take]; rfl)) ?_; (with_reducible refine (spec_l1Byte.calls g s0_0 t108 t109 t110 t111 t112 w0 _ ?side1 ?side2 A10.out).mono ?_); (case side1 => repeat (first | (with_reducible first | exact HI0.out | apply IsS47.alloc | apply IsS47.drewN | apply IsS47.drew | apply IsS47.set_1 | apply IsS47.set_2) | exact HI0.out)); (case side2 => repeat (first | (with_reducible first | exact HB.out | apply below_alloc | apply pw_below_drewN | apply below_drew1 | refine below_set ?_ (IsS47.ge HI0.out)) | exact HB.out)); rintro e w15 ⟨rfl, hi, hb, hk⟩; refine ⟨_, rfl, ?_⟩; have n0_ := Ak (KeepBut.trans (HK.out) hk (.inl rfl)); have n1_ := Ak (hb); have n2_ := Ak (hi); clear HK; clear HB; clear HI0; have HK := n0_; have HB := n1_; have HI0 := n2_; clear n0_ n1_ n2_; (try clear hb)) | ((with_reducible refine gate_callee (f := 25) rfl ?_); refine goesL_ (some 24) rfl rfl Tryd.func25 (by kernel_rfl) rfl #[.pointer (some ⟨g, 0, none⟩)] rfl (by (try simp only [List.map_toArray, List.map_cons, List.map_nil]); first | done | rfl | (simp only [List.length_drop, List.length_take]; rfl)) ?_; (with_reducible refine (spec_l1Byte.calls g s0_0 t111 t112 t113 t114 t115 w0 _ ?side1 ?side2 A11.out).mono ?_); (case side1 => repeat (first | (with_reducible first | exact HI0.out | apply IsS47.alloc | apply IsS47.drewN | apply IsS47.drew | apply IsS47.set_1 | apply IsS47.set_2) | exact HI0.out)); (case side2 => repeat (first | (with_reducible first | exact HB.out | apply below_alloc | apply pw_below_drewN | apply below_drew1 | refine below_set ?_ (IsS47.ge HI0.out)) | exact HB.out)); rintro e w16 ⟨rfl, hi, hb, hk⟩; refine ⟨_, rfl, ?_⟩; have n0_ := Ak (KeepBut.trans (HK.out) hk (.inl rfl)); have n1_ := Ak (hb); have n2_ := Ak (hi); clear HK; clear HB; clear HI0; have HK := n0_; have HB := n1_; have HI0 := n2_; clear n0_ n1_ n2_; (try clear hb)))
    go_ret
    exact ⟨by first | rfl | (simp [*] <;> rfl), HI0.out, by repeat (first | exact HB.out | apply below_alloc | apply pw_below_drewN | apply below_drew1 | refine below_set ?_ (IsS47.ge HI0.out)), HK.out⟩
def spec_l1Pick.f (s0_0 : List Int) (s0_1 : Int) (s0_2 : Int) (l1 : List ByteArray) : Option (ByteArray × Int × Int) := (spec_l1Below.f s0_0 s0_1 s0_2 (l1.length : Int)).bind fun bt101 => (if 0 ≤ bt101.1 then (if bt101.1 < (l1.length : Int) then (some (rdOf ByteArray.empty l1 bt101.1, bt101.2.1, bt101.2.2)) else (none)) else (none))
theorem spec_l1Pick.calls (g : Nat) (s0_0 : List Int) (s0_1 : Int) (s0_2 : Int) (A1 : Option Addr) (c1 : Nat) (l1 : List ByteArray) (r1 : ByteArray) (r2 : Int) (r3 : Int) (w0 w : World) (hI : IsS47 w0 w g s0_0 s0_1 s0_2) (hB : Below w0.heap.size w0 w) (hr1 : Kd.C Kd.string w A1 l1.length l1) (hc1 : l1.length ≤ c1) (hf1 : ∀ ad, A1 = some ad → 0 < l1.length → ad.block ≠ g) (h : spec_l1Pick.f s0_0 s0_1 s0_2 l1 = some (r1, r2, r3)) :
 Calls Tryd.prog 16 #[.pointer (some ⟨g, 0, none⟩), .slice A1 l1.length c1] w fun e w' => e = .returned (.string r1) ∧ IsS47 w0 w' g s0_0 r2 r3 ∧ Below w0.heap.size w0 w' ∧ KeepBut w w' g none := by
 have HR1 := Ak hr1
 have HC1 := Ak hc1
 clear hr1 hc1
 have HI0 := Ak hI
 have HK := Ak (KeepBut.refl w g none)
 have HL := Ak hB.size
 clear hI
 have HW0 := Ak hB.size
 have HB := Ak hB
 clear hB
 have H : ((spec_l1Below.f s0_0 s0_1 s0_2 (l1.length : Int)).bind fun bt101 => (if 0 ≤ bt101.1 then (if bt101.1 < (l1.length : Int) then (some (rdOf ByteArray.empty l1 bt101.1, bt101.2.1, bt101.2.2)) else (none)) else (none))) = some (r1, r2, r3) := h
 clear h
 replace H := Ob H
 obtain ⟨⟨t101, t102, t103⟩, A30, H⟩ := H
 replace H : (if 0 ≤ t101 then (if t101 < (l1.length : Int) then (some (rdOf ByteArray.empty l1 t101, t102, t103)) else (none)) else (none)) = some (r1, r2, r3) := H
 have A3 := Ak A30
 clear A30
 by_cases c4 : 0 ≤ t101
 ·rw [if_pos c4] at H
  have c4b0 : decide (0 ≤ t101) = true := decide_eq_true c4
  clear c4
  by_cases c5 : t101 < (l1.length : Int)
  ·rw [if_pos c5] at H
   have c5b0 : decide (t101 < (l1.length : Int)) = true := decide_eq_true c5
   clear c5
   simp only [Option.some.injEq, Prod.mk.injEq] at H
   obtain ⟨rfl, rfl, rfl⟩ := H
   go_enter Tryd.func16, Tryd.ntmps16
   go_wp2_with (first | ((with_reducible refine gate_callee (f := 15) rfl ?_); refine goesL_ (some 9) rfl rfl Tryd.func15 (by kernel_rfl) rfl #[.pointer (some ⟨g, 0, none⟩), .int .i64 (l1.length : Int)] rfl (by (try simp only [List.map_toArray, List.map_cons, List.map_nil]); first | done | rfl | (simp only [List.length_drop, List.length_take]; rfl)) ?_; (with_reducible refine (spec_l1Below.calls g s0_0 s0_1 s0_2 (l1.length : Int) t101 t102 t103 w0 _ ?side1 ?side2 A3.out).mono ?_); (case side1 => repeat (first | (with_reducible first | exact HI0.out | apply IsS47.alloc | apply IsS47.drewN | apply IsS47.drew | apply IsS47.set_1 | apply IsS47.set_2) | exact HI0.out)); (case side2 => repeat (first | (with_reducible first | exact HB.out | apply below_alloc | apply pw_below_drewN | apply below_drew1 | refine below_set ?_ (IsS47.ge HI0.out)) | exact HB.out)); rintro e w6 ⟨rfl, hi, hb, hk⟩; refine ⟨_, rfl, ?_⟩; have n0_ := Ak (KeepBut.trans (HK.out) hk (.inl rfl)); have n1_ := Ak (hb); have n2_ := Ak (hi); clear HK; clear HB; clear HI0; have HK := n0_; have HB := n1_; have HI0 := n2_; clear n0_ n1_ n2_; (try clear hb); (try clear hb2); (try clear hk); (try clear hi); have p104 : 0 ≤ (t101 : Int) := of_decide_eq_true (by assumption); have q104 : t101 < (l1.length : Int) := of_decide_eq_true (by assumption); obtain ⟨ad104, e104, hx104_0⟩ := Kd.at_string HR1.out t101 p104 q104; cases e104; replace hx104_0 := keep_cell HK.out hx104_0 (by first | (rw [add_block]; exact hf1 _ rfl (by omega)) | exact hf1 _ rfl (by omega) | exact hf1 ad104 rfl (by omega)); replace p104 := eq_true p104; replace q104 := eq_true q104))
   go_ret
   exact ⟨by first | rfl | (simp [*] <;> rfl), HI0.out, by repeat (first | exact HB.out | apply below_alloc | apply pw_below_drewN | apply below_drew1 | refine below_set ?_ (IsS47.ge HI0.out)), HK.out⟩
  ·rw [if_neg c5] at H
   exact absurd H (by simp)
 ·rw [if_neg c4] at H
  exact absurd H (by simp)
def spec_l1Once.f (s0_0 : List Int) (s0_1 : Int) (s0_2 : Int) (a1 : Int) : Option (Bool × Int × Int) := (spec_l1Below.f s0_0 s0_1 s0_2 a1).bind fun bt101 => (some ((bt101.1 == 0), bt101.2.1, bt101.2.2))
theorem spec_l1Once.calls (g : Nat) (s0_0 : List Int) (s0_1 : Int) (s0_2 : Int) (a1 : Int) (r1 : Bool) (r2 : Int) (r3 : Int) (w0 w : World) (hI : IsS47 w0 w g s0_0 s0_1 s0_2) (hB : Below w0.heap.size w0 w) (h : spec_l1Once.f s0_0 s0_1 s0_2 a1 = some (r1, r2, r3)) :
 Calls Tryd.prog 17 #[.pointer (some ⟨g, 0, none⟩), .int .i64 a1] w fun e w' => e = .returned (.bool r1) ∧ IsS47 w0 w' g s0_0 r2 r3 ∧ Below w0.heap.size w0 w' ∧ KeepBut w w' g none := by
 have HI0 := Ak hI
 have HK := Ak (KeepBut.refl w g none)
 have HL := Ak hB.size
 clear hI
 have HW0 := Ak hB.size
 have HB := Ak hB
 clear hB
 have H : ((spec_l1Below.f s0_0 s0_1 s0_2 a1).bind fun bt101 => (some ((bt101.1 == 0), bt101.2.1, bt101.2.2))) = some (r1, r2, r3) := h
 clear h
 replace H := Ob H
 obtain ⟨⟨t101, t102, t103⟩, A30, H⟩ := H
 replace H : (some ((t101 == 0), t102, t103)) = some (r1, r2, r3) := H
 have A3 := Ak A30
 clear A30
 simp only [Option.some.injEq, Prod.mk.injEq] at H
 obtain ⟨rfl, rfl, rfl⟩ := H
 go_enter Tryd.func17, Tryd.ntmps17
 go_wp2_with (first | ((with_reducible refine gate_callee (f := 15) rfl ?_); refine goesL_ (some 7) rfl rfl Tryd.func15 (by kernel_rfl) rfl #[.pointer (some ⟨g, 0, none⟩), .int .i64 a1] rfl (by (try simp only [List.map_toArray, List.map_cons, List.map_nil]); first | done | rfl | (simp only [List.length_drop, List.length_take]; rfl)) ?_; (with_reducible refine (spec_l1Below.calls g s0_0 s0_1 s0_2 a1 t101 t102 t103 w0 _ ?side1 ?side2 A3.out).mono ?_); (case side1 => repeat (first | (with_reducible first | exact HI0.out | apply IsS47.alloc | apply IsS47.drewN | apply IsS47.drew | apply IsS47.set_1 | apply IsS47.set_2) | exact HI0.out)); (case side2 => repeat (first | (with_reducible first | exact HB.out | apply below_alloc | apply pw_below_drewN | apply below_drew1 | refine below_set ?_ (IsS47.ge HI0.out)) | exact HB.out)); rintro e w4 ⟨rfl, hi, hb, hk⟩; refine ⟨_, rfl, ?_⟩; have n0_ := Ak (KeepBut.trans (HK.out) hk (.inl rfl)); have n1_ := Ak (hb); have n2_ := Ak (hi); clear HK; clear HB; clear HI0; have HK := n0_; have HB := n1_; have HI0 := n2_; clear n0_ n1_ n2_; (try clear hb); (try clear hb2); (try clear hk); (try clear hi)))
 go_ret
 exact ⟨by first | rfl | (simp [*] <;> rfl), HI0.out, by repeat (first | exact HB.out | apply below_alloc | apply pw_below_drewN | apply below_drew1 | refine below_set ?_ (IsS47.ge HI0.out)), HK.out⟩
def spec_DrawEscape.l0 : Nat → ByteArray → Int → List Int → Int → Int → Option (ByteArray × Bool)
 | 0, _, _, _, _, _ => none
 | k + 1, x5, x6, x105000, x105001, x105002 => (spec_l1Below.f x105000 x105001 x105002 9).bind fun bt105 => (if x6 < bt105.1 then ((spec_l1Pick.f x105000 bt105.2.1 bt105.2.2 (([(⟨#[38]⟩ : ByteArray), (⟨#[60]⟩ : ByteArray), (⟨#[62]⟩ : ByteArray), (⟨#[34]⟩ : ByteArray), (⟨#[194, 160]⟩ : ByteArray), (⟨#[97]⟩ : ByteArray), (⟨#[194]⟩ : ByteArray), (⟨#[160]⟩ : ByteArray), (⟨#[38, 97, 109, 112, 59]⟩ : ByteArray)] : List ByteArray))).bind fun bt111 => (if x5.size + bt111.1.size ≤ 9223372036854775807 then (spec_DrawEscape.l0 k (x5 ++ bt111.1) (wrap64 (x6 + 1)) x105000 bt111.2.1 bt111.2.2) else (none))) else ((spec_l1Once.f x105000 bt105.2.1 bt105.2.2 2).bind fun bt114 => (some (x5, bt114.1))))
def spec_DrawEscape.f (k : Nat) (l0 : List Int) : Option (ByteArray × Bool) := (spec_l1New.f k l0).bind fun bt101 => (spec_DrawEscape.l0 k (⟨#[]⟩ : ByteArray) 0 bt101.1 bt101.2.1 bt101.2.2)
theorem spec_DrawEscape.mono_l : ∀ k, (∀ y0 y1 y2 y3 y4, LeO (spec_DrawEscape.l0 k y0 y1 y2 y3 y4) (spec_DrawEscape.l0 (k + 1) y0 y1 y2 y3 y4))
 | 0 => fun _ _ _ _ _ r h => by simp [spec_DrawEscape.l0] at h
 | k + 1 => by
  have ih0 := spec_DrawEscape.mono_l k
  ·intro y0 y1 y2 y3 y4
   unfold spec_DrawEscape.l0
   repeat' first
   | (with_reducible exact ih0 _ _ _ _ _)
   | (with_reducible exact spec_l1New.mono _ _)
   | (with_reducible exact LeO.refl _)
   | (with_reducible exact LeO.none _)
   | (with_reducible refine LeO.ite ?_ ?_)
   | (with_reducible refine LeO.bind ?_ (fun _ => ?_))
   | exact ih0 _ _ _ _ _
   | exact spec_l1New.mono _ _
   | exact LeO.none _
   | refine LeO.ite ?_ ?_
   | refine LeO.bind ?_ (fun _ => ?_)
theorem spec_DrawEscape.mono : ∀ a0 k, LeO (spec_DrawEscape.f k a0) (spec_DrawEscape.f (k + 1) a0) := by
 intro a0 k
 have ih0 := spec_DrawEscape.mono_l k
 unfold spec_DrawEscape.f
 repeat' first
  | (with_reducible exact ih0 _ _ _ _ _)
  | (with_reducible exact spec_l1New.mono _ _)
  | (with_reducible exact LeO.refl _)
  | (with_reducible exact LeO.none _)
  | (with_reducible refine LeO.ite ?_ ?_)
  | (with_reducible refine LeO.bind ?_ (fun _ => ?_))
  | exact ih0 _ _ _ _ _
  | exact spec_l1New.mono _ _
  | exact LeO.none _
  | refine LeO.ite ?_ ?_
  | refine LeO.bind ?_ (fun _ => ?_)
theorem spec_DrawEscape.calls (k : Nat) (A0 : Option Addr) (c0 : Nat) (l0 : List Int) (r1 : ByteArray) (r2 : Bool) (w : World) (hr0 : Kd.C (Kd.int .u8) w A0 l0.length l0) (hc0 : l0.length ≤ c0) (h : spec_DrawEscape.f k l0 = some (r1, r2)) :
 Calls Tryd.prog 8 #[.slice A0 l0.length c0] w fun e w' => e = .returned (.tuple #[.string r1, .bool r2]) ∧ Below w.heap.size w w' := by
 have HR0 := Ak hr0
 have HC0 := Ak hc0
 clear hr0 hc0
 have HB := Ak (Below.refl w.heap.size w)
 have H : ((spec_l1New.f k l0).bind fun bt101 => (spec_DrawEscape.l0 k (⟨#[]⟩ : ByteArray) 0 bt101.1 bt101.2.1 bt101.2.2)) = some (r1, r2) := h
 clear h
 replace H := Ob H
 obtain ⟨⟨t101, t102, t103⟩, A20, H⟩ := H
 replace H : (spec_DrawEscape.l0 k (⟨#[]⟩ : ByteArray) 0 t101 t102 t103) = some (r1, r2) := H
 have A2 := Ak A20
 clear A20
 have H' := Ak H
 clear H
 go_enter Tryd.func8, Tryd.ntmps8
 go_wp2_with (first | ((with_reducible refine gate_callee (f := 14) rfl ?_); refine goesL_ (some 8) rfl rfl Tryd.func14 (by kernel_rfl) rfl #[.slice A0 l0.length c0] rfl (by (try simp only [List.map_toArray, List.map_cons, List.map_nil]); first | done | rfl | (simp only [List.length_drop, List.length_take]; rfl)) ?_; (with_reducible refine (spec_l1New.calls k _ _ l0 t101 t102 t103 w _ ?side1 ?side2 ?side3 A2.out).mono ?_); (case side1 => repeat (first | (with_reducible first | exact HB.out | apply below_alloc | apply pw_below_drewN | apply below_drew1) | exact HB.out)); (case side2 => exact HR0.out); (case side3 => exact HC0.out); rintro e w3 ⟨g104, rfl, hi, hb, hb2⟩; refine ⟨_, rfl, ?_⟩; have n0_ := Ak (hb); have n1_ := Ak (hi); clear HB; have HB := n0_; have HI104 := n1_; clear n0_ n1_; (try clear hb); (try clear hb2); (try clear hk); (try clear hi)))
 go_loopg [5, 6] k (fun kq v5 v6 w' => ∃ (x5_1 : ByteArray) (x6_1 : Int) (x105001_1 : Int) (x105002_1 : Int), v5 = .string x5_1 ∧ v6 = .int .i64 x6_1 ∧ Aside0 (spec_DrawEscape.l0 kq x5_1 x6_1 t101 x105001_1 x105002_1 = some (r1, r2)) ∧ Aside0 (kq ≤ k) ∧ Aside0 (IsS47 w w' g104 t101 x105001_1 x105002_1) ∧ Aside0 (Below w.heap.size w w'))
 case atStart => exact ⟨((⟨#[]⟩ : ByteArray)), (0), (t102), (t103), (by first | rfl | (simp; done) | (simp [*]; done)), (by first | rfl | (simp; done) | (simp [*]; done)), H', ⟨Nat.le_refl _⟩, ⟨by repeat (first | exact HI104.out | apply IsS47.alloc | apply IsS47.drewN | apply IsS47.drew | apply IsS47.set_1 | apply IsS47.set_2)⟩, ⟨by repeat (first | exact HB.out | apply below_alloc | apply pw_below_drewN | apply below_drew1 | refine below_set ?_ (IsS47.ge HI104.out))⟩⟩
 case round =>
  clear H'
  try clear c1
  try clear p2
  obtain ⟨x5_1, x6_1, x105001_1, x105002_1, rfl, rfl, HA, HK1, HI104, HB⟩ := hrel
  cases gk with
  | zero => exact absurd HA.out (by simp [spec_DrawEscape.l0])
  | succ k1 =>
   have H := HA.out
   clear HA
   simp only [spec_DrawEscape.l0] at H
   replace H := Ob H
   obtain ⟨⟨t105, t106, t107⟩, A40, H⟩ := H
   replace H : (if x6_1 < t105 then ((spec_l1Pick.f t101 t106 t107 (([(⟨#[38]⟩ : ByteArray), (⟨#[60]⟩ : ByteArray), (⟨#[62]⟩ : ByteArray), (⟨#[34]⟩ : ByteArray), (⟨#[194, 160]⟩ : ByteArray), (⟨#[97]⟩ : ByteArray), (⟨#[194]⟩ : ByteArray), (⟨#[160]⟩ : ByteArray), (⟨#[38, 97, 109, 112, 59]⟩ : ByteArray)] : List ByteArray))).bind fun bt111 => (if x5_1.size + bt111.1.size ≤ 9223372036854775807 then (spec_DrawEscape.l0 k1 (x5_1 ++ bt111.1) (wrap64 (x6_1 + 1)) t101 bt111.2.1 bt111.2.2) else (none))) else ((spec_l1Once.f t101 t106 t107 2).bind fun bt114 => (some (x5_1, bt114.1)))) = some (r1, r2) := H
   have A4 := Ak A40
   clear A40
   by_cases c5 : x6_1 < t105
   ·rw [if_pos c5] at H
    have c5b0 : decide (x6_1 < t105) = true := decide_eq_true c5
    clear c5
    obtain ⟨y108, hy108⟩ : ∃ y_ : List ByteArray, y_ = (([(⟨#[38]⟩ : ByteArray), (⟨#[60]⟩ : ByteArray), (⟨#[62]⟩ : ByteArray), (⟨#[34]⟩ : ByteArray), (⟨#[194, 160]⟩ : ByteArray), (⟨#[97]⟩ : ByteArray), (⟨#[194]⟩ : ByteArray), (⟨#[160]⟩ : ByteArray), (⟨#[38, 97, 109, 112, 59]⟩ : ByteArray)] : List ByteArray)) := ⟨_, rfl⟩
    replace H : ((spec_l1Pick.f t101 t106 t107 y108).bind fun bt111 => (if x5_1.size + bt111.1.size ≤ 9223372036854775807 then (spec_DrawEscape.l0 k1 (x5_1 ++ bt111.1) (wrap64 (x6_1 + 1)) t101 bt111.2.1 bt111.2.2) else (none))) = some (r1, r2) := by first | (rw [hy108]; with_reducible exact H) | (have H2_ := (Option.bind_some _ _).symm.trans H; rw [hy108]; with_reducible exact H2_) | (have H2_ := (Option.bind_some _ _).symm.trans H; with_reducible exact H2_) | with_reducible exact H | (rw [hy108]; exact H) | exact H
    have Ny108 := Ak hy108
    clear hy108
    replace H := Ob H
    obtain ⟨⟨t111, t112, t113⟩, A60, H⟩ := H
    replace H : (if x5_1.size + t111.size ≤ 9223372036854775807 then (spec_DrawEscape.l0 k1 (x5_1 ++ t111) (wrap64 (x6_1 + 1)) t101 t112 t113) else (none)) = some (r1, r2) := H
    have A6 := Ak A60
    clear A60
    by_cases c7 : x5_1.size + t111.size ≤ 9223372036854775807
    ·rw [if_pos c7] at H
     have c7b0 := eq_true c7
     have c7b1 : decide (x5_1.size + t111.size ≤ 9223372036854775807) = true := decide_eq_true c7
     try have c7b2 : (9223372036854775807 < x5_1.size + t111.size) = False := eq_false (Nat.not_lt.2 c7)
     have H' := Ak H
     clear H
     go_wp2_with (first | ((with_reducible refine gate_callee (f := 15) rfl ?_); refine goesL_ (some 11) rfl rfl Tryd.func15 (by kernel_rfl) rfl #[.pointer (some ⟨g104, 0, none⟩), .int .i64 9] rfl (by (try simp only [List.map_toArray, List.map_cons, List.map_nil]); first | done | rfl | (simp only [List.length_drop, List.length_take]; rfl)) ?_; (with_reducible refine (spec_l1Below.calls g104 t101 x105001_1 x105002_1 9 t105 t106 t107 w _ ?side1 ?side2 A4.out).mono ?_); (case side1 => repeat (first | (with_reducible first | exact HI104.out | apply IsS47.alloc | apply IsS47.drewN | apply IsS47.drew | apply IsS47.set_1 | apply IsS47.set_2) | exact HI104.out)); (case side2 => repeat (first | (with_reducible first | exact HB.out | apply below_alloc | apply pw_below_drewN | apply below_drew1 | refine below_set ?_ (IsS47.ge HI104.out)) | exact HB.out)); rintro e w8 ⟨rfl, hi, hb, hk⟩; refine ⟨_, rfl, ?_⟩; have n0_ := Ak (hb); have n1_ := Ak (hi); clear HB; clear HI104; have HB := n0_; have HI104 := n1_; clear n0_ n1_; (try clear hb); (try clear hb2); (try clear hk); (try clear hi)) | ((with_reducible refine gate_dst (N := 17) rfl ?_); refine Kd.R_lit Kd.string _ 9 ?hg (N := 17) ?hd (xs := ([(⟨#[38]⟩ : ByteArray), (⟨#[60]⟩ : ByteArray), (⟨#[62]⟩ : ByteArray), (⟨#[34]⟩ : ByteArray), (⟨#[194, 160]⟩ : ByteArray), (⟨#[97]⟩ : ByteArray), (⟨#[194]⟩ : ByteArray), (⟨#[160]⟩ : ByteArray), (⟨#[38, 97, 109, 112, 59]⟩ : ByteArray)] : List ByteArray)) (inner := [.string (⟨#[38]⟩ : ByteArray), .string (⟨#[60]⟩ : ByteArray), .string (⟨#[62]⟩ : ByteArray), .string (⟨#[34]⟩ : ByteArray), .string (⟨#[194, 160]⟩ : ByteArray), .string (⟨#[97]⟩ : ByteArray), .string (⟨#[194]⟩ : ByteArray), .string (⟨#[160]⟩ : ByteArray), .string (⟨#[38, 97, 109, 112, 59]⟩ : ByteArray)]) (ok := fun _ => True) (okp := fun _ => True) ?hr ?hp (fun _ hk => hk) trivial (Below.refl _ _) (Nat.le_refl _) (by simp) ?_; (case hd => rfl); (case hg => rfl); (case hr => first | (go_simp; done) | (go_simp; rfl)); (case hp => exact (Reps.one (show Kd.M Kd.string _ _ _ (⟨#[38]⟩ : ByteArray) [.string (⟨#[38]⟩ : ByteArray)] from rfl) (Reps.one (show Kd.M Kd.string _ _ _ (⟨#[60]⟩ : ByteArray) [.string (⟨#[60]⟩ : ByteArray)] from rfl) (Reps.one (show Kd.M Kd.string _ _ _ (⟨#[62]⟩ : ByteArray) [.string (⟨#[62]⟩ : ByteArray)] from rfl) (Reps.one (show Kd.M Kd.string _ _ _ (⟨#[34]⟩ : ByteArray) [.string (⟨#[34]⟩ : ByteArray)] from rfl) (Reps.one (show Kd.M Kd.string _ _ _ (⟨#[194, 160]⟩ : ByteArray) [.string (⟨#[194, 160]⟩ : ByteArray)] from rfl) (Reps.one (show Kd.M Kd.string _ _ _ (⟨#[97]⟩ : ByteArray) [.string (⟨#[97]⟩ : ByteArray)] from rfl) (Reps.one (show Kd.M Kd.string _ _ _ (⟨#[194]⟩ : ByteArray) [.string (⟨#[194]⟩ : ByteArray)] from rfl) (Reps.one (show Kd.M Kd.string _ _ _ (⟨#[160]⟩ : ByteArray) [.string (⟨#[160]⟩ : ByteArray)] from rfl) (Reps.one (show Kd.M Kd.string _ _ _ (⟨#[38, 97, 109, 112, 59]⟩ : ByteArray) [.string (⟨#[38, 97, 109, 112, 59]⟩ : ByteArray)] from rfl) (Reps.none _ _))))))))))); intro v109 w9 ho10 hb hg_ hnew_; clear hg_ hnew_; (first | rw [← Ny108.out] at ho10 | (simp only [Int.reduceToNat] at ho10; rw [← Ny108.out] at ho10)); have n0_ := Ak (Kd.R_lower ho10 (below_size (by repeat (first | exact HB.out | apply below_alloc | apply pw_below_drewN | apply below_drew1 | refine below_set ?_ (IsS47.ge HI104.out))))); have n1_ := Ak (IsS47.below (by repeat (first | exact HI104.out | apply IsS47.alloc | apply IsS47.drewN | apply IsS47.drew | apply IsS47.set_1 | apply IsS47.set_2)) hb); have n2_ := Ak (below_step (by repeat (first | exact HB.out | apply below_alloc | apply pw_below_drewN | apply below_drew1 | refine below_set ?_ (IsS47.ge HI104.out))) hb); clear HI104; clear HB; have HO110 := n0_; have HI104 := n1_; have HB := n2_; clear n0_ n1_ n2_; clear hb ho10; obtain ⟨Ao11, co11, eo11⟩ := Kd.R_slice HO110.out; subst eo11) | ((with_reducible refine gate_callee (f := 16) rfl ?_); refine goesL_ (some 18) rfl rfl Tryd.func16 (by kernel_rfl) rfl #[.pointer (some ⟨g104, 0, none⟩), .slice Ao11 y108.length co11] rfl (by (try simp only [List.map_toArray, List.map_cons, List.map_nil]); first | done | rfl | (simp only [List.length_drop, List.length_take]; rfl)) ?_; (with_reducible refine (spec_l1Pick.calls g104 t101 t106 t107 _ _ y108 t111 t112 t113 w _ ?side1 ?side2 ?side3 ?side4 ?side5 A6.out).mono ?_); (case side1 => repeat (first | (with_reducible first | exact HI104.out | apply IsS47.alloc | apply IsS47.drewN | apply IsS47.drew | apply IsS47.set_1 | apply IsS47.set_2) | exact HI104.out)); (case side2 => repeat (first | (with_reducible first | exact HB.out | apply below_alloc | apply pw_below_drewN | apply below_drew1 | refine below_set ?_ (IsS47.ge HI104.out)) | exact HB.out)); (case side3 => repeat (first | exact (Kd.R_reads' HO110.out).2.2 | (with_reducible refine Kd.C_alloc ?_ _) | (with_reducible refine Kd.C_drewN ?_ _) | (with_reducible refine Kd.C_drew ?_))); (case side4 => exact (Kd.R_reads' HO110.out).2.1); (case side5 => exact far_slice (IsS47.own_ne HI104.out HO110.out (by decide))); rintro e w12 ⟨rfl, hi, hb, hk⟩; refine ⟨_, rfl, ?_⟩; have n0_ := Ak (Kd.R_mono (Kd.R_keep (IsS47.apart (show IsS47 w _ g104 t101 t106 t107 from by repeat (first | exact HI104.out | apply IsS47.alloc | apply IsS47.drewN | apply IsS47.drew | apply IsS47.set_1 | apply IsS47.set_2)) (by (with_reducible repeat (first | apply Kd.R_alloc | apply Kd.R_drewN | apply Kd.R_drew)); exact HO110.out) (by decide)) hk (fun _ h => h.2)) (fun _ h => h.1)); have n1_ := Ak (hb); have n2_ := Ak (hi); clear HO110; clear HB; clear HI104; have HO110 := n0_; have HB := n1_; have HI104 := n2_; clear n0_ n1_ n2_; (try clear hb); (try clear hb2); (try clear hk); (try clear hi)))
     go_roundg k1
     case measure => have := HK1.out; omega
     case rel => exact ⟨(x5_1 ++ t111), (wrap64 (x6_1 + 1)), (t112), (t113), (by first | rfl | (simp; done) | (simp [*]; done)), (by first | rfl | (simp; done) | (simp [*]; done)), H', ⟨by have := HK1.out; omega⟩, ⟨by repeat (first | exact HI104.out | apply IsS47.alloc | apply IsS47.drewN | apply IsS47.drew | apply IsS47.set_1 | apply IsS47.set_2)⟩, ⟨by repeat (first | exact HB.out | apply below_alloc | apply pw_below_drewN | apply below_drew1 | refine below_set ?_ (IsS47.ge HI104.out))⟩⟩
    ·rw [if_neg c7] at H
     exact absurd H (by simp)
   ·rw [if_neg c5] at H
    have c5b0 : decide (x6_1 < t105) = false := decide_eq_false c5
    clear c5
    replace H := Ob H
    obtain ⟨⟨t114, t115, t116⟩, A130, H⟩ := H
    replace H : (some (x5_1, t114)) = some (r1, r2) := H
    have A13 := Ak A130
    clear A130
    simp only [Option.some.injEq, Prod.mk.injEq] at H
    obtain ⟨rfl, rfl⟩ := H
    go_wp2_with (first | ((with_reducible refine gate_callee (f := 15) rfl ?_); refine goesL_ (some 11) rfl rfl Tryd.func15 (by kernel_rfl) rfl #[.pointer (some ⟨g104, 0, none⟩), .int .i64 9] rfl (by (try simp only [List.map_toArray, List.map_cons, List.map_nil]); first | done | rfl | (simp only [List.length_drop, List.length_take]; rfl)) ?_; (with_reducible refine (spec_l1Below.calls g104 t101 x105001_1 x105002_1 9 t105 t106 t107 w _ ?side1 ?side2 A4.out).mono ?_); (case side1 => repeat (first | (with_reducible first | exact HI104.out | apply IsS47.alloc | apply IsS47.drewN | apply IsS47.drew | apply IsS47.set_1 | apply IsS47.set_2) | exact HI104.out)); (case side2 => repeat (first | (with_reducible first | exact HB.out | apply below_alloc | apply pw_below_drewN | apply below_drew1 | refine below_set ?_ (IsS47.ge HI104.out)) | exact HB.out)); rintro e w14 ⟨rfl, hi, hb, hk⟩; refine ⟨_, rfl, ?_⟩; have n0_ := Ak (hb); have n1_ := Ak (hi); clear HB; clear HI104; have HB := n0_; have HI104 := n1_; clear n0_ n1_; (try clear hb); (try clear hb2); (try clear hk); (try clear hi)) | ((with_reducible refine gate_callee (f := 17) rfl ?_); refine goesL_ (some 22) rfl rfl Tryd.func17 (by kernel_rfl) rfl #[.pointer (some ⟨g104, 0, none⟩), .int .i64 2] rfl (by (try simp only [List.map_toArray, List.map_cons, List.map_nil]); first | done | rfl | (simp only [List.length_drop, List.length_take]; rfl)) ?_; (with_reducible refine (spec_l1Once.calls g104 t101 t106 t107 2 t114 t115 t116 w _ ?side1 ?side2 A13.out).mono ?_); (case side1 => repeat (first | (with_reducible first | exact HI104.out | apply IsS47.alloc | apply IsS47.drewN | apply IsS47.drew | apply IsS47.set_1 | apply IsS47.set_2) | exact HI104.out)); (case side2 => repeat (first | (with_reducible first | exact HB.out | apply below_alloc | apply pw_below_drewN | apply below_drew1 | refine below_set ?_ (IsS47.ge HI104.out)) | exact HB.out)); rintro e w15 ⟨rfl, hi, hb, hk⟩; refine ⟨_, rfl, ?_⟩; have n0_ := Ak (hb); have n1_ := Ak (hi); clear HB; clear HI104; have HB := n0_; have HI104 := n1_; clear n0_ n1_; (try clear hb); (try clear hb2); (try clear hk); (try clear hi)))
    go_ret2
    exact ⟨by first | rfl | (simp [*] <;> rfl), by repeat (first | exact HB.out | apply below_alloc | apply pw_below_drewN | apply below_drew1 | refine below_set ?_ (IsS47.ge HI104.out))⟩
def spec_PointOk.f (a0 : Int) : Option (Bool) := (spec_l1In.f a0 0 1114111).bind fun t101 => (if t101 = true then ((spec_l1In.f a0 55296 57343).bind fun t102 => (some (!t102))) else (some false))
theorem spec_PointOk.calls (a0 : Int) (r : Bool) (w : World) (h : spec_PointOk.f a0 = some r) :
 Calls Tryd.prog 61 #[.int .i64 a0] w fun e w' => e = .returned (.bool r) ∧ Drawn0 w w' := by
 have H : ((spec_l1In.f a0 0 1114111).bind fun t101 => (if t101 = true then ((spec_l1In.f a0 55296 57343).bind fun t102 => (some (!t102))) else (some false))) = some r := h
 clear h
 replace H := Ob H
 obtain ⟨t101, A20, H⟩ := H
 replace H : (if t101 = true then ((spec_l1In.f a0 55296 57343).bind fun t102 => (some (!t102))) else (some false)) = some r := H
 have A2 := Ak A20
 clear A20
 by_cases c3 : t101 = true
 ·subst c3
  rw [if_pos rfl] at H
  replace H := Ob H
  obtain ⟨t102, A40, H⟩ := H
  replace H : (some (!t102)) = some r := H
  have A4 := Ak A40
  clear A40
  obtain rfl := Oi H
  go_enter Tryd.func61, Tryd.ntmps61
  go_wp2_with (first | (go_at_call 46; (with_reducible refine (spec_l1In.calls a0 0 1114111 true _ A2.out).mono ?_); rintro e w' ⟨rfl, ⟨nd, rfl⟩⟩) | (go_at_call 46; (with_reducible refine (spec_l1In.calls a0 55296 57343 t102 _ A4.out).mono ?_); rintro e w' ⟨rfl, ⟨nd, rfl⟩⟩))
  go_ret
  exact ⟨rfl, by repeat (first | exact Drawn0.refl _ | apply Drawn0.step)⟩
 ·replace c3 := Bool.eq_false_iff.mpr c3
  subst c3
  rw [if_neg (show ¬ (false = true) by decide)] at H
  obtain rfl := Oi H
  go_enter Tryd.func61, Tryd.ntmps61
  go_wp2_with (first | (go_at_call 46; (with_reducible refine (spec_l1In.calls a0 0 1114111 false _ A2.out).mono ?_); rintro e w' ⟨rfl, ⟨nd, rfl⟩⟩))
  go_ret
  exact ⟨rfl, by repeat (first | exact Drawn0.refl _ | apply Drawn0.step)⟩
def spec_l1Point.f (a0 : Int) : Option (Int) := (spec_PointOk.f a0).bind fun t101 => (if t101 = true then (some a0) else (some 65533))
theorem spec_l1Point.calls (a0 : Int) (r : Int) (w : World) (h : spec_l1Point.f a0 = some r) :
 Calls Tryd.prog 54 #[.int .i64 a0] w fun e w' => e = .returned (.int .i64 r) ∧ Drawn0 w w' := by
 have H : ((spec_PointOk.f a0).bind fun t101 => (if t101 = true then (some a0) else (some 65533))) = some r := h
 clear h
 replace H := Ob H
 obtain ⟨t101, A20, H⟩ := H
 replace H : (if t101 = true then (some a0) else (some 65533)) = some r := H
 have A2 := Ak A20
 clear A20
 by_cases c3 : t101 = true
 ·subst c3
  rw [if_pos rfl] at H
  obtain rfl := Oi H
  go_enter Tryd.func54, Tryd.ntmps54
  go_wp2_with (first | (go_at_call 61; (with_reducible refine (spec_PointOk.calls a0 true _ A2.out).mono ?_); rintro e w' ⟨rfl, ⟨nd, rfl⟩⟩))
  go_ret
  exact ⟨rfl, by repeat (first | exact Drawn0.refl _ | apply Drawn0.step)⟩
 ·replace c3 := Bool.eq_false_iff.mpr c3
  subst c3
  rw [if_neg (show ¬ (false = true) by decide)] at H
  obtain rfl := Oi H
  go_enter Tryd.func54, Tryd.ntmps54
  go_wp2_with (first | (go_at_call 61; (with_reducible refine (spec_PointOk.calls a0 false _ A2.out).mono ?_); rintro e w' ⟨rfl, ⟨nd, rfl⟩⟩))
  go_ret
  exact ⟨rfl, by repeat (first | exact Drawn0.refl _ | apply Drawn0.step)⟩
def spec_PointPut.f (a0 : Int) : Option (List Int) := (spec_l1Point.f a0).bind fun t101 => (if t101 < 128 then (some (([(t101) % 256] : List Int))) else (if t101 < 2048 then (some (([(wrap64 (192 + (wrap64 (Int.tdiv t101 64)))) % 256, (wrap64 (128 + (Int.tmod t101 64))) % 256] : List Int))) else (if t101 < 65536 then (some (([(wrap64 (224 + (wrap64 (Int.tdiv t101 4096)))) % 256, (wrap64 (128 + (Int.tmod (wrap64 (Int.tdiv t101 64)) 64))) % 256, (wrap64 (128 + (Int.tmod t101 64))) % 256] : List Int))) else (some (([(wrap64 (240 + (wrap64 (Int.tdiv t101 262144)))) % 256, (wrap64 (128 + (Int.tmod (wrap64 (Int.tdiv t101 4096)) 64))) % 256, (wrap64 (128 + (Int.tmod (wrap64 (Int.tdiv t101 64)) 64))) % 256, (wrap64 (128 + (Int.tmod t101 64))) % 256] : List Int))))))
theorem spec_PointPut.calls (a0 : Int) (r : List Int) (w : World) (h : spec_PointPut.f a0 = some r) :
 Calls Tryd.prog 45 #[.int .i64 a0] w fun e w' => ∃ v0_ : Value, e = .returned (v0_) ∧ Kd.R (Kd.int .u8) 5 w' w.heap.size (fun _ => True) v0_ r ∧ Below w.heap.size w w' := by
 have HB := Ak (Below.refl w.heap.size w)
 have H : ((spec_l1Point.f a0).bind fun t101 => (if t101 < 128 then (some (([(t101) % 256] : List Int))) else (if t101 < 2048 then (some (([(wrap64 (192 + (wrap64 (Int.tdiv t101 64)))) % 256, (wrap64 (128 + (Int.tmod t101 64))) % 256] : List Int))) else (if t101 < 65536 then (some (([(wrap64 (224 + (wrap64 (Int.tdiv t101 4096)))) % 256, (wrap64 (128 + (Int.tmod (wrap64 (Int.tdiv t101 64)) 64))) % 256, (wrap64 (128 + (Int.tmod t101 64))) % 256] : List Int))) else (some (([(wrap64 (240 + (wrap64 (Int.tdiv t101 262144)))) % 256, (wrap64 (128 + (Int.tmod (wrap64 (Int.tdiv t101 4096)) 64))) % 256, (wrap64 (128 + (Int.tmod (wrap64 (Int.tdiv t101 64)) 64))) % 256, (wrap64 (128 + (Int.tmod t101 64))) % 256] : List Int))))))) = some r := h
 clear h
 replace H := Ob H
 obtain ⟨t101, A20, H⟩ := H
 replace H : (if t101 < 128 then (some (([(t101) % 256] : List Int))) else (if t101 < 2048 then (some (([(wrap64 (192 + (wrap64 (Int.tdiv t101 64)))) % 256, (wrap64 (128 + (Int.tmod t101 64))) % 256] : List Int))) else (if t101 < 65536 then (some (([(wrap64 (224 + (wrap64 (Int.tdiv t101 4096)))) % 256, (wrap64 (128 + (Int.tmod (wrap64 (Int.tdiv t101 64)) 64))) % 256, (wrap64 (128 + (Int.tmod t101 64))) % 256] : List Int))) else (some (([(wrap64 (240 + (wrap64 (Int.tdiv t101 262144)))) % 256, (wrap64 (128 + (Int.tmod (wrap64 (Int.tdiv t101 4096)) 64))) % 256, (wrap64 (128 + (Int.tmod (wrap64 (Int.tdiv t101 64)) 64))) % 256, (wrap64 (128 + (Int.tmod t101 64))) % 256] : List Int)))))) = some r := H
 have A2 := Ak A20
 clear A20
 by_cases c3 : t101 < 128
 ·rw [if_pos c3] at H
  have c3b0 := decide_eq_true c3
  clear c3
  obtain ⟨y102, hy102⟩ : ∃ y_ : List Int, y_ = (([(t101) % 256] : List Int)) := ⟨_, rfl⟩
  replace H : (some y102) = some r := by rw [hy102]; exact H
  have Ny102 := Ak hy102
  clear hy102
  obtain rfl := Oi H
  go_enter Tryd.func45, Tryd.ntmps45
  go_wp2_with (first | (go_at_call 54; (with_reducible refine (spec_l1Point.calls a0 t101 _ A2.out).mono ?_); rintro e w' ⟨rfl, ⟨nd, rfl⟩⟩) | ((with_reducible refine gate_dst (N := 10) rfl ?_); refine Kd.R_lit (Kd.int .u8) _ 5 ?hg (N := 10) ?hd (xs := ([(t101) % 256] : List Int)) (inner := [.int .u8 ((t101) % 256)]) (ok := fun _ => True) (okp := fun _ => True) ?hr ?hp (fun _ hk => hk) trivial (Below.refl _ _) (Nat.le_refl _) (by simp) ?_; (case hd => rfl); (case hg => rfl); (case hr => go_simp); (case hp => exact (Reps.one (show Kd.M (Kd.int .u8) _ _ _ ((t101) % 256) [.int .u8 ((t101) % 256)] from rfl) (Reps.none _ _))); intro v103 w4 ho5 hb hg_ hnew_; clear hg_ hnew_; (first | rw [← Ny102.out] at ho5 | (simp only [Int.reduceToNat] at ho5; rw [← Ny102.out] at ho5)); replace HO104 := Ak (Kd.R_lower ho5 (below_size (by repeat (first | exact HB.out | apply below_alloc | apply pw_below_drewN | apply below_drew1)))); replace HB := Ak (below_step (by repeat (first | exact HB.out | apply below_alloc | apply pw_below_drewN | apply below_drew1)) hb); clear hb ho5))
  go_ret
  exact ⟨_, rfl, by (with_reducible repeat (first | apply Kd.R_alloc | apply Kd.R_drewN | apply Kd.R_drew)); exact HO104.out, by repeat (first | exact HB.out | apply below_alloc | apply pw_below_drewN | apply below_drew1)⟩
 ·rw [if_neg c3] at H
  have c3b0 := decide_eq_false c3
  clear c3
  by_cases c6 : t101 < 2048
  ·rw [if_pos c6] at H
   have c6b0 := decide_eq_true c6
   clear c6
   obtain ⟨y105, hy105⟩ : ∃ y_ : List Int, y_ = (([(wrap64 (192 + (wrap64 (Int.tdiv t101 64)))) % 256, (wrap64 (128 + (Int.tmod t101 64))) % 256] : List Int)) := ⟨_, rfl⟩
   replace H : (some y105) = some r := by rw [hy105]; exact H
   have Ny105 := Ak hy105
   clear hy105
   obtain rfl := Oi H
   go_enter Tryd.func45, Tryd.ntmps45
   go_wp2_with (first | (go_at_call 54; (with_reducible refine (spec_l1Point.calls a0 t101 _ A2.out).mono ?_); rintro e w' ⟨rfl, ⟨nd, rfl⟩⟩) | ((with_reducible refine gate_dst (N := 22) rfl ?_); refine Kd.R_lit (Kd.int .u8) _ 5 ?hg (N := 22) ?hd (xs := ([(wrap64 (192 + (wrap64 (Int.tdiv t101 64)))) % 256, (wrap64 (128 + (Int.tmod t101 64))) % 256] : List Int)) (inner := [.int .u8 ((wrap64 (192 + (wrap64 (Int.tdiv t101 64)))) % 256), .int .u8 ((wrap64 (128 + (Int.tmod t101 64))) % 256)]) (ok := fun _ => True) (okp := fun _ => True) ?hr ?hp (fun _ hk => hk) trivial (Below.refl _ _) (Nat.le_refl _) (by simp) ?_; (case hd => rfl); (case hg => rfl); (case hr => go_simp); (case hp => exact (Reps.one (show Kd.M (Kd.int .u8) _ _ _ ((wrap64 (192 + (wrap64 (Int.tdiv t101 64)))) % 256) [.int .u8 ((wrap64 (192 + (wrap64 (Int.tdiv t101 64)))) % 256)] from rfl) (Reps.one (show Kd.M (Kd.int .u8) _ _ _ ((wrap64 (128 + (Int.tmod t101 64))) % 256) [.int .u8 ((wrap64 (128 + (Int.tmod t101 64))) % 256)] from rfl) (Reps.none _ _)))); intro v106 w7 ho8 hb hg_ hnew_; clear hg_ hnew_; (first | rw [← Ny105.out] at ho8 | (simp only [Int.reduceToNat] at ho8; rw [← Ny105.out] at ho8)); replace HO107 := Ak (Kd.R_lower ho8 (below_size (by repeat (first | exact HB.out | apply below_alloc | apply pw_below_drewN | apply below_drew1)))); replace HB := Ak (below_step (by repeat (first | exact HB.out | apply below_alloc | apply pw_below_drewN | apply below_drew1)) hb); clear hb ho8))
   go_ret
   exact ⟨_, rfl, by (with_reducible repeat (first | apply Kd.R_alloc | apply Kd.R_drewN | apply Kd.R_drew)); exact HO107.out, by repeat (first | exact HB.out | apply below_alloc | apply pw_below_drewN | apply below_drew1)⟩
  ·rw [if_neg c6] at H
   have c6b0 := decide_eq_false c6
   clear c6
   by_cases c9 : t101 < 65536
   ·rw [if_pos c9] at H
    have c9b0 := decide_eq_true c9
    clear c9
    obtain ⟨y108, hy108⟩ : ∃ y_ : List Int, y_ = (([(wrap64 (224 + (wrap64 (Int.tdiv t101 4096)))) % 256, (wrap64 (128 + (Int.tmod (wrap64 (Int.tdiv t101 64)) 64))) % 256, (wrap64 (128 + (Int.tmod t101 64))) % 256] : List Int)) := ⟨_, rfl⟩
    replace H : (some y108) = some r := by rw [hy108]; exact H
    have Ny108 := Ak hy108
    clear hy108
    obtain rfl := Oi H
    go_enter Tryd.func45, Tryd.ntmps45
    go_wp2_with (first | (go_at_call 54; (with_reducible refine (spec_l1Point.calls a0 t101 _ A2.out).mono ?_); rintro e w' ⟨rfl, ⟨nd, rfl⟩⟩) | ((with_reducible refine gate_dst (N := 39) rfl ?_); refine Kd.R_lit (Kd.int .u8) _ 5 ?hg (N := 39) ?hd (xs := ([(wrap64 (224 + (wrap64 (Int.tdiv t101 4096)))) % 256, (wrap64 (128 + (Int.tmod (wrap64 (Int.tdiv t101 64)) 64))) % 256, (wrap64 (128 + (Int.tmod t101 64))) % 256] : List Int)) (inner := [.int .u8 ((wrap64 (224 + (wrap64 (Int.tdiv t101 4096)))) % 256), .int .u8 ((wrap64 (128 + (Int.tmod (wrap64 (Int.tdiv t101 64)) 64))) % 256), .int .u8 ((wrap64 (128 + (Int.tmod t101 64))) % 256)]) (ok := fun _ => True) (okp := fun _ => True) ?hr ?hp (fun _ hk => hk) trivial (Below.refl _ _) (Nat.le_refl _) (by simp) ?_; (case hd => rfl); (case hg => rfl); (case hr => go_simp); (case hp => exact (Reps.one (show Kd.M (Kd.int .u8) _ _ _ ((wrap64 (224 + (wrap64 (Int.tdiv t101 4096)))) % 256) [.int .u8 ((wrap64 (224 + (wrap64 (Int.tdiv t101 4096)))) % 256)] from rfl) (Reps.one (show Kd.M (Kd.int .u8) _ _ _ ((wrap64 (128 + (Int.tmod (wrap64 (Int.tdiv t101 64)) 64))) % 256) [.int .u8 ((wrap64 (128 + (Int.tmod (wrap64 (Int.tdiv t101 64)) 64))) % 256)] from rfl) (Reps.one (show Kd.M (Kd.int .u8) _ _ _ ((wrap64 (128 + (Int.tmod t101 64))) % 256) [.int .u8 ((wrap64 (128 + (Int.tmod t101 64))) % 256)] from rfl) (Reps.none _ _))))); intro v109 w10 ho11 hb hg_ hnew_; clear hg_ hnew_; (first | rw [← Ny108.out] at ho11 | (simp only [Int.reduceToNat] at ho11; rw [← Ny108.out] at ho11)); replace HO110 := Ak (Kd.R_lower ho11 (below_size (by repeat (first | exact HB.out | apply below_alloc | apply pw_below_drewN | apply below_drew1)))); replace HB := Ak (below_step (by repeat (first | exact HB.out | apply below_alloc | apply pw_below_drewN | apply below_drew1)) hb); clear hb ho11))
    go_ret
    exact ⟨_, rfl, by (with_reducible repeat (first | apply Kd.R_alloc | apply Kd.R_drewN | apply Kd.R_drew)); exact HO110.out, by repeat (first | exact HB.out | apply below_alloc | apply pw_below_drewN | apply below_drew1)⟩
   ·rw [if_neg c9] at H
    have c9b0 := decide_eq_false c9
    clear c9
    obtain ⟨y111, hy111⟩ : ∃ y_ : List Int, y_ = (([(wrap64 (240 + (wrap64 (Int.tdiv t101 262144)))) % 256, (wrap64 (128 + (Int.tmod (wrap64 (Int.tdiv t101 4096)) 64))) % 256, (wrap64 (128 + (Int.tmod (wrap64 (Int.tdiv t101 64)) 64))) % 256, (wrap64 (128 + (Int.tmod t101 64))) % 256] : List Int)) := ⟨_, rfl⟩
    replace H : (some y111) = some r := by rw [hy111]; exact H
    have Ny111 := Ak hy111
    clear hy111
    obtain rfl := Oi H
    go_enter Tryd.func45, Tryd.ntmps45
    go_wp2_with (first | (go_at_call 54; (with_reducible refine (spec_l1Point.calls a0 t101 _ A2.out).mono ?_); rintro e w' ⟨rfl, ⟨nd, rfl⟩⟩) | ((with_reducible refine gate_dst (N := 58) rfl ?_); refine Kd.R_lit (Kd.int .u8) _ 5 ?hg (N := 58) ?hd (xs := ([(wrap64 (240 + (wrap64 (Int.tdiv t101 262144)))) % 256, (wrap64 (128 + (Int.tmod (wrap64 (Int.tdiv t101 4096)) 64))) % 256, (wrap64 (128 + (Int.tmod (wrap64 (Int.tdiv t101 64)) 64))) % 256, (wrap64 (128 + (Int.tmod t101 64))) % 256] : List Int)) (inner := [.int .u8 ((wrap64 (240 + (wrap64 (Int.tdiv t101 262144)))) % 256), .int .u8 ((wrap64 (128 + (Int.tmod (wrap64 (Int.tdiv t101 4096)) 64))) % 256), .int .u8 ((wrap64 (128 + (Int.tmod (wrap64 (Int.tdiv t101 64)) 64))) % 256), .int .u8 ((wrap64 (128 + (Int.tmod t101 64))) % 256)]) (ok := fun _ => True) (okp := fun _ => True) ?hr ?hp (fun _ hk => hk) trivial (Below.refl _ _) (Nat.le_refl _) (by simp) ?_; (case hd => rfl); (case hg => rfl); (case hr => go_simp); (case hp => exact (Reps.one (show Kd.M (Kd.int .u8) _ _ _ ((wrap64 (240 + (wrap64 (Int.tdiv t101 262144)))) % 256) [.int .u8 ((wrap64 (240 + (wrap64 (Int.tdiv t101 262144)))) % 256)] from rfl) (Reps.one (show Kd.M (Kd.int .u8) _ _ _ ((wrap64 (128 + (Int.tmod (wrap64 (Int.tdiv t101 4096)) 64))) % 256) [.int .u8 ((wrap64 (128 + (Int.tmod (wrap64 (Int.tdiv t101 4096)) 64))) % 256)] from rfl) (Reps.one (show Kd.M (Kd.int .u8) _ _ _ ((wrap64 (128 + (Int.tmod (wrap64 (Int.tdiv t101 64)) 64))) % 256) [.int .u8 ((wrap64 (128 + (Int.tmod (wrap64 (Int.tdiv t101 64)) 64))) % 256)] from rfl) (Reps.one (show Kd.M (Kd.int .u8) _ _ _ ((wrap64 (128 + (Int.tmod t101 64))) % 256) [.int .u8 ((wrap64 (128 + (Int.tmod t101 64))) % 256)] from rfl) (Reps.none _ _)))))); intro v112 w12 ho13 hb hg_ hnew_; clear hg_ hnew_; (first | rw [← Ny111.out] at ho13 | (simp only [Int.reduceToNat] at ho13; rw [← Ny111.out] at ho13)); replace HO113 := Ak (Kd.R_lower ho13 (below_size (by repeat (first | exact HB.out | apply below_alloc | apply pw_below_drewN | apply below_drew1)))); replace HB := Ak (below_step (by repeat (first | exact HB.out | apply below_alloc | apply pw_below_drewN | apply below_drew1)) hb); clear hb ho13))
    go_ret
    exact ⟨_, rfl, by (with_reducible repeat (first | apply Kd.R_alloc | apply Kd.R_drewN | apply Kd.R_drew)); exact HO113.out, by repeat (first | exact HB.out | apply below_alloc | apply pw_below_drewN | apply below_drew1)⟩
def spec_l1Put.l0 : Nat → List Int → List Int → Int → Option (List Int)
 | 0, _, _, _ => none
 | k + 1, x0, x3, x4 => if x4 < (x0.length : Int) then (if 0 ≤ x4 then ((spec_PointPut.f (rd x0 x4)).bind fun t105 => (if x3.length + t105.length < 140737488355328 then (spec_l1Put.l0 k x0 (x3 ++ t105) (wrap64 (x4 + 1))) else (none))) else (none)) else (some x3)
def spec_l1Put.f (k : Nat) (l0 : List Int) : Option (List Int) := spec_l1Put.l0 k l0 (([] : List Int)) 0
theorem spec_l1Put.mono_l : ∀ k, (∀ y0 y1 y2, LeO (spec_l1Put.l0 k y0 y1 y2) (spec_l1Put.l0 (k + 1) y0 y1 y2))
 | 0 => fun _ _ _ r h => by simp [spec_l1Put.l0] at h
 | k + 1 => by
  have ih0 := spec_l1Put.mono_l k
  ·intro y0 y1 y2
   unfold spec_l1Put.l0
   repeat' (with_reducible first | exact ih0 _ _ _ | exact LeO.refl _ | exact LeO.none _ | refine LeO.ite ?_ ?_ | refine LeO.bind ?_ (fun _ => ?_))
theorem spec_l1Put.mono : ∀ a0 k, LeO (spec_l1Put.f k a0) (spec_l1Put.f (k + 1) a0) := by
 intro a0 k
 have ih0 := spec_l1Put.mono_l k
 unfold spec_l1Put.f
 repeat' (with_reducible first | exact ih0 _ _ _ | exact LeO.refl _ | exact LeO.none _ | refine LeO.ite ?_ ?_ | refine LeO.bind ?_ (fun _ => ?_))
theorem spec_l1Put.calls (k : Nat) (A0 : Option Addr) (c0 : Nat) (l0 : List Int) (r : List Int) (w : World) (hr0 : Kd.C (Kd.int .i64) w A0 l0.length l0) (hc0 : l0.length ≤ c0) (h : spec_l1Put.f k l0 = some r) :
 Calls Tryd.prog 26 #[.slice A0 l0.length c0] w fun e w' => ∃ v0_ : Value, e = .returned (v0_) ∧ Kd.R (Kd.int .u8) 5 w' w.heap.size (fun _ => True) v0_ r ∧ Below w.heap.size w w' := by
 have HR0 := Ak hr0
 have HC0 := Ak hc0
 clear hr0 hc0
 have HB := Ak (Below.refl w.heap.size w)
 have H : (spec_l1Put.l0 k l0 (([] : List Int)) 0) = some r := h
 clear h
 obtain ⟨y101, hy101⟩ : ∃ y_ : List Int, y_ = (([] : List Int)) := ⟨_, rfl⟩
 replace H : (spec_l1Put.l0 k l0 y101 0) = some r := by rw [hy101]; exact H
 have Ny101 := Ak hy101
 clear hy101
 have H' := Ak H
 clear H
 go_enter Tryd.func26, Tryd.ntmps26
 go_wp2_with (first | ((with_reducible refine gate_dst (N := 5) rfl ?_); refine Kd.R_lit (Kd.int .u8) _ 5 ?hg (N := 5) ?hd (xs := ([] : List Int)) (inner := []) (ok := fun _ => True) (okp := fun _ => True) ?hr ?hp (fun _ hk => hk) trivial (Below.refl _ _) (Nat.le_refl _) (by simp) ?_; (case hd => rfl); (case hg => rfl); (case hr => first | (go_simp; done) | (go_simp; rfl)); (case hp => exact (Reps.none _ _)); intro v102 w2 ho3 hb hg_ hnew_; clear hg_ hnew_; (first | rw [← Ny101.out] at ho3 | (simp only [Int.reduceToNat] at ho3; rw [← Ny101.out] at ho3)); have n0_ := Ak (Kd.R_lower ho3 (below_size (HB.out))); have n1_ := Ak (below_step (HB.out) hb); clear HB; have HO103 := n0_; have HB := n1_; clear n0_ n1_; clear hb ho3))
 go_loopg [3, 4] k (fun kq v3 v4 w' => ∃ (x3_1 : List Int) (x4_1 : Int), v4 = .int .i64 x4_1 ∧ Aside0 (spec_l1Put.l0 kq l0 x3_1 x4_1 = some r) ∧ Aside0 (kq ≤ k) ∧ Aside0 (Kd.R (Kd.int .u8) 5 w' w.heap.size (fun _ => True) v3 x3_1) ∧ Aside0 (Below w.heap.size w w'))
 case atStart => exact ⟨(y101), (0), rfl, H', ⟨Nat.le_refl _⟩, ⟨by (with_reducible repeat (first | apply Kd.R_alloc | apply Kd.R_drewN | apply Kd.R_drew)); exact HO103.out⟩, ⟨HB.out⟩⟩
 case round =>
  clear H'
  try clear c2
  try clear p2
  obtain ⟨x3_1, x4_1, rfl, HA, HK1, HO_3, HB⟩ := hrel
  cases gk with
  | zero => exact absurd HA.out (by simp [spec_l1Put.l0])
  | succ k1 =>
   have H := HA.out
   clear HA
   simp only [spec_l1Put.l0] at H
   by_cases c4 : x4_1 < (l0.length : Int)
   ·rw [if_pos c4] at H
    have c4b0 := decide_eq_true c4
    clear c4
    by_cases c5 : 0 ≤ x4_1
    ·rw [if_pos c5] at H
     have c5b0 := decide_eq_true c5
     clear c5
     replace H := Ob H
     obtain ⟨t105, A60, H⟩ := H
     replace H : (if x3_1.length + t105.length < 140737488355328 then (spec_l1Put.l0 k1 l0 (x3_1 ++ t105) (wrap64 (x4_1 + 1))) else (none)) = some r := H
     have A6 := Ak A60
     clear A60
     by_cases c7 : x3_1.length + t105.length < 140737488355328
     ·rw [if_pos c7] at H
      have LMc7 := Ak c7
      clear c7
      obtain ⟨y108, hy108⟩ : ∃ y_ : List Int, y_ = (x3_1 ++ t105) := ⟨_, rfl⟩
      replace H : (spec_l1Put.l0 k1 l0 y108 (wrap64 (x4_1 + 1))) = some r := by rw [hy108]; exact H
      have Ny108 := Ak hy108
      clear hy108
      have H' := Ak H
      clear H
      have p104 : 0 ≤ (x4_1 : Int) := of_decide_eq_true (by assumption)
      have q104 : x4_1 < (l0.length : Int) := of_decide_eq_true (by assumption)
      obtain ⟨ad104, e104, hx104_0⟩ := Kd.at_int HR0.out x4_1 p104 q104
      cases e104
      replace hx104_0 := pw_cell_below HB.out hx104_0
      replace p104 := eq_true p104
      replace q104 := eq_true q104
      go_wp2_with (first | (go_at_call 45; (with_reducible refine (spec_PointPut.calls (rd l0 x4_1) t105 _ A6.out).mono ?_); rintro e w8 ⟨v106, rfl, ho0, hb⟩; have n0_ := Ak (Kd.R_elder' HO_3.out (Kd.R_base ho0) hb); have n1_ := Ak (Kd.R_lower (Kd.R_new' ho0 (Kd.R_lt HO_3.out)) (below_size (HB.out))); have n2_ := Ak (below_step (HB.out) hb); clear HO_3; clear HB; have HO_3 := n0_; have HO107 := n1_; have HB := n2_; clear n0_ n1_ n2_; (try clear hb); (try clear hb2); (try clear hk); (try clear hi); (try clear ho0); obtain ⟨Ao10, co10, eo10⟩ := Kd.R_slice HO107.out; subst eo10) | ((with_reducible refine gate_builtin (b := .append) (xs := #[.tmp 12, .tmp 17]) rfl ?_); at_builtin; refine Kd.R_append_rows (Kd.int .u8) (w0 := w) w.heap.size rfl (.tmp 12) (.tmp 17) 24 5 (.int .u8 0) 1 rfl Tryd.underlying24 info5 rfl (by decide) (by omega) u3 x3_1 t105 _ _ _ (fun k_ => some k_ ≠ (.slice Ao10 t105.length co10 : Value).ownBlock) (fun _ => False) rfl rfl ?aO ?aR (fun _ _ h => h) (fun _ h => h.elim) ?aF ?aB ?aS ?aL ?_; (case aR => repeat (first | exact (Kd.R_reads' HO107.out).2.2 | (with_reducible refine Kd.C_alloc ?_ _) | (with_reducible refine Kd.C_drewN ?_ _) | (with_reducible refine Kd.C_drew ?_))); (case aB => exact (HB.out)); (case aF => exact (fun k_ hk => Kd.fresh' (Kd.R_lt HO107.out) k_ hk)); (case aO => exact (by (with_reducible repeat (first | apply Kd.R_alloc | apply Kd.R_drewN | apply Kd.R_drew)); exact Kd.R_mono HO_3.out (fun _ hk => hk.2))); (case aS => exact (below_size (HB.out))); (case aL => have := LMc7.out; omega); intro v109 w9 ho hb hg hat; rw [← Ny108.out] at ho; have n0_ := Ak (Kd.R_after (ok := (fun _ => True)) HO107.out hg hat); have n1_ := Ak (hb); have n2_ := Ak (ho); clear HO107; clear HB; clear HO_3; have HO107 := n0_; have HB := n1_; have HO110 := n2_; clear n0_ n1_ n2_; clear ho hb hg hat))
      go_roundg k1
      case measure => have := HK1.out; omega
      case rel => exact ⟨(y108), (wrap64 (x4_1 + 1)), rfl, H', ⟨by have := HK1.out; omega⟩, ⟨by (with_reducible repeat (first | apply Kd.R_alloc | apply Kd.R_drewN | apply Kd.R_drew)); exact Kd.R_mono HO110.out (fun _ hk => trivial)⟩, ⟨HB.out⟩⟩
     ·rw [if_neg c7] at H
      exact absurd H (by simp)
    ·rw [if_neg c5] at H
     exact absurd H (by simp)
   ·rw [if_neg c4] at H
    have c4b0 := decide_eq_false c4
    clear c4
    obtain rfl := Oi H
    go_wp2
    go_ret
    exact ⟨_, rfl, by (with_reducible repeat (first | apply Kd.R_alloc | apply Kd.R_drewN | apply Kd.R_drew)); exact HO_3.out, HB.out⟩
def spec_PointsPut.f (k : Nat) (l0 : List Int) : Option (List Int) := if (l0.length : Int) > 3000 then (some (([] : List Int))) else ((spec_l1Put.f k l0).bind fun t104 => (some t104))
theorem spec_PointsPut.mono : ∀ a0 k, LeO (spec_PointsPut.f k a0) (spec_PointsPut.f (k + 1) a0) := by
 intro a0 k
 unfold spec_PointsPut.f
 repeat' (with_reducible first | exact spec_l1Put.mono _ _ | exact LeO.refl _ | exact LeO.none _ | refine LeO.ite ?_ ?_ | refine LeO.bind ?_ (fun _ => ?_))
theorem spec_PointsPut.calls (k : Nat) (A0 : Option Addr) (c0 : Nat) (l0 : List Int) (r : List Int) (w : World) (hr0 : Kd.C (Kd.int .i64) w A0 l0.length l0) (hc0 : l0.length ≤ c0) (h : spec_PointsPut.f k l0 = some r) :
 Calls Tryd.prog 18 #[.slice A0 l0.length c0] w fun e w' => ∃ v0_ : Value, e = .returned (v0_) ∧ Kd.R (Kd.int .u8) 5 w' w.heap.size (fun _ => True) v0_ r ∧ Below w.heap.size w w' := by
 have HR0 := Ak hr0
 have HC0 := Ak hc0
 clear hr0 hc0
 have HB := Ak (Below.refl w.heap.size w)
 have H : (if (l0.length : Int) > 3000 then (some (([] : List Int))) else ((spec_l1Put.f k l0).bind fun t104 => (some t104))) = some r := h
 clear h
 by_cases c2 : (l0.length : Int) > 3000
 ·rw [if_pos c2] at H
  have c2b0 : decide (3000 < (l0.length : Int)) = true := decide_eq_true c2
  have c2b1 : decide (3000 < l0.length) = true := decide_eq_true (by omega)
  clear c2
  obtain ⟨y101, hy101⟩ : ∃ y_ : List Int, y_ = (([] : List Int)) := ⟨_, rfl⟩
  replace H : (some y101) = some r := by rw [hy101]; exact H
  have Ny101 := Ak hy101
  clear hy101
  obtain rfl := Oi H
  go_enter Tryd.func18, Tryd.ntmps18
  go_wp2_with (first | ((with_reducible refine gate_dst (N := 6) rfl ?_); refine Kd.R_lit (Kd.int .u8) _ 5 ?hg (N := 6) ?hd (xs := ([] : List Int)) (inner := []) (ok := fun _ => True) (okp := fun _ => True) ?hr ?hp (fun _ hk => hk) trivial (Below.refl _ _) (Nat.le_refl _) (by simp) ?_; (case hd => rfl); (case hg => rfl); (case hr => first | (go_simp; done) | (go_simp; rfl)); (case hp => exact (Reps.none _ _)); intro v102 w3 ho4 hb hg_ hnew_; clear hg_ hnew_; (first | rw [← Ny101.out] at ho4 | (simp only [Int.reduceToNat] at ho4; rw [← Ny101.out] at ho4)); replace HO103 := Ak (Kd.R_lower ho4 (below_size (HB.out))); replace HB := Ak (below_step (HB.out) hb); clear hb ho4))
  go_ret
  exact ⟨_, rfl, by (with_reducible repeat (first | apply Kd.R_alloc | apply Kd.R_drewN | apply Kd.R_drew)); exact HO103.out, HB.out⟩
 ·rw [if_neg c2] at H
  have c2b0 : decide (3000 < (l0.length : Int)) = false := decide_eq_false c2
  have c2b1 : decide (3000 < l0.length) = false := decide_eq_false (by omega)
  clear c2
  replace H := Ob H
  obtain ⟨t104, A50, H⟩ := H
  replace H : (some t104) = some r := H
  have A5 := Ak A50
  clear A50
  obtain rfl := Oi H
  go_enter Tryd.func18, Tryd.ntmps18
  go_wp2_with (first | (go_at_call 26; (with_reducible refine (spec_l1Put.calls k _ _ l0 t104 _ ?side1 ?side2 A5.out).mono ?_); (case side1 => repeat (first | exact HR0.out | (with_reducible refine Kd.C_alloc ?_ _) | (with_reducible refine Kd.C_drewN ?_ _) | (with_reducible refine Kd.C_drew ?_))); (case side2 => exact HC0.out); rintro e w6 ⟨v105, rfl, ho0, hb⟩; replace HO106 := Ak (Kd.R_lower ho0 (below_size (HB.out))); replace HB := Ak (below_step (HB.out) hb); (try clear hb); (try clear hb2); (try clear hk); (try clear hi); (try clear ho0)))
  go_ret
  exact ⟨_, rfl, by (with_reducible repeat (first | apply Kd.R_alloc | apply Kd.R_drewN | apply Kd.R_drew)); exact HO106.out, HB.out⟩
def spec_UtfOk.f (k : Nat) (l0 : List Int) : Option (Bool) := if (l0.length : Int) ≤ 3000 then ((spec_UtfRead.f k l0).bind fun t101 => ((spec_PointsPut.f k t101).bind fun t104 => (some ((strOfNums t104).toList == (strOfNums l0).toList)))) else (some false)
theorem spec_UtfOk.mono : ∀ a0 k, LeO (spec_UtfOk.f k a0) (spec_UtfOk.f (k + 1) a0) := by
 intro a0 k
 unfold spec_UtfOk.f
 repeat' (with_reducible first | exact spec_PointsPut.mono _ _ | exact spec_UtfRead.mono _ _ | exact LeO.refl _ | exact LeO.none _ | refine LeO.ite ?_ ?_ | refine LeO.bind ?_ (fun _ => ?_))
def spec_UtfOk.T1 : Bool × List (List Nat × List Nat) := (true, [([], []), ([0], [0]), ([1], [1]), ([2], [2]), ([3], [3]), ([4, 3, 3], [3, 4]), ([5, 5, 3], [3, 5]), ([6, 3], [3, 6]), ([3], [3]), ([8, 3], [3, 8]), ([7, 9, 3], [3, 7, 9]), ([3, 10], [3, 10]), ([11, 6, 0, 1, 2, 3, 4, 5, 6, 7, 8, 9, 10, 11], [11])])
def spec_UtfOk.B1 : List Nat := [0, 1, 3, 7, 15, 31, 63, 127, 15, 271, 1023, 2047, 4095]
theorem spec_UtfOk.tab1 : rtab .any (opsOf Tryd.f9 1) = spec_UtfOk.T1 := by kernel_rfl
theorem spec_UtfOk.bits1 : waitsOk spec_UtfOk.T1.2 spec_UtfOk.B1 = true := by kernel_rfl
theorem spec_UtfOk.calls (k : Nat) (A0 : Option Addr) (c0 : Nat) (l0 : List Int) (r : Bool) (w : World) (hr0 : Kd.C (Kd.int .u8) w A0 l0.length l0) (hc0 : l0.length ≤ c0) (h : spec_UtfOk.f k l0 = some r) :
 Calls Tryd.prog 9 #[.slice A0 l0.length c0] w fun e w' => e = .returned (.bool r) ∧ Below w.heap.size w w' := by
 have HR0 := Ak hr0
 have HC0 := Ak hc0
 clear hr0 hc0
 have HB := Ak (Below.refl w.heap.size w)
 have H : (if (l0.length : Int) ≤ 3000 then ((spec_UtfRead.f k l0).bind fun t101 => ((spec_PointsPut.f k t101).bind fun t104 => (some ((strOfNums t104).toList == (strOfNums l0).toList)))) else (some false)) = some r := h
 clear h
 by_cases c2 : (l0.length : Int) ≤ 3000
 ·rw [if_pos c2] at H
  have c2b0 := decide_eq_true c2
  have c2b1 : decide (l0.length ≤ 3000) = true := decide_eq_true (by omega)
  clear c2
  replace H := Ob H
  obtain ⟨t101, A30, H⟩ := H
  replace H : ((spec_PointsPut.f k t101).bind fun t104 => (some ((strOfNums t104).toList == (strOfNums l0).toList))) = some r := H
  have A3 := Ak A30
  clear A30
  replace H := Ob H
  obtain ⟨t104, A40, H⟩ := H
  replace H : (some ((strOfNums t104).toList == (strOfNums l0).toList)) = some r := H
  have A4 := Ak A40
  clear A40
  obtain rfl := Oi H
  go_enter Tryd.func9, Tryd.ntmps9
  try go_wp2
  have n0_ := Ak (below_drew1 HB.out)
  clear HB
  have HB := n0_
  clear n0_
  refine start_ (n := 13) (S := fun w' => Sem.run Tryd.prog (convert 24 9 (.slice A0 l0.length c0)) w' = .ok (.string (strOfNums l0)) w') (ds := []) #[false, false, false, false, false, false, false, false, false, false, false, false, false] (by kernel_rfl) rfl rfl ((Kd.C_string (P := Tryd.prog) (A := A0) (c := c0) Tryd.underlying24 Tryd.underlying5 Tryd.underlying9 (Kd.C_below HR0.out HB.out))) (fun hHeld => ?_); refine with_tabW spec_UtfOk.tab1 spec_UtfOk.bits1 (fun HT_ HW_ => ?_)
  generalize w.drew = w5 at HB hHeld ⊢
  refine pure_ (i := 0) (N := some 3) (v := ?_) (a' := ?_) #[true, false, false, false, false, false, false, false, false, false, false, false, false] rfl rfl (any_of HT_.out (by kernel_rfl)) (fun _ _ _ h => h) (Or.inl ⟨by rfl, ?_⟩) ?_ ?_
  rotate_left
  ·intro w'
   go_simp
   with_reducible rfl
  rotate_left
  ·simp only [Act.put, List.setIfInBounds_toArray, List.set_cons_zero, List.set_cons_succ, i64_w, i32_w]
   rfl
  refine pure_ (i := 1) (N := some 4) (v := ?_) (a' := ?_) #[true, true, false, false, false, false, false, false, false, false, false, false, false] rfl rfl (any_of HT_.out (by kernel_rfl)) (fun _ _ _ h => h) (Or.inl ⟨by rfl, ?_⟩) ?_ ?_
  rotate_left
  ·intro w'
   go_simp
   with_reducible rfl
  rotate_left
  ·simp only [Act.put, List.setIfInBounds_toArray, List.set_cons_zero, List.set_cons_succ, i64_w, i32_w]
   rfl
  refine pure_ (i := 2) (N := some 5) (v := ?_) (a' := ?_) #[true, true, true, false, false, false, false, false, false, false, false, false, false] rfl rfl (any_of HT_.out (by kernel_rfl)) (fun _ _ _ h => h) (Or.inl ⟨by rfl, ?_⟩) ?_ ?_
  rotate_left
  ·intro w'
   go_simp
   with_reducible rfl
  rotate_left
  ·simp only [Act.put, List.setIfInBounds_toArray, List.set_cons_zero, List.set_cons_succ, i64_w, i32_w]
   rfl
  refine pure_ (i := 3) (N := some 6) (v := ?_) (a' := ?_) #[true, true, true, true, false, false, false, false, false, false, false, false, false] rfl rfl (any_of HT_.out (by kernel_rfl)) (fun _ _ _ h => h) (Or.inl ⟨by rfl, ?_⟩) ?_ ?_
  rotate_left
  ·intro w'
   go_simp
   with_reducible rfl
  rotate_left
  ·simp only [Act.put, List.setIfInBounds_toArray, List.set_cons_zero, List.set_cons_succ, i64_w, i32_w]
   rfl
  refine pure_ (i := 4) (N := some 7) (v := ?_) (a' := ?_) #[true, true, true, true, true, false, false, false, false, false, false, false, false] rfl rfl (any_of HT_.out (by kernel_rfl)) (fun _ _ _ h => h) (Or.inl ⟨by rfl, ?_⟩) ?_ ?_
  rotate_left
  ·intro w'
   go_simp
   with_reducible rfl
  rotate_left
  ·simp only [Act.put, List.setIfInBounds_toArray, List.set_cons_zero, List.set_cons_succ, i64_w, i32_w]
   rfl
  refine pure_ (i := 8) (N := some 11) (v := ?_) (a' := ?_) #[true, true, true, true, true, false, false, false, true, false, false, false, false] rfl rfl (any_of HT_.out (by kernel_rfl)) (fun _ _ _ h => h) (Or.inl ⟨by rfl, ?_⟩) ?_ ?_
  rotate_left
  ·intro w'
   go_simp
   with_reducible rfl
  rotate_left
  ·simp only [Act.put, List.setIfInBounds_toArray, List.set_cons_zero, List.set_cons_succ, i64_w, i32_w]
   rfl
  refine take_ (i := 9) (N := some 12) (v := ?_) (a' := ?_) #[true, true, true, true, true, false, false, false, true, true, false, false, false] rfl rfl (take_ofW HT_.out HW_.out (by kernel_rfl)) (fun _ _ _ h => h) (Or.inl ⟨by rfl, ?_⟩) hHeld ?_ ?_
  rotate_left
  ·intro w' s0
   go_simp
   with_reducible rfl
  rotate_left
  ·simp only [Act.put, List.setIfInBounds_toArray, List.set_cons_zero, List.set_cons_succ, i64_w, i32_w]
   rfl
  refine one_ (i := 5) (N := some 8) #[true, true, true, true, true, true, false, false, true, true, false, false, false] rfl rfl (one_of HT_.out (by kernel_rfl)) (by decide) (fun K hK => ?_)
  refine goes_ Tryd.func10 (by kernel_rfl) rfl #[.slice A0 l0.length c0] (by rfl) rfl rfl (by (try simp only [List.map_toArray, List.map_cons, List.map_nil]); first | done | rfl | (simp only [List.length_drop, List.length_take]; rfl)) ?_
  with_reducible refine (spec_UtfRead.calls k _ _ l0 t101 _ ?side1 ?side2 A3.out).mono ?_
  (case side1 => exact (Kd.C_below HR0.out HB.out))
  (case side2 => exact HC0.out)
  rintro e w6 ⟨v102, rfl, ho0, hb⟩
  refine ⟨_, rfl, ?_⟩
  have n0_ := Ak (Kd.R_lower ho0 (below_size (HB.out)))
  have n1_ := Ak (below_step (HB.out) hb)
  clear HB
  have HO103 := n0_
  have HB := n1_
  clear n0_ n1_
  (try clear hb)
  (try clear hb2)
  (try clear hk)
  (try clear hi)
  (try clear ho0)
  obtain ⟨Ao7, co7, eo7⟩ := Kd.R_slice HO103.out
  (first | subst eo7 | (injection eo7 with f1_ f2_ f3_; have f4_ := f1_.symm; have f5_ := f3_.symm; clear f1_ f2_ f3_; subst f4_; subst f5_))
  refine hK.out _ _ ((Kd.C_string (P := Tryd.prog) (A := A0) (c := c0) Tryd.underlying24 Tryd.underlying5 Tryd.underlying9 (Kd.C_below HR0.out HB.out))) (fun hHeld => ?_)
  clear hK K
  refine norm_ (a' := ?_) ?_ ?_
  rotate_left
  ·show Act.put _ (some 8) _ = _
   simp only [Act.put, List.setIfInBounds_toArray, List.set_cons_zero, List.set_cons_succ, i64_w, i32_w]
   rfl
  refine one_ (i := 6) (N := some 9) #[true, true, true, true, true, true, true, false, true, true, false, false, false] rfl rfl (one_of HT_.out (by kernel_rfl)) (by decide) (fun K hK => ?_)
  refine goes_ Tryd.func18 (by kernel_rfl) rfl #[.slice Ao7 t101.length co7] (by rfl) rfl rfl (by (try simp only [List.map_toArray, List.map_cons, List.map_nil]); first | done | rfl | (simp only [List.length_drop, List.length_take]; rfl)) ?_
  with_reducible refine (spec_PointsPut.calls k _ _ t101 t104 _ ?side1 ?side2 A4.out).mono ?_
  (case side1 => repeat (first | exact (Kd.R_reads' HO103.out).2.2 | (with_reducible refine Kd.C_alloc ?_ _) | (with_reducible refine Kd.C_drewN ?_ _) | (with_reducible refine Kd.C_drew ?_)))
  (case side2 => exact (Kd.R_reads' HO103.out).2.1)
  rintro e w8 ⟨v105, rfl, ho0, hb⟩
  refine ⟨_, rfl, ?_⟩
  have n0_ := Ak (Kd.R_below HO103.out hb)
  have n1_ := Ak (Kd.R_lower ho0 (below_size (HB.out)))
  have n2_ := Ak (below_step (HB.out) hb)
  clear HO103
  clear HB
  have HO103 := n0_
  have HO106 := n1_
  have HB := n2_
  clear n0_ n1_ n2_
  (try clear hb)
  (try clear hb2)
  (try clear hk)
  (try clear hi)
  (try clear ho0)
  refine hK.out _ _ ((Kd.C_string (P := Tryd.prog) (A := A0) (c := c0) Tryd.underlying24 Tryd.underlying5 Tryd.underlying9 (Kd.C_below HR0.out HB.out))) (fun hHeld => ?_)
  clear hK K
  refine norm_ (a' := ?_) ?_ ?_
  rotate_left
  ·show Act.put _ (some 9) _ = _
   simp only [Act.put, List.setIfInBounds_toArray, List.set_cons_zero, List.set_cons_succ, i64_w, i32_w]
   rfl
  refine one_ (i := 7) (N := some 10) #[true, true, true, true, true, true, true, true, true, true, false, false, false] rfl rfl (one_of HT_.out (by kernel_rfl)) (by decide) (fun K hK => ?_)
  have hcv9 := own_string (P := Tryd.prog) Tryd.underlying24 Tryd.underlying5 Tryd.underlying9 (Kd.own_of_R HO106.out)
  refine value_ (w1 := ?_) (v := ?_) (by rfl) rfl ?_ ?_
  rotate_left 2
  ·go_simp
   constructor
   ·rfl
   ·rfl
  clear hcv9
  refine hK.out _ _ ((Kd.C_string (P := Tryd.prog) (A := A0) (c := c0) Tryd.underlying24 Tryd.underlying5 Tryd.underlying9 (Kd.C_below HR0.out HB.out))) (fun hHeld => ?_)
  clear hK K
  refine norm_ (a' := ?_) ?_ ?_
  rotate_left
  ·show Act.put _ (some 10) _ = _
   simp only [Act.put, List.setIfInBounds_toArray, List.set_cons_zero, List.set_cons_succ, i64_w, i32_w]
   rfl
  refine pure_ (i := 10) (N := some 13) (v := ?_) (a' := ?_) #[true, true, true, true, true, true, true, true, true, true, true, false, false] rfl rfl (any_of HT_.out (by kernel_rfl)) (fun _ _ _ h => h) (Or.inl ⟨by rfl, ?_⟩) ?_ ?_
  rotate_left
  ·intro w'
   go_simp
   with_reducible rfl
  rotate_left
  ·simp only [Act.put, List.setIfInBounds_toArray, List.set_cons_zero, List.set_cons_succ, i64_w, i32_w]
   rfl
  refine pure_ (i := 11) (N := some 14) (v := ?_) (a' := ?_) #[true, true, true, true, true, true, true, true, true, true, true, true, false] rfl rfl (any_of HT_.out (by kernel_rfl)) (fun _ _ _ h => h) (Or.inl ⟨by rfl, ?_⟩) ?_ ?_
  rotate_left
  ·intro w'
   go_simp
   with_reducible rfl
  rotate_left
  ·simp only [Act.put, List.setIfInBounds_toArray, List.set_cons_zero, List.set_cons_succ, i64_w, i32_w]
   rfl
  refine pure_ (i := 12) (N := some 2) (v := ?_) (a' := ?_) #[true, true, true, true, true, true, true, true, true, true, true, true, true] rfl rfl (any_of HT_.out (by kernel_rfl)) (fun _ _ _ h => h) (Or.inl ⟨by rfl, ?_⟩) ?_ ?_
  rotate_left
  ·intro w'
   go_simp
   with_reducible rfl
  rotate_left
  ·simp only [Act.put, List.setIfInBounds_toArray, List.set_cons_zero, List.set_cons_succ, i64_w, i32_w]
   rfl
  refine done_ (done_of HT_.out (by kernel_rfl)) ?_
  try go_wp2
  go_ret
  exact ⟨rfl, HB.out⟩
 ·rw [if_neg c2] at H
  have c2b0 := decide_eq_false c2
  have c2b1 : decide (l0.length ≤ 3000) = false := decide_eq_false (by omega)
  clear c2
  obtain rfl := Oi H
  go_enter Tryd.func9, Tryd.ntmps9
  try go_wp2
  have n0_ := Ak (below_drew1 HB.out)
  clear HB
  have HB := n0_
  clear n0_
  refine start_ (n := 13) (S := fun w' => True) (ds := []) #[false, false, false, false, false, false, false, false, false, false, false, false, false] (by kernel_rfl) rfl rfl trivial (fun hHeld => ?_); refine with_tabW spec_UtfOk.tab1 spec_UtfOk.bits1 (fun HT_ HW_ => ?_)
  generalize w.drew = w12 at HB hHeld ⊢
  refine pure_ (i := 0) (N := some 3) (v := ?_) (a' := ?_) #[true, false, false, false, false, false, false, false, false, false, false, false, false] rfl rfl (any_of HT_.out (by kernel_rfl)) (fun _ _ _ h => h) (Or.inl ⟨by rfl, ?_⟩) ?_ ?_
  rotate_left
  ·intro w'
   go_simp
   with_reducible rfl
  rotate_left
  ·simp only [Act.put, List.setIfInBounds_toArray, List.set_cons_zero, List.set_cons_succ, i64_w, i32_w]
   rfl
  refine pure_ (i := 1) (N := some 4) (v := ?_) (a' := ?_) #[true, true, false, false, false, false, false, false, false, false, false, false, false] rfl rfl (any_of HT_.out (by kernel_rfl)) (fun _ _ _ h => h) (Or.inl ⟨by rfl, ?_⟩) ?_ ?_
  rotate_left
  ·intro w'
   go_simp
   with_reducible rfl
  rotate_left
  ·simp only [Act.put, List.setIfInBounds_toArray, List.set_cons_zero, List.set_cons_succ, i64_w, i32_w]
   rfl
  refine pure_ (i := 2) (N := some 5) (v := ?_) (a' := ?_) #[true, true, true, false, false, false, false, false, false, false, false, false, false] rfl rfl (any_of HT_.out (by kernel_rfl)) (fun _ _ _ h => h) (Or.inl ⟨by rfl, ?_⟩) ?_ ?_
  rotate_left
  ·intro w'
   go_simp
   with_reducible rfl
  rotate_left
  ·simp only [Act.put, List.setIfInBounds_toArray, List.set_cons_zero, List.set_cons_succ, i64_w, i32_w]
   rfl
  refine pure_ (i := 3) (N := some 6) (v := ?_) (a' := ?_) #[true, true, true, true, false, false, false, false, false, false, false, false, false] rfl rfl (any_of HT_.out (by kernel_rfl)) (fun _ _ _ h => h) (Or.inl ⟨by rfl, ?_⟩) ?_ ?_
  rotate_left
  ·intro w'
   go_simp
   with_reducible rfl
  rotate_left
  ·simp only [Act.put, List.setIfInBounds_toArray, List.set_cons_zero, List.set_cons_succ, i64_w, i32_w]
   rfl
  refine pure_ (i := 4) (N := some 7) (v := undef) (a' := ?_) #[true, true, true, true, true, false, false, false, false, false, false, false, false] rfl rfl (any_of HT_.out (by kernel_rfl)) (fun _ _ _ h => h) (Or.inr ⟨by rfl, rfl⟩) ?_ ?_
  rotate_left
  ·simp only [Act.put, List.setIfInBounds_toArray, List.set_cons_zero, List.set_cons_succ, i64_w, i32_w]
   rfl
  refine pure_ (i := 5) (N := some 8) (v := undef) (a' := ?_) #[true, true, true, true, true, true, false, false, false, false, false, false, false] rfl rfl (any_of HT_.out (by kernel_rfl)) (fun _ _ _ h => h) (Or.inr ⟨by rfl, rfl⟩) ?_ ?_
  rotate_left
  ·simp only [Act.put, List.setIfInBounds_toArray, List.set_cons_zero, List.set_cons_succ, i64_w, i32_w]
   rfl
  refine pure_ (i := 6) (N := some 9) (v := undef) (a' := ?_) #[true, true, true, true, true, true, true, false, false, false, false, false, false] rfl rfl (any_of HT_.out (by kernel_rfl)) (fun _ _ _ h => h) (Or.inr ⟨by rfl, rfl⟩) ?_ ?_
  rotate_left
  ·simp only [Act.put, List.setIfInBounds_toArray, List.set_cons_zero, List.set_cons_succ, i64_w, i32_w]
   rfl
  refine pure_ (i := 7) (N := some 10) (v := undef) (a' := ?_) #[true, true, true, true, true, true, true, true, false, false, false, false, false] rfl rfl (any_of HT_.out (by kernel_rfl)) (fun _ _ _ h => h) (Or.inr ⟨by rfl, rfl⟩) ?_ ?_
  rotate_left
  ·simp only [Act.put, List.setIfInBounds_toArray, List.set_cons_zero, List.set_cons_succ, i64_w, i32_w]
   rfl
  refine pure_ (i := 8) (N := some 11) (v := undef) (a' := ?_) #[true, true, true, true, true, true, true, true, true, false, false, false, false] rfl rfl (any_of HT_.out (by kernel_rfl)) (fun _ _ _ h => h) (Or.inr ⟨by rfl, rfl⟩) ?_ ?_
  rotate_left
  ·simp only [Act.put, List.setIfInBounds_toArray, List.set_cons_zero, List.set_cons_succ, i64_w, i32_w]
   rfl
  refine pure_ (i := 9) (N := some 12) (v := undef) (a' := ?_) #[true, true, true, true, true, true, true, true, true, true, false, false, false] rfl rfl (any_of HT_.out (by kernel_rfl)) (fun _ _ _ h => h) (Or.inr ⟨by rfl, rfl⟩) ?_ ?_
  rotate_left
  ·simp only [Act.put, List.setIfInBounds_toArray, List.set_cons_zero, List.set_cons_succ, i64_w, i32_w]
   rfl
  refine pure_ (i := 10) (N := some 13) (v := undef) (a' := ?_) #[true, true, true, true, true, true, true, true, true, true, true, false, false] rfl rfl (any_of HT_.out (by kernel_rfl)) (fun _ _ _ h => h) (Or.inr ⟨by rfl, rfl⟩) ?_ ?_
  rotate_left
  ·simp only [Act.put, List.setIfInBounds_toArray, List.set_cons_zero, List.set_cons_succ, i64_w, i32_w]
   rfl
  refine pure_ (i := 11) (N := some 14) (v := ?_) (a' := ?_) #[true, true, true, true, true, true, true, true, true, true, true, true, false] rfl rfl (any_of HT_.out (by kernel_rfl)) (fun _ _ _ h => h) (Or.inl ⟨by rfl, ?_⟩) ?_ ?_
  rotate_left
  ·intro w'
   go_simp
   with_reducible rfl
  rotate_left
  ·simp only [Act.put, List.setIfInBounds_toArray, List.set_cons_zero, List.set_cons_succ, i64_w, i32_w]
   rfl
  refine pure_ (i := 12) (N := some 2) (v := ?_) (a' := ?_) #[true, true, true, true, true, true, true, true, true, true, true, true, true] rfl rfl (any_of HT_.out (by kernel_rfl)) (fun _ _ _ h => h) (Or.inl ⟨by rfl, ?_⟩) ?_ ?_
  rotate_left
  ·intro w'
   go_simp
   with_reducible rfl
  rotate_left
  ·simp only [Act.put, List.setIfInBounds_toArray, List.set_cons_zero, List.set_cons_succ, i64_w, i32_w]
   rfl
  refine done_ (done_of HT_.out (by kernel_rfl)) ?_
  try go_wp2
  go_ret
  exact ⟨rfl, HB.out⟩
def laws_FnEscape.l1 : Nat → List Int → Bool → List Int → Int → Option (List Int)
 | 0, _, _, _, _ => none
 | k + 1, m, v, o, i => if i < (m.length : Int) then (if 0 ≤ i then (if o.length < 1000000 then (if rd m i = 38 then (impl_RefRead.f k m i v).bind fun q => if i < q.2 then (if q.1.length < 1000000 then laws_FnEscape.l1 k m v (o ++ q.1) q.2 else none) else none else laws_FnEscape.l1 k m v (o ++ [rd m i]) (wrap64 (i + 1))) else none) else none) else some o
def laws_FnEscape.clean (v : Bool) (e : ByteArray) : Prop := ∀ i : Int, 0 ≤ i → i < (e.size : Int) → (v = true → bt e i ≠ 34) ∧ (v = false → bt e i ≠ 60 ∧ bt e i ≠ 62)
def laws_FnEscape.Good (k : Nat) (l : List Int) : Prop := l.length ≤ 1048576 → ∃ s v e, spec_DrawEscape.f k l = some (s, v) ∧ s.size ≤ 1048576 ∧ e = impl_Escape.f s v ∧ e.size ≤ 100000000 ∧ spec_Escape.f k s v = some e ∧ laws_FnEscape.clean v e ∧ s.size ≤ e.size ∧ ∃ u, spec_UtfOk.f k (bytesOf s) = some u ∧ (u = true → e.size ≤ 3000 → ∃ m o t, spec_UtfRead.f k (bytesOf e) = some m ∧ laws_FnEscape.l1 k m v [] 0 = some o ∧ impl_PointsPut.f k o = some t ∧ strOfNums t = s)
theorem dr_below {w w' : World} (h : Drawn0 w w') : Below w.heap.size w w' := by
 obtain ⟨n, rfl⟩ := h
 exact pw_below_drewN (Below.refl _ _) n
structure EsW (w W : World) (b : Nat) (Am : Option Addr) (cm : Nat) (m : List Int) (v : Value) (o : List Int) : Prop where
 rm : Kd.R (Kd.int .i64) 3 W w.heap.size (fun k_ => k_ < b) (.slice Am m.length cm) m
 ro : Kd.R (Kd.int .i64) 3 W w.heap.size (fun k_ => b ≤ k_) v o
 low : Below w.heap.size w W
 hb : b ≤ W.heap.size
section
variable {w W W2 : World} {b cm : Nat} {Am : Option Addr} {m o o2 : List Int} {v v2 : Value}
theorem EsW.below (h : EsW w W b Am cm m v o) (hb : Below W.heap.size W W2) : EsW w W2 b Am cm m v o := ⟨Kd.R_below h.rm hb, Kd.R_below h.ro hb, below_step h.low hb, Nat.le_trans h.hb hb.size⟩
theorem EsW.grown (h : EsW w W b Am cm m v o) (ho : Kd.R (Kd.int .i64) 3 W2 w.heap.size (fun k_ => b ≤ k_) v2 o2) (hb : Below w.heap.size w W2) (hg : W.grownBy W2 v.ownBlock) : EsW w W2 b Am cm m v2 o2 := by
 have hk : Kept W W2 (fun k_ => some k_ = v.ownBlock) := Kept.of_grown hg (Kept.refl _ _) (fun k e => .inl e.symm)
 exact ⟨Kd.R_kept h.rm hk (fun k hlt e => by have := h.ro.1 k e.symm; omega), ho, hb, Nat.le_trans h.hb hk.1⟩
end
theorem laws_FnEscape.calls (k : Nat) (A0 : Option Addr) (c0 : Nat) (l : List Int) (q : Int) (w : World) (hq : w.cell? ⟨0, 0, none⟩ = some (.int .i64 q)) (hr0 : Kd.C (Kd.int .u8) w A0 l.length l) (hc0 : l.length ≤ c0) (h : laws_FnEscape.Good k l) :
 Calls Tryd.prog 4 #[.slice A0 l.length c0] w fun e w' => e = .returned (.bool true) ∧ Below w.heap.size w w' := by
 have HC := Ak hr0
 have HCC := Ak hc0
 have HQ := Ak hq
 clear hr0 hc0 hq
 by_cases c1 : (l.length : Int) > 1048576
 ·have HA := Ak (show laws_big.f l = some true by unfold laws_big.f; rw [decide_eq_true c1])
  clear c1 h
  go_enter Tryd.func4, Tryd.ntmps4
  go_wp2_with (first | (go_at_call 7; (with_reducible refine (laws_big.calls A0 c0 l true _ HC.out HCC.out HA.out).mono ?_); rintro e_ w1 ⟨rfl, hd⟩; have HB1 := Ak (dr_below hd); clear hd))
  go_ret
  exact ⟨rfl, HB1.out⟩
 ·have HA := Ak (show laws_big.f l = some false by unfold laws_big.f; rw [decide_eq_false c1])
  obtain ⟨s, v, e, E1, hs, he, hesz, E2, hcl, hge, u, E3, hrest⟩ := h (by omega)
  have HE1 := Ak E1
  have HE2 := Ak E2
  have HE3 := Ak E3
  have HS := Ak hs
  have HCL := Ak hcl
  have HGE := Ak hge
  have HES := Ak hesz
  have HR := Ak hrest
  have HI := Ak (fun w1 hm1 => he ▸ impl_Escape.calls s v q w1 hs hm1)
  clear c1 h E1 E2 E3 hs hcl hge hrest he hesz
  have hne : (e.toList != e.toList) = false := by simp
  go_enter Tryd.func4, Tryd.ntmps4
  go_wp2_with (first | (go_at_call 7; (with_reducible refine (laws_big.calls A0 c0 l false _ HC.out HCC.out HA.out).mono ?_); rintro e_ w1 ⟨rfl, hd⟩; have HB1 := Ak (dr_below hd); clear hd) | (go_at_call 8; (with_reducible refine (spec_DrawEscape.calls k A0 c0 l s v _ (Kd.C_below HC.out HB1.out) HCC.out HE1.out).mono ?_); rintro e_ w2 ⟨rfl, hb⟩; have HB2 := Ak (below_step HB1.out hb); clear hb) | (go_at_call 6; (refine (HI.out _ (pw_cell_below HB2.out HQ.out)).mono ?_); rintro e_ w3 ⟨rfl, hb⟩; have HB3 := Ak (below_step HB2.out hb); clear hb) | (go_at_call 5; (with_reducible refine (spec_Escape.calls k s v e _ HE2.out).mono ?_); rintro e_ w4 ⟨rfl, hb⟩; have HB4 := Ak (below_step HB3.out hb); clear hb))
  clear hne HE1 HE2 HI HA HB1 HB2 HB3
  go_loopg [6] (e.size + 1) (fun kq v6 w' => ∃ (i : Int), v6 = .int .i64 i ∧ Aside0 (0 ≤ i ∧ i ≤ (e.size : Int) ∧ (e.size : Int) < i + kq) ∧ Aside0 (Below w.heap.size w w'))
  case atStart => exact ⟨0, rfl, ⟨by omega, by omega, by omega⟩, HB4⟩
  case round =>
   clear HB4
   obtain ⟨i, rfl, HK, HB⟩ := hrel
   have hK := HK.out
   cases gk with
   | zero => omega
   | succ k1 =>
    by_cases d1 : i < (e.size : Int)
    ·have d1b : decide (i < (e.size : Int)) = true := decide_eq_true d1
     have hcl := HCL.out i hK.1 d1
     have hx7 := bt_at e i
     have d2 := eq_true hK.1
     have HD := Ak d1
     have hw : wrap64 (i + 1) = i + 1 := by have := HES.out; unfold wrap64; omega
     replace d1 := eq_true d1
     cases v with
     | true =>
      have d3 : (bt e i == 34) = false := beq_eq_false_iff_ne.2 (hcl.1 rfl)
      clear hcl hK
      go_wp2
      go_roundg k1
      case measure => omega
      case rel => exact ⟨_, rfl, ⟨by have := HK.out; omega, by have := HD.out; omega, by have := HK.out; omega⟩, HB⟩
     | false =>
      have d3 : (bt e i == 60) = false := beq_eq_false_iff_ne.2 (hcl.2 rfl).1
      have d4 : (bt e i == 62) = false := beq_eq_false_iff_ne.2 (hcl.2 rfl).2
      clear hcl hK
      go_wp2
      go_roundg k1
      case measure => omega
      case rel => exact ⟨_, rfl, ⟨by have := HK.out; omega, by have := HD.out; omega, by have := HK.out; omega⟩, HB⟩
    ·have d1b : decide (i < (e.size : Int)) = false := decide_eq_false d1
     clear d1 hK HK
     have hsz : s.size ≤ 140737488355328 := by have := HS.out; omega
     have hez : e.size ≤ 140737488355328 := by have := HES.out; omega
     have hge : decide ((s.size : Int) ≤ (e.size : Int)) = true := decide_eq_true (by have := HGE.out; omega)
     have hge2 : decide ((e.size : Int) ≥ (s.size : Int)) = true := decide_eq_true (by have := HGE.out; omega)
     have hge3 : decide (s.size ≤ e.size) = true := decide_eq_true HGE.out
     have hge4 : (s.size ≤ e.size) = True := eq_true HGE.out
     cases u with
     | false =>
      go_wp2_with (first | ((with_reducible refine gate_dst (N := 57) rfl ?_); refine conv_V _ 5 rfl (N' := 57) rfl 9 24 _ rfl s rfl Tryd.underlying9 Tryd.underlying24 Tryd.underlying5 hsz (ok := fun k_ => wr.heap.size ≤ k_) (Nat.le_refl _) (Below.refl _ _) (Nat.le_refl _) ?_; intro v5_ w5 ho hb hg_ hnew_; obtain ⟨A5, c5, rfl⟩ := Kd.V_slice ho; have HO5 := Ak (Kd.V_reads' ho); have HB5 := Ak (below_step HB.out hb); clear ho hb hg_ hnew_) | (go_at_call 9; (with_reducible refine (spec_UtfOk.calls k A5 c5 (bytesOf s) false _ HO5.out.2.2 HO5.out.2.1 HE3.out).mono ?_); rintro e_ w6 ⟨rfl, hb⟩; have HB6 := Ak (below_step HB5.out hb); clear hb))
      go_ret
      exact ⟨by first | rfl | (simp; done) | (simp [*]; done), HB6.out⟩
     | true =>
      by_cases d5 : e.size ≤ 3000
      ·have d5b : decide ((e.size : Int) > 3000) = false := decide_eq_false (by omega)
       have d5c : decide (3000 < (e.size : Int)) = false := decide_eq_false (by omega)
       obtain ⟨m, o, t, F1, F2, F3, F4⟩ := HR.out rfl d5
       have HF1 := Ak F1
       have HF2 := Ak F2
       have HF3 := Ak F3
       have HF4 := Ak F4
       clear F1 F2 F3 F4 d5 HR
       go_wp2_with (first | ((with_reducible refine gate_dst (N := 57) rfl ?_); refine conv_V _ 5 rfl (N' := 57) rfl 9 24 _ rfl s rfl Tryd.underlying9 Tryd.underlying24 Tryd.underlying5 hsz (ok := fun k_ => wr.heap.size ≤ k_) (Nat.le_refl _) (Below.refl _ _) (Nat.le_refl _) ?_; intro v5_ w5 ho hb hg_ hnew_; obtain ⟨A5, c5, rfl⟩ := Kd.V_slice ho; have HO5 := Ak (Kd.V_reads' ho); have HB5 := Ak (below_step HB.out hb); clear ho hb hg_ hnew_) | (go_at_call 9; (with_reducible refine (spec_UtfOk.calls k A5 c5 (bytesOf s) true _ HO5.out.2.2 HO5.out.2.1 HE3.out).mono ?_); rintro e_ w6 ⟨rfl, hb⟩; have HB6 := Ak (below_step HB5.out hb); clear hb) | ((with_reducible refine gate_dst (N := 76) rfl ?_); refine conv_V _ 5 rfl (N' := 76) rfl 9 24 _ rfl e rfl Tryd.underlying9 Tryd.underlying24 Tryd.underlying5 hez (ok := fun k_ => w6.heap.size ≤ k_) (Nat.le_refl _) (Below.refl _ _) (Nat.le_refl _) ?_; intro v7_ w7 ho hb hg_ hnew_; obtain ⟨A7, c7, rfl⟩ := Kd.V_slice ho; have HO7 := Ak (Kd.V_reads' ho); have HB7 := Ak (below_step HB6.out hb); clear ho hb hg_ hnew_) | (go_at_call 10; (with_reducible refine (spec_UtfRead.calls k A7 c7 (bytesOf e) m _ HO7.out.2.2 HO7.out.2.1 HF1.out).mono ?_); rintro e_ w8 ⟨vm, rfl, hr, hb⟩; obtain ⟨Am, cm, rfl⟩ := Kd.R_slice hr; have HB8 := Ak (below_step HB7.out hb); have HM := Ak (Kd.R_mono (Kd.R_bound (Kd.R_lower hr HB7.out.size)) (ok' := fun k_ => k_ < w8.heap.size) (fun k_ hk_ => hk_.2.2.1)); clear hr hb) | ((with_reducible refine gate_dst (N := 78) rfl ?_); refine Kd.R_lit (Kd.int .i64) _ 3 ?hg (N := 78) ?hd (xs := ([] : List Int)) (inner := []) (ok := fun _ => True) (okp := fun _ => True) ?hr ?hp (fun _ hk => hk) trivial (Below.refl _ _) (Nat.le_refl _) (by simp) ?_; (case hd => rfl); (case hg => rfl); (case hr => first | (go_simp; done) | (go_simp; rfl)); (case hp => exact (Reps.none _ _)); intro vz w9 hz hb hg_ hnew_; obtain ⟨b, hbb⟩ : ∃ b, b = w8.heap.size := ⟨_, rfl⟩; have HP := Ak (show EsW w w9 b Am cm m vz [] from ⟨Kd.R_below (hbb ▸ HM.out) hb, Kd.R_lower (Kd.R_mono (Kd.R_bound hz) (fun k_ hk_ => by rw [hbb]; exact hk_.2.1)) HB8.out.size, below_step HB8.out hb, by rw [hbb]; exact hb.size⟩); clear hz hb hg_ hnew_ hbb))
       clear d1b d5b d5c hsz hez hge hge2 hge3 hge4 HB HB5 HB6 HB7 HB8 HO5 HO7 HM
       go_loopg [8, 9] k (fun kq v8 v9 w' => ∃ (o1 : List Int) (i : Int), v9 = .int .i64 i ∧ Aside0 (laws_FnEscape.l1 kq m v o1 i = some o) ∧ Aside0 (kq ≤ k) ∧ Aside0 (EsW w w' b Am cm m v8 o1))
       case atStart => exact ⟨_, _, rfl, HF2, ⟨Nat.le_refl _⟩, HP⟩
       case round =>
        clear HF2 HP
        obtain ⟨o1, i, rfl, HA, HJ, HP⟩ := hrel
        cases gk with
        | zero => exact absurd HA.out (by simp [laws_FnEscape.l1])
        | succ k2 =>
         have H := HA.out
         clear HA
         simp only [laws_FnEscape.l1] at H
         by_cases q1 : i < (m.length : Int)
         ·rw [if_pos q1] at H
          by_cases q2 : 0 ≤ i
          ·rw [if_pos q2] at H
           by_cases q3 : o1.length < 1000000
           ·rw [if_pos q3] at H
            have HL := Ak q3
            clear q3
            have q1b : decide (i < (m.length : Int)) = true := decide_eq_true q1
            obtain ⟨ad, e1, hx⟩ := Kd.at_int (Kd.R_reads' HP.out.rm).2.2 i q2 q1
            subst e1
            replace q1 := eq_true q1
            replace q2 := eq_true q2
            by_cases q4 : rd m i = 38
            ·rw [if_pos q4] at H
             obtain ⟨⟨q1_, q2_⟩, A1, H⟩ := Ob H
             simp only at H
             by_cases q5 : i < q2_
             ·rw [if_pos q5] at H
              by_cases q6 : q1_.length < 1000000
              ·rw [if_pos q6] at H
               have HA1 := Ak A1
               have HA := Ak H
               have HL2 := Ak q6
               have q4b : (rd m i != 38) = false := by rw [q4]; rfl
               have q5b : decide (q2_ ≤ i) = false := decide_eq_false (by omega)
               clear A1 H q4 q5 q6
               go_wp2_with (first | (go_at_call 11; (with_reducible refine (impl_RefRead.calls k2 (some ad) cm m i v q1_ q2_ _ (Kd.R_reads' HP.out.rm).2.2 (Kd.R_reads' HP.out.rm).2.1 HA1.out).mono ?_); rintro e_ wA ⟨vq, rfl, hr, hb⟩; obtain ⟨Aq, cq, rfl⟩ := Kd.R_slice hr; have HP2 := Ak (HP.out.below hb); have HT := Ak (Kd.R_reads' hr); clear hr hb) | ((with_reducible refine gate_builtin (b := .append) (xs := #[.tmp 107, .tmp 108]) rfl ?_); at_builtin; refine Kd.R_append_rows (Kd.int .i64) (w0 := w) w.heap.size rfl (.tmp 107) (.tmp 108) 28 3 (.int .i64 0) 8 rfl Tryd.underlying28 info3 rfl (by decide) (by omega) u8 o1 q1_ _ _ _ (fun k_ => b ≤ k_) (fun _ => False) rfl rfl HP2.out.ro HT.out.2.2 (fun _ _ h => h) (fun _ h => h.elim) (fun k_ hk => Nat.le_trans HP2.out.hb hk) HP2.out.low (below_size HP2.out.low) ?aL ?_; (case aL => have := HL.out; have := HL2.out; omega); intro v1 wB ho hb hg hat; have HP3 := Ak (HP2.out.grown ho hb hg); clear ho hb hg hat))
               go_roundg k2
               case measure => have := HJ.out; omega
               case rel => exact ⟨_, _, rfl, HA, ⟨by have := HJ.out; omega⟩, HP3⟩
              ·rw [if_neg q6] at H; cases H
             ·rw [if_neg q5] at H; cases H
            ·rw [if_neg q4] at H
             have HA := Ak H
             have q4b : (rd m i != 38) = true := bne_iff_ne.2 q4
             clear H q4
             go_wp2_with (first | ((with_reducible refine gate_builtin (b := .append) (xs := #[.tmp 88, .tmp 93]) rfl ?_); at_builtin; refine Kd.R_append (Kd.int .i64) (w0 := w) w.heap.size rfl (.tmp 88) (.tmp 93) 28 3 (.int .i64 0) 8 rfl Tryd.underlying28 info3 rfl (by decide) (by omega) u8 o1 (rd m i) [.int .i64 (rd m i)] (fun k_ => b ≤ k_) (fun _ => False) rfl rfl ?aP (fun _ hk => hk.elim) (fun k_ hk => Nat.le_trans HP.out.hb hk) HP.out.ro HP.out.low (below_size HP.out.low) ?aL ?_; (case aP => exact rfl); (case aL => have := HL.out; omega); intro v1 wB ho hb hg hat; have HP3 := Ak (HP.out.grown ho hb hg); clear ho hb hg hat))
             go_roundg k2
             case measure => have := HJ.out; omega
             case rel => exact ⟨_, _, rfl, HA, ⟨by have := HJ.out; omega⟩, HP3⟩
           ·rw [if_neg q3] at H; cases H
          ·rw [if_neg q2] at H; cases H
         ·rw [if_neg q1] at H
          obtain rfl := Oi H
          clear H
          have q1b : decide (i < (m.length : Int)) = false := decide_eq_false q1
          clear q1
          obtain ⟨Ao, co, rfl⟩ := Kd.R_slice HP.out.ro
          have HO := Ak (Kd.R_reads' HP.out.ro)
          have heq : (s.toList == s.toList) = true := by simp
          go_wp2_with (first | (go_at_call 12; (with_reducible refine (impl_PointsPut.calls k Ao co o1 t _ HO.out.2.2 HO.out.2.1 HF3.out).mono ?_); rintro e_ wC ⟨vt, rfl, hr, hb⟩; have hcv := own_string (P := Tryd.prog) Tryd.underlying24 Tryd.underlying5 Tryd.underlying9 (Kd.own_of_R hr); rw [HF4.out] at hcv; have HB9 := Ak (below_step HP.out.low hb); clear hr hb))
          go_ret
          exact ⟨rfl, HB9.out⟩
      ·have d5b : decide ((e.size : Int) > 3000) = true := decide_eq_true (by omega)
       have d5c : decide (3000 < (e.size : Int)) = true := decide_eq_true (by omega)
       clear d5
       go_wp2_with (first | ((with_reducible refine gate_dst (N := 57) rfl ?_); refine conv_V _ 5 rfl (N' := 57) rfl 9 24 _ rfl s rfl Tryd.underlying9 Tryd.underlying24 Tryd.underlying5 hsz (ok := fun k_ => wr.heap.size ≤ k_) (Nat.le_refl _) (Below.refl _ _) (Nat.le_refl _) ?_; intro v5_ w5 ho hb hg_ hnew_; obtain ⟨A5, c5, rfl⟩ := Kd.V_slice ho; have HO5 := Ak (Kd.V_reads' ho); have HB5 := Ak (below_step HB.out hb); clear ho hb hg_ hnew_) | (go_at_call 9; (with_reducible refine (spec_UtfOk.calls k A5 c5 (bytesOf s) true _ HO5.out.2.2 HO5.out.2.1 HE3.out).mono ?_); rintro e_ w6 ⟨rfl, hb⟩; have HB6 := Ak (below_step HB5.out hb); clear hb))
       go_ret
       exact ⟨by first | rfl | (simp; done) | (simp [*]; done), HB6.out⟩
def laws_FnEscape.Pure : Prop := ∀ (l0 : List Int), l0.length ≤ maxLen → l0.length * 1 ≤ 140737488351232 → (∀ x ∈ l0, (Lit.int .u8 x).wf = true) → ∃ k, laws_FnEscape.Good k l0
theorem laws_FnEscape.walk (P : laws_FnEscape.Pure) (a0 : Option Addr) (len0 cap0 : Nat) (z0 : List Int) (q : Int) (w : World) (hq : w.cell? ⟨0, 0, none⟩ = some (.int .i64 q)) (w0 : (a0 = none ∧ len0 = 0 ∧ cap0 = 0 ∧ z0 = []) ∨ ∃ x, a0 = some x ∧ len0 ≤ cap0 ∧ cap0 ≤ maxLen ∧ z0.length = cap0 ∧ (∀ i, i < z0.length → w.cell? (x.add i) = some (.int .u8 (z0.getD i 0))) ∧ ∀ n ∈ z0, (Lit.int .u8 n).wf = true) (y0 : len0 * 1 ≤ 140737488351232) :
 Calls Tryd.prog 4 #[.slice a0 len0 cap0] w fun e w' => e = .returned (.bool true) ∧ Below w.heap.size w w' := by
 obtain ⟨l0, rfl, hr0, hm0, hw0, hc0⟩ := ReadsInt.ofRowC w0
 obtain ⟨k, h⟩ := P l0 hm0 y0 hw0
 exact laws_FnEscape.calls k _ _ l0 q w hq (Kd.C_of_reads (d := (0 : Int)) (h1 := fun _ => rfl) hr0) hc0 h
end Go.Proofs.YtlnmmcipioagaaaDoor.X
