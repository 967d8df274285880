-- Written by this project's wip/x/xprint.py (over the kit's print) out of the translation. Lean checks it.
import Derived.Test.YtlnmmcipioagaaaDoorXx0
import Derived.Lib.SlBytesConst
namespace Go.Proofs.YtlnmmcipioagaaaDoor.X
open Go.RowKit Go.Proofs.YtlnmmcipioagaaaDoorW.PrintWords Go.Proofs.YtlnmmcipioagaaaDoorW.PrintLast Go.Proofs.YtlnmmcipioagaaaDoorW.PrintMore
attribute [local go_sem] max2_int min2_int max_two min_two max_three min_three max_four min_four   -- for this text's walks alone
set_option linter.unusedVariables false
set_option linter.unusedSimpArgs false

/-! ### spec_Escape: function 5 -/
-- IMPORT Derived.Lib.SlBytesConst
theorem C_lit {W : World} {g : Nat} {xs : List Int} {e : TypeId} {fr : Nat × Nat} (h : W.heap[g]? = some (.cells (xs.map (Value.int .u8)).toArray e fr)) (hl : xs.length ≤ 9223372036854775807) : (Kd.int .u8).C W (some ⟨g, 0, none⟩) xs.length xs := by
  refine ⟨rfl, hl, fun _ => ⟨_, rfl, fun j p hj => ⟨[.int .u8 p], rfl, rfl, fun i u hu => ?_⟩⟩⟩
  cases i with
  | succ i => simp at hu
  | zero =>
    have e0 : (⟨g, 0, none⟩ : Addr).add (j * (Kd.int .u8).sz + 0) = ⟨g, j, none⟩ := by
      have e1 : (Kd.int .u8).sz = 1 := rfl
      simp [Addr.add, e1]
      exact fun e_ => e_.symm
    have hu' : u = .int .u8 p := by simpa using hu.symm
    rw [e0, hu']
    simp [World.cell?, h, hj]
def spec_Escape.one (v : Bool) (b : Int) : List Int := if b = 38 then [38, 97, 109, 112, 59] else if b = 34 ∧ v = true then [38, 113, 117, 111, 116, 59] else if b = 60 ∧ v = false then [38, 108, 116, 59] else if b = 62 ∧ v = false then [38, 103, 116, 59] else [b % 256]
def spec_Escape.l0 : Nat → ByteArray → Bool → List Int → Int → Option ByteArray
  | 0, _, _, _, _ => none
  | k + 1, s, v, o, i => if i < (s.size : Int) then (if 0 ≤ i then (if o.length < 100000000000 then (if i < 1000000000000 then (if bt s i = 194 ∧ i + 1 < (s.size : Int) ∧ bt s (i + 1) = 160 then spec_Escape.l0 k s v (o ++ [38, 110, 98, 115, 112, 59]) (wrap64 (i + 1 + 1)) else spec_Escape.l0 k s v (o ++ spec_Escape.one v (bt s i)) (wrap64 (i + 1))) else none) else none) else none) else some (strOfNums o)
def spec_Escape.f (k : Nat) (s : ByteArray) (v : Bool) : Option ByteArray := spec_Escape.l0 k s v [] 0
theorem spec_Escape.mono0 : ∀ k a b c d, LeO (spec_Escape.l0 k a b c d) (spec_Escape.l0 (k + 1) a b c d)
  | 0 => fun _ _ _ _ r h => by simp [spec_Escape.l0] at h
  | k + 1 => fun a b c d => by
    rw [spec_Escape.l0, spec_Escape.l0]
    exact LeO.ite (LeO.ite (LeO.ite (LeO.ite (LeO.ite (spec_Escape.mono0 k _ _ _ _) (spec_Escape.mono0 k _ _ _ _)) (LeO.refl _)) (LeO.refl _)) (LeO.refl _)) (LeO.refl _)
theorem spec_Escape.mono : ∀ a0 a1 k, LeO (spec_Escape.f k a0 a1) (spec_Escape.f (k + 1) a0 a1) := fun _ _ k => spec_Escape.mono0 k _ _ _ _
set_option maxHeartbeats 8000000 in
set_option maxRecDepth 100000 in
theorem spec_Escape.calls (k : Nat) (s : ByteArray) (v : Bool) (r : ByteArray) (w : World) (h : spec_Escape.f k s v = some r) :
    Calls Tryd.prog 5 #[.string s, .bool v] w fun e w' => e = .returned (.string r) ∧ Below w.heap.size w w' := by
  have HA := Aside0.mk (show spec_Escape.l0 k s v [] 0 = some r from h)
  clear h
  have kc := fun (w : World) (C : Array Value) (n c : Nat) => Lib.run_convert_bytes_const (P := Tryd.prog) w 24 5 C n c Tryd.underlying24 Tryd.underlying5
  go_enter Tryd.func5, Tryd.ntmps5
  go_wp2_with (first | ((with_reducible refine gate_dst (N := 7) rfl ?_); refine Kd.R_lit (Kd.int .u8) _ 5 ?hg (N := 7) ?hd (xs := ([] : List Int)) (inner := []) (ok := fun _ => True) (okp := fun _ => True) ?hr ?hp (fun _ hk => hk) trivial (Below.refl _ _) (Nat.le_refl _) (by simp) ?_; (case hd => rfl); (case hg => rfl); (case hr => first | (go_simp; done) | (go_simp; rfl)); (case hp => exact (Reps.none _ _)); intro vz w2 hz hb hg_ hnew_; have HP := Aside0.mk (show Kd.R (Kd.int .u8) 5 w2 w.heap.size (fun _ => True) vz [] ∧ Below w.heap.size w w2 from ⟨hz, hb⟩); clear hz hb hg_ hnew_))
  go_loopg [5, 6] k (fun kq v5 v6 w' => ∃ (o : List Int) (i : Int), v6 = .int .i64 i ∧ Aside0 (spec_Escape.l0 kq s v o i = some r) ∧ Aside0 (kq ≤ k) ∧ Aside0 (Kd.R (Kd.int .u8) 5 w' w.heap.size (fun _ => True) v5 o ∧ Below w.heap.size w w'))
  case atStart => exact ⟨_, _, rfl, HA, ⟨Nat.le_refl _⟩, HP⟩
  case round =>
    clear HA HP
    obtain ⟨o, i, rfl, HA, HK, HP⟩ := hrel
    cases gk with
    | zero => exact absurd HA.out (by simp [spec_Escape.l0])
    | succ k1 =>
      have H := HA.out
      clear HA
      simp only [spec_Escape.l0] at H
      by_cases c1 : i < (s.size : Int)
      · rw [if_pos c1] at H
        by_cases c2 : 0 ≤ i
        · rw [if_pos c2] at H
          by_cases c3 : o.length < 100000000000
          · rw [if_pos c3] at H
            have HL := Aside0.mk c3
            clear c3
            by_cases c4 : i < 1000000000000
            · rw [if_pos c4] at H
              have c1b : decide (i < (s.size : Int)) = true := decide_eq_true c1
              have hw1 : wrap64 (i + 1) = i + 1 := by unfold wrap64; omega
              have c5 : 0 ≤ i + 1 := by omega
              clear c4
              have hx7 := bt_at s i
              have hy7 := bt_at s (i + 1)
              have hb0 : 0 ≤ bt s i ∧ bt s i ≤ 255 := bt_range s i
              replace c1 := eq_true c1
              replace c2 := eq_true c2
              replace c5 := eq_true c5
              by_cases e38 : bt s i = 38
              · rw [if_neg (fun e => by have := e.1; omega)] at H
                have c38b : (bt s i == 38) = true := beq_iff_eq.2 e38
                have HA := Aside0.mk (show spec_Escape.l0 k1 s v (o ++ [38, 97, 109, 112, 59]) (wrap64 (i + 1)) = some r from by rw [show spec_Escape.one v (bt s i) = [38, 97, 109, 112, 59] from by unfold spec_Escape.one; simp [e38]] at H; exact H)
                clear H e38 hb0
                go_wp2_with (first | ((with_reducible refine gate_builtin (b := .append) (xs := #[.tmp 25, .tmp 27]) rfl ?_); at_builtin; refine Kd.R_append_rows (Kd.int .u8) (w0 := w) w.heap.size rfl (.tmp 25) (.tmp 27) 24 5 (.int .u8 0) 1 rfl Tryd.underlying24 info5 rfl (by decide) (by omega) u5 o [38, 97, 109, 112, 59] _ _ _ (fun _ => True) (fun _ => False) rfl rfl (Kd.R_below HP.out.1 (below_alloc (Below.refl _ _) _)) (C_lit (xs := [38, 97, 109, 112, 59]) (blk_new _ _) (by decide)) (fun _ _ h => h) (fun _ h => h.elim) (fun _ _ => trivial) (below_alloc HP.out.2 _) (below_size (below_alloc HP.out.2 _)) ?aL ?_; (case aL => have := HL.out; (try simp only [List.length_cons, List.length_nil]); omega); intro v1 w1 ho hb hg hat; have HP1 := Aside0.mk (And.intro ho hb); clear ho hb hg hat))
                go_roundg k1
                case measure => have := HK.out; omega
                case rel => exact ⟨_, _, rfl, HA, ⟨by have := HK.out; omega⟩, HP1⟩
              · have c38b : (bt s i == 38) = false := beq_eq_false_iff_ne.2 e38
                go_upto_region 8 with (fail)
                go_cut [29] from 30 to 47 (fun v29 wc => v29 = .bool (decide (bt s i = 194 ∧ i + 1 < (s.size : Int) ∧ bt s (i + 1) = 160)) ∧ Aside0 (Kd.R (Kd.int .u8) 5 wc w.heap.size (fun _ => True) u5 o ∧ Below w.heap.size w wc))
                case first =>
                  by_cases d1 : bt s i = 194
                  · have d1b : (bt s i == 194) = true := beq_iff_eq.2 d1
                    have D1 := Aside0.mk d1
                    clear d1
                    by_cases d2 : i + 1 < (s.size : Int)
                    · have d2b : decide (i + 1 < (s.size : Int)) = true := decide_eq_true d2
                      have D2 := Aside0.mk d2
                      have d2c := eq_true d2
                      clear d2
                      by_cases d3 : bt s (i + 1) = 160
                      · have d3b : (bt s (i + 1) == 160) = true := beq_iff_eq.2 d3
                        have D3 := Aside0.mk d3
                        clear d3
                        go_wp2
                        go_meet
                        case rel => exact ⟨by rw [decide_eq_true ⟨D1.out, D2.out, D3.out⟩], HP⟩
                      · have d3b : (bt s (i + 1) == 160) = false := beq_eq_false_iff_ne.2 d3
                        have D3 := Aside0.mk d3
                        clear d3
                        go_wp2
                        go_meet
                        case rel => exact ⟨by rw [decide_eq_false]; exact fun e => D3.out e.2.2, HP⟩
                    · have d2b : decide (i + 1 < (s.size : Int)) = false := decide_eq_false d2
                      have D2 := Aside0.mk d2
                      clear d2
                      go_wp2
                      go_meet
                      case rel => exact ⟨by rw [decide_eq_false]; exact fun e => by have := D2.out; have := e.2.1; omega, HP⟩
                  · have d1b : (bt s i == 194) = false := beq_eq_false_iff_ne.2 d1
                    have D1 := Aside0.mk d1
                    clear d1
                    go_wp2
                    go_meet
                    case rel => exact ⟨by rw [decide_eq_false]; exact fun e => D1.out e.1, HP⟩
                case rest =>
                  clear HP
                  obtain ⟨rfl, HP⟩ := hcut
                  by_cases d : bt s i = 194 ∧ i + 1 < (s.size : Int) ∧ bt s (i + 1) = 160
                  · rw [if_pos d] at H
                    rw [decide_eq_true d]
                    have HA := Aside0.mk H
                    have hw2 : wrap64 (wrap64 (i + 1) + 1) = wrap64 (i + 1 + 1) := by rw [hw1]
                    clear H d hb0
                    go_wp2_with (first | ((with_reducible refine gate_builtin (b := .append) (xs := #[.tmp 48, .tmp 50]) rfl ?_); at_builtin; refine Kd.R_append_rows (Kd.int .u8) (w0 := w) w.heap.size rfl (.tmp 48) (.tmp 50) 24 5 (.int .u8 0) 1 rfl Tryd.underlying24 info5 rfl (by decide) (by omega) u5 o [38, 110, 98, 115, 112, 59] _ _ _ (fun _ => True) (fun _ => False) rfl rfl (Kd.R_below HP.out.1 (below_alloc (Below.refl _ _) _)) (C_lit (xs := [38, 110, 98, 115, 112, 59]) (blk_new _ _) (by decide)) (fun _ _ h => h) (fun _ h => h.elim) (fun _ _ => trivial) (below_alloc HP.out.2 _) (below_size (below_alloc HP.out.2 _)) ?aL ?_; (case aL => have := HL.out; (try simp only [List.length_cons, List.length_nil]); omega); intro v1 w1 ho hb hg hat; have HP1 := Aside0.mk (And.intro ho hb); clear ho hb hg hat))
                    go_roundg k1
                    case measure => have := HK.out; omega
                    case rel => exact ⟨_, _, rfl, HA, ⟨by have := HK.out; omega⟩, HP1⟩
                  · rw [if_neg d] at H
                    rw [decide_eq_false d]
                    clear d hy7
                    cases v with
                    | true =>
                      by_cases e34 : bt s i = 34
                      · have c34b : (bt s i == 34) = true := beq_iff_eq.2 e34
                        have HA := Aside0.mk (show spec_Escape.l0 k1 s true (o ++ [38, 113, 117, 111, 116, 59]) (wrap64 (i + 1)) = some r from by rw [show spec_Escape.one true (bt s i) = [38, 113, 117, 111, 116, 59] from by unfold spec_Escape.one; simp [e38, e34]] at H; exact H)
                        clear H
                        clear e38 e34 hb0
                        go_wp2_with (first | ((with_reducible refine gate_builtin (b := .append) (xs := #[.tmp 62, .tmp 64]) rfl ?_); at_builtin; refine Kd.R_append_rows (Kd.int .u8) (w0 := w) w.heap.size rfl (.tmp 62) (.tmp 64) 24 5 (.int .u8 0) 1 rfl Tryd.underlying24 info5 rfl (by decide) (by omega) u5 o [38, 113, 117, 111, 116, 59] _ _ _ (fun _ => True) (fun _ => False) rfl rfl (Kd.R_below HP.out.1 (below_alloc (Below.refl _ _) _)) (C_lit (xs := [38, 113, 117, 111, 116, 59]) (blk_new _ _) (by decide)) (fun _ _ h => h) (fun _ h => h.elim) (fun _ _ => trivial) (below_alloc HP.out.2 _) (below_size (below_alloc HP.out.2 _)) ?aL ?_; (case aL => have := HL.out; (try simp only [List.length_cons, List.length_nil]); omega); intro v1 w1 ho hb hg hat; have HP1 := Aside0.mk (And.intro ho hb); clear ho hb hg hat))
                        go_roundg k1
                        case measure => have := HK.out; omega
                        case rel => exact ⟨_, _, rfl, HA, ⟨by have := HK.out; omega⟩, HP1⟩
                      · have c34b : (bt s i == 34) = false := beq_eq_false_iff_ne.2 e34
                        by_cases e60 : bt s i = 60
                        · have c60b : (bt s i == 60) = true := beq_iff_eq.2 e60
                          have c62b : (bt s i == 62) = false := beq_eq_false_iff_ne.2 (by omega)
                          have HA := Aside0.mk (show spec_Escape.l0 k1 s true (o ++ [bt s i]) (wrap64 (i + 1)) = some r from by rw [show spec_Escape.one true (bt s i) = [bt s i] from by unfold spec_Escape.one; simp [e38, e34, e60, Int.emod_eq_of_lt hb0.1 (show bt s i < 256 by omega)]] at H; exact H)
                          clear H
                          clear hb0 e38 e34 e60
                          go_wp2_with (first | ((with_reducible refine gate_builtin (b := .append) (xs := #[.tmp 14, .tmp 18]) rfl ?_); at_builtin; refine Kd.R_append (Kd.int .u8) (w0 := w) w.heap.size rfl (.tmp 14) (.tmp 18) 24 5 (.int .u8 0) 1 rfl Tryd.underlying24 info5 rfl (by decide) (by omega) u5 o (bt s i) [.int .u8 (bt s i)] (fun _ => True) (fun _ => False) rfl rfl ?aP (fun _ hk => hk.elim) (fun _ _ => trivial) HP.out.1 HP.out.2 (below_size HP.out.2) ?aL ?_; (case aP => exact rfl); (case aL => have := HL.out; omega); intro v1 w1 ho hb hg hat; have HP1 := Aside0.mk (And.intro ho hb); clear ho hb hg hat))
                          go_roundg k1
                          case measure => have := HK.out; omega
                          case rel => exact ⟨_, _, rfl, HA, ⟨by have := HK.out; omega⟩, HP1⟩
                        · have c60b : (bt s i == 60) = false := beq_eq_false_iff_ne.2 e60
                          by_cases e62 : bt s i = 62
                          · have c62b : (bt s i == 62) = true := beq_iff_eq.2 e62
                            have HA := Aside0.mk (show spec_Escape.l0 k1 s true (o ++ [bt s i]) (wrap64 (i + 1)) = some r from by rw [show spec_Escape.one true (bt s i) = [bt s i] from by unfold spec_Escape.one; simp [e38, e34, e60, e62, Int.emod_eq_of_lt hb0.1 (show bt s i < 256 by omega)]] at H; exact H)
                            clear H
                            clear hb0 e38 e34 e60 e62
                            go_wp2_with (first | ((with_reducible refine gate_builtin (b := .append) (xs := #[.tmp 14, .tmp 18]) rfl ?_); at_builtin; refine Kd.R_append (Kd.int .u8) (w0 := w) w.heap.size rfl (.tmp 14) (.tmp 18) 24 5 (.int .u8 0) 1 rfl Tryd.underlying24 info5 rfl (by decide) (by omega) u5 o (bt s i) [.int .u8 (bt s i)] (fun _ => True) (fun _ => False) rfl rfl ?aP (fun _ hk => hk.elim) (fun _ _ => trivial) HP.out.1 HP.out.2 (below_size HP.out.2) ?aL ?_; (case aP => exact rfl); (case aL => have := HL.out; omega); intro v1 w1 ho hb hg hat; have HP1 := Aside0.mk (And.intro ho hb); clear ho hb hg hat))
                            go_roundg k1
                            case measure => have := HK.out; omega
                            case rel => exact ⟨_, _, rfl, HA, ⟨by have := HK.out; omega⟩, HP1⟩
                          · have c62b : (bt s i == 62) = false := beq_eq_false_iff_ne.2 e62
                            have HA := Aside0.mk (show spec_Escape.l0 k1 s true (o ++ [bt s i]) (wrap64 (i + 1)) = some r from by rw [show spec_Escape.one true (bt s i) = [bt s i] from by unfold spec_Escape.one; simp [e38, e34, e60, e62, Int.emod_eq_of_lt hb0.1 (show bt s i < 256 by omega)]] at H; exact H)
                            clear H
                            clear hb0 e38 e34 e60 e62
                            go_wp2_with (first | ((with_reducible refine gate_builtin (b := .append) (xs := #[.tmp 14, .tmp 18]) rfl ?_); at_builtin; refine Kd.R_append (Kd.int .u8) (w0 := w) w.heap.size rfl (.tmp 14) (.tmp 18) 24 5 (.int .u8 0) 1 rfl Tryd.underlying24 info5 rfl (by decide) (by omega) u5 o (bt s i) [.int .u8 (bt s i)] (fun _ => True) (fun _ => False) rfl rfl ?aP (fun _ hk => hk.elim) (fun _ _ => trivial) HP.out.1 HP.out.2 (below_size HP.out.2) ?aL ?_; (case aP => exact rfl); (case aL => have := HL.out; omega); intro v1 w1 ho hb hg hat; have HP1 := Aside0.mk (And.intro ho hb); clear ho hb hg hat))
                            go_roundg k1
                            case measure => have := HK.out; omega
                            case rel => exact ⟨_, _, rfl, HA, ⟨by have := HK.out; omega⟩, HP1⟩
                    | false =>
                      by_cases e34 : bt s i = 34
                      · have e60 : ¬ bt s i = 60 := by omega
                        have e62 : ¬ bt s i = 62 := by omega
                        have c34b : (bt s i == 34) = true := beq_iff_eq.2 e34
                        have c60b : (bt s i == 60) = false := beq_eq_false_iff_ne.2 e60
                        have c62b : (bt s i == 62) = false := beq_eq_false_iff_ne.2 e62
                        have HA := Aside0.mk (show spec_Escape.l0 k1 s false (o ++ [bt s i]) (wrap64 (i + 1)) = some r from by rw [show spec_Escape.one false (bt s i) = [bt s i] from by unfold spec_Escape.one; simp [e38, e34, e60, e62, Int.emod_eq_of_lt hb0.1 (show bt s i < 256 by omega)]] at H; exact H)
                        clear H
                        clear hb0 e38 e34 e60 e62
                        go_wp2_with (first | ((with_reducible refine gate_builtin (b := .append) (xs := #[.tmp 14, .tmp 18]) rfl ?_); at_builtin; refine Kd.R_append (Kd.int .u8) (w0 := w) w.heap.size rfl (.tmp 14) (.tmp 18) 24 5 (.int .u8 0) 1 rfl Tryd.underlying24 info5 rfl (by decide) (by omega) u5 o (bt s i) [.int .u8 (bt s i)] (fun _ => True) (fun _ => False) rfl rfl ?aP (fun _ hk => hk.elim) (fun _ _ => trivial) HP.out.1 HP.out.2 (below_size HP.out.2) ?aL ?_; (case aP => exact rfl); (case aL => have := HL.out; omega); intro v1 w1 ho hb hg hat; have HP1 := Aside0.mk (And.intro ho hb); clear ho hb hg hat))
                        go_roundg k1
                        case measure => have := HK.out; omega
                        case rel => exact ⟨_, _, rfl, HA, ⟨by have := HK.out; omega⟩, HP1⟩
                      · have c34b : (bt s i == 34) = false := beq_eq_false_iff_ne.2 e34
                        by_cases e60 : bt s i = 60
                        · have c60b : (bt s i == 60) = true := beq_iff_eq.2 e60
                          have HA := Aside0.mk (show spec_Escape.l0 k1 s false (o ++ [38, 108, 116, 59]) (wrap64 (i + 1)) = some r from by rw [show spec_Escape.one false (bt s i) = [38, 108, 116, 59] from by unfold spec_Escape.one; simp [e38, e34, e60]] at H; exact H)
                          clear H
                          clear e38 e34 e60 hb0
                          go_wp2_with (first | ((with_reducible refine gate_builtin (b := .append) (xs := #[.tmp 75, .tmp 77]) rfl ?_); at_builtin; refine Kd.R_append_rows (Kd.int .u8) (w0 := w) w.heap.size rfl (.tmp 75) (.tmp 77) 24 5 (.int .u8 0) 1 rfl Tryd.underlying24 info5 rfl (by decide) (by omega) u5 o [38, 108, 116, 59] _ _ _ (fun _ => True) (fun _ => False) rfl rfl (Kd.R_below HP.out.1 (below_alloc (Below.refl _ _) _)) (C_lit (xs := [38, 108, 116, 59]) (blk_new _ _) (by decide)) (fun _ _ h => h) (fun _ h => h.elim) (fun _ _ => trivial) (below_alloc HP.out.2 _) (below_size (below_alloc HP.out.2 _)) ?aL ?_; (case aL => have := HL.out; (try simp only [List.length_cons, List.length_nil]); omega); intro v1 w1 ho hb hg hat; have HP1 := Aside0.mk (And.intro ho hb); clear ho hb hg hat))
                          go_roundg k1
                          case measure => have := HK.out; omega
                          case rel => exact ⟨_, _, rfl, HA, ⟨by have := HK.out; omega⟩, HP1⟩
                        · have c60b : (bt s i == 60) = false := beq_eq_false_iff_ne.2 e60
                          by_cases e62 : bt s i = 62
                          · have c62b : (bt s i == 62) = true := beq_iff_eq.2 e62
                            have HA := Aside0.mk (show spec_Escape.l0 k1 s false (o ++ [38, 103, 116, 59]) (wrap64 (i + 1)) = some r from by rw [show spec_Escape.one false (bt s i) = [38, 103, 116, 59] from by unfold spec_Escape.one; simp [e38, e34, e60, e62]] at H; exact H)
                            clear H
                            clear e38 e34 e60 e62 hb0
                            go_wp2_with (first | ((with_reducible refine gate_builtin (b := .append) (xs := #[.tmp 88, .tmp 90]) rfl ?_); at_builtin; refine Kd.R_append_rows (Kd.int .u8) (w0 := w) w.heap.size rfl (.tmp 88) (.tmp 90) 24 5 (.int .u8 0) 1 rfl Tryd.underlying24 info5 rfl (by decide) (by omega) u5 o [38, 103, 116, 59] _ _ _ (fun _ => True) (fun _ => False) rfl rfl (Kd.R_below HP.out.1 (below_alloc (Below.refl _ _) _)) (C_lit (xs := [38, 103, 116, 59]) (blk_new _ _) (by decide)) (fun _ _ h => h) (fun _ h => h.elim) (fun _ _ => trivial) (below_alloc HP.out.2 _) (below_size (below_alloc HP.out.2 _)) ?aL ?_; (case aL => have := HL.out; (try simp only [List.length_cons, List.length_nil]); omega); intro v1 w1 ho hb hg hat; have HP1 := Aside0.mk (And.intro ho hb); clear ho hb hg hat))
                            go_roundg k1
                            case measure => have := HK.out; omega
                            case rel => exact ⟨_, _, rfl, HA, ⟨by have := HK.out; omega⟩, HP1⟩
                          · have c62b : (bt s i == 62) = false := beq_eq_false_iff_ne.2 e62
                            have HA := Aside0.mk (show spec_Escape.l0 k1 s false (o ++ [bt s i]) (wrap64 (i + 1)) = some r from by rw [show spec_Escape.one false (bt s i) = [bt s i] from by unfold spec_Escape.one; simp [e38, e34, e60, e62, Int.emod_eq_of_lt hb0.1 (show bt s i < 256 by omega)]] at H; exact H)
                            clear H
                            clear hb0 e38 e34 e60 e62
                            go_wp2_with (first | ((with_reducible refine gate_builtin (b := .append) (xs := #[.tmp 14, .tmp 18]) rfl ?_); at_builtin; refine Kd.R_append (Kd.int .u8) (w0 := w) w.heap.size rfl (.tmp 14) (.tmp 18) 24 5 (.int .u8 0) 1 rfl Tryd.underlying24 info5 rfl (by decide) (by omega) u5 o (bt s i) [.int .u8 (bt s i)] (fun _ => True) (fun _ => False) rfl rfl ?aP (fun _ hk => hk.elim) (fun _ _ => trivial) HP.out.1 HP.out.2 (below_size HP.out.2) ?aL ?_; (case aP => exact rfl); (case aL => have := HL.out; omega); intro v1 w1 ho hb hg hat; have HP1 := Aside0.mk (And.intro ho hb); clear ho hb hg hat))
                            go_roundg k1
                            case measure => have := HK.out; omega
                            case rel => exact ⟨_, _, rfl, HA, ⟨by have := HK.out; omega⟩, HP1⟩
            · rw [if_neg c4] at H; cases H
          · rw [if_neg c3] at H; cases H
        · rw [if_neg c2] at H; cases H
      · rw [if_neg c1] at H
        obtain rfl := Option.some.inj H
        clear H
        have c1b : decide (i < (s.size : Int)) = false := decide_eq_false c1
        clear c1
        have hcv := own_string (P := Tryd.prog) Tryd.underlying24 Tryd.underlying5 Tryd.underlying9 (Kd.own_of_R HP.out.1)
        go_wp2
        go_ret
        exact ⟨rfl, HP.out.2⟩

end Go.Proofs.YtlnmmcipioagaaaDoor.X
