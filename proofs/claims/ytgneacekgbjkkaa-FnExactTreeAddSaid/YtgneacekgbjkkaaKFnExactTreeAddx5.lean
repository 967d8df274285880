/- What the Go functions that FnExactTreeAdd reaches compute, and that their walks come to just that (written by a program of this project over the kit's print). Conditions: as each states. -/
import Derived.Test.YtgneacekgbjkkaaKFnExactTreeAddx4
namespace Go.Proofs.Ytgneacekgbjkkaa.X
open Go.RowKit Go.Proofs.YtgneacekgbjkkaaW.PrintWords Go.Proofs.YtgneacekgbjkkaaW.PrintLast Go.Proofs.YtgneacekgbjkkaaW.PrintMore
attribute [local go_sem] max2_int min2_int max_two min_two max_three min_three max_four min_four
set_option linter.unusedVariables false
set_option linter.unusedSimpArgs false
/-- What the law gives where all is as it should be; else nothing is told. -/
def laws_FnExactTreeAdd.f (k : Nat) (l : List S39) (b0 : Int) (b1 : ByteArray) (l2 : List S111) (b3 : ByteArray) (b4 : Int) (l5 : List Int) : Option Bool := (laws_szTree.f k l 1048576).bind fun t1 => if t1 < 0 then some true else (laws_szNode.f k b0 b1 l2 b3 b4 l5 t1).bind fun t2 => if t2 < 0 then some true else (laws_toTree.f k l).bind fun ta => (laws_toNode.f k b0 b1 l2 b3 b4 l5).bind fun tn => (spec_TreeAdd.f k ta tn.1 tn.2.1 tn.2.2.1 tn.2.2.2.1 tn.2.2.2.2.1 tn.2.2.2.2.2).bind fun x => (impl_TreeAdd.f k ta tn.1 tn.2.1 tn.2.2.1 tn.2.2.2.1 tn.2.2.2.2.1 tn.2.2.2.2.2).bind fun y => (laws_eqTree.f k y.1 x.1).bind fun e0 => (laws_eqTree.f k ta ta).bind fun e1 => (laws_eqNode.f k tn.1 tn.2.1 tn.2.2.1 tn.2.2.2.1 tn.2.2.2.2.1 tn.2.2.2.2.2 tn.1 tn.2.1 tn.2.2.1 tn.2.2.2.1 tn.2.2.2.2.1 tn.2.2.2.2.2).bind fun e2 => (laws_markTree.f k ta 1).bind fun m1 => (laws_markNode.f k tn.1 tn.2.1 tn.2.2.1 tn.2.2.2.1 tn.2.2.2.2.1 tn.2.2.2.2.2 m1.1).bind fun m2 => (laws_markTree.f k y.1 1).bind fun m3 => (laws_heldTree.f k m3.2 1).bind fun q => if e0 = true ∧ e1 = true ∧ e2 = true ∧ y.2 = x.2 ∧ 0 ≤ m2.1 ∧ 0 ≤ q ∧ q = m3.1 then some true else none
theorem laws_FnExactTreeAdd.mono : ∀ a0 a1 a2 a3 a4 a5 a6 k, LeO (laws_FnExactTreeAdd.f k a0 a1 a2 a3 a4 a5 a6) (laws_FnExactTreeAdd.f (k + 1) a0 a1 a2 a3 a4 a5 a6) := fun _ _ _ _ _ _ _ k => LeO.bind (laws_szTree.mono _ _ k) (fun _ => LeO.ite (LeO.refl _) (LeO.bind (laws_szNode.mono _ _ _ _ _ _ _ k) (fun _ => LeO.ite (LeO.refl _) (LeO.bind (laws_toTree.mono _ k) (fun _ => LeO.bind (laws_toNode.mono _ _ _ _ _ _ k) (fun _ => LeO.bind (spec_TreeAdd.mono _ _ _ _ _ _ _ k) (fun _ => LeO.bind (impl_TreeAdd.mono _ _ _ _ _ _ _ k) (fun _ => LeO.bind (laws_eqTree.mono _ _ k) (fun _ => LeO.bind (laws_eqTree.mono _ _ k) (fun _ => LeO.bind (laws_eqNode.mono _ _ _ _ _ _ _ _ _ _ _ _ k) (fun _ => LeO.bind (laws_markTree.mono _ _ k) (fun _ => LeO.bind (laws_markNode.mono _ _ _ _ _ _ _ k) (fun _ => LeO.bind (laws_markTree.mono _ _ k) (fun _ => LeO.bind (laws_heldTree.mono _ _ k) (fun _ => LeO.refl _)))))))))))))))
/-- The two arguments' variables. -/
structure ArgW (w W : World) (ga gb : Nat) (ca cb : Array Value) : Prop where
 a : W.heap[ga]? = some (.cells ca 24 (0, 0))
 b : W.heap[gb]? = some (.cells cb 39 (0, 0))
 low : Below w.heap.size w W
theorem ArgW.below {w W W2 : World} {ga gb : Nat} {ca cb : Array Value} (h : ArgW w W ga gb ca cb) (hb : Below W.heap.size W W2) : ArgW w W2 ga gb ca cb := ⟨blk_below h.a hb, blk_below h.b hb, below_step h.low hb⟩
theorem ArgW.held {w W w' : World} {ga gb : Nat} {a0 u0 u1 u2 u3 u4 u5 : Value} (h : ArgW w W ga gb #[a0] #[u0, u1, u2, u3, u4, u5]) (hb : Below W.heap.size W w') : w'.cell? ⟨ga, 0, none⟩ = some a0 ∧ w'.cell? ⟨gb, 0, none⟩ = some u0 ∧ w'.cell? ⟨gb, 1, none⟩ = some u1 ∧ w'.cell? ⟨gb, 2, none⟩ = some u2 ∧ w'.cell? ⟨gb, 3, none⟩ = some u3 ∧ w'.cell? ⟨gb, 4, none⟩ = some u4 ∧ w'.cell? ⟨gb, 5, none⟩ = some u5 :=
 ⟨(blk_cell (blk_below h.a hb) 0).trans rfl, (blk_cell (blk_below h.b hb) 0).trans rfl, (blk_cell (blk_below h.b hb) 1).trans rfl, (blk_cell (blk_below h.b hb) 2).trans rfl, (blk_cell (blk_below h.b hb) 3).trans rfl, (blk_cell (blk_below h.b hb) 4).trans rfl, (blk_cell (blk_below h.b hb) 5).trans rfl⟩
/-- The tree and the node that are handed in: their variables, their rows. -/
structure AdT (wx W : World) (g8 g9 : Nat) (A8 : Option Addr) (c8 : Nat) (ta : List S45) (tn : Int × ByteArray × List S98 × ByteArray × Int × List Int) (A2 : Option Addr) (c2 : Nat) (A5 : Option Addr) (c5 : Nat) : Prop where
 b8 : W.heap[g8]? = some (.cells #[.slice A8 ta.length c8] 29 (0, 0))
 b9 : W.heap[g9]? = some (.cells #[.int .i64 tn.1, .string tn.2.1, .slice A2 tn.2.2.1.length c2, .string tn.2.2.2.1, .int .i64 tn.2.2.2.2.1, .slice A5 tn.2.2.2.2.2.length c5] 45 (0, 0))
 s8 : Kd.S k45 45 W wx.heap.size (fun k => wx.heap.size ≤ k ∧ k < g8) (.slice A8 ta.length c8) ta
 r2 : Kd.R k98 98 W wx.heap.size (fun k => g8 < k ∧ k < g9) (.slice A2 tn.2.2.1.length c2) tn.2.2.1
 r5 : Kd.R (Kd.int .i64) 3 W wx.heap.size (fun k => g8 < k ∧ k < g9) (.slice A5 tn.2.2.2.2.2.length c5) tn.2.2.2.2.2
 low : Below wx.heap.size wx W
 o8 : wx.heap.size ≤ g8
 o9 : g8 < g9
theorem AdT.below {wx W W2 : World} {g8 g9 c8 c2 c5 : Nat} {A8 A2 A5 : Option Addr} {ta : List S45} {tn : Int × ByteArray × List S98 × ByteArray × Int × List Int} (h : AdT wx W g8 g9 A8 c8 ta tn A2 c2 A5 c5) (hb : Below W.heap.size W W2) : AdT wx W2 g8 g9 A8 c8 ta tn A2 c2 A5 c5 :=
 ⟨blk_below h.b8 hb, blk_below h.b9 hb, Kd.S_below h.s8 hb, Kd.R_below h.r2 hb, Kd.R_below h.r5 hb, below_step h.low hb, h.o8, h.o9⟩
theorem AdT.n9 {wx W : World} {g8 g9 c8 c2 c5 : Nat} {A8 A2 A5 : Option Addr} {ta : List S45} {tn : Int × ByteArray × List S98 × ByteArray × Int × List Int} (h : AdT wx W g8 g9 A8 c8 ta tn A2 c2 A5 c5) : (tn.2.2.1.length ≤ c2 ∧ Kd.C k98 W A2 tn.2.2.1.length tn.2.2.1) ∧ tn.2.2.2.2.2.length ≤ c5 ∧ Kd.C (Kd.int .i64) W A5 tn.2.2.2.2.2.length tn.2.2.2.2.2 := ⟨(Kd.R_reads' h.r2).2, (Kd.R_reads' h.r5).2⟩
theorem AdT.t8 {wx W : World} {g8 g9 c8 c2 c5 : Nat} {A8 A2 A5 : Option Addr} {ta : List S45} {tn : Int × ByteArray × List S98 × ByteArray × Int × List Int} (h : AdT wx W g8 g9 A8 c8 ta tn A2 c2 A5 c5) : ta.length ≤ c8 ∧ Kd.C k45 W A8 ta.length ta := (Kd.S_reads' h.s8).2
theorem AdT.held9 {wx W w' : World} {g8 g9 c8 c2 c5 : Nat} {A8 A2 A5 : Option Addr} {ta : List S45} {tn : Int × ByteArray × List S98 × ByteArray × Int × List Int} (h : AdT wx W g8 g9 A8 c8 ta tn A2 c2 A5 c5) (hb : Below W.heap.size W w') : w'.cell? ⟨g9, 0, none⟩ = some (.int .i64 tn.1) ∧ w'.cell? ⟨g9, 1, none⟩ = some (.string tn.2.1) ∧ w'.cell? ⟨g9, 2, none⟩ = some (.slice A2 tn.2.2.1.length c2) ∧ w'.cell? ⟨g9, 3, none⟩ = some (.string tn.2.2.2.1) ∧ w'.cell? ⟨g9, 4, none⟩ = some (.int .i64 tn.2.2.2.2.1) ∧ w'.cell? ⟨g9, 5, none⟩ = some (.slice A5 tn.2.2.2.2.2.length c5) :=
 ⟨(blk_cell (blk_below h.b9 hb) 0).trans rfl, (blk_cell (blk_below h.b9 hb) 1).trans rfl, (blk_cell (blk_below h.b9 hb) 2).trans rfl, (blk_cell (blk_below h.b9 hb) 3).trans rfl, (blk_cell (blk_below h.b9 hb) 4).trans rfl, (blk_cell (blk_below h.b9 hb) 5).trans rfl⟩
/-- .. when the tree has been marked. -/
structure AdN (wx W : World) (g8 g9 : Nat) (tn : Int × ByteArray × List S98 × ByteArray × Int × List Int) (A2 : Option Addr) (c2 : Nat) (A5 : Option Addr) (c5 : Nat) : Prop where
 b9 : W.heap[g9]? = some (.cells #[.int .i64 tn.1, .string tn.2.1, .slice A2 tn.2.2.1.length c2, .string tn.2.2.2.1, .int .i64 tn.2.2.2.2.1, .slice A5 tn.2.2.2.2.2.length c5] 45 (0, 0))
 r2 : Kd.R k98 98 W wx.heap.size (fun k => g8 < k ∧ k < g9) (.slice A2 tn.2.2.1.length c2) tn.2.2.1
 r5 : Kd.R (Kd.int .i64) 3 W wx.heap.size (fun k => g8 < k ∧ k < g9) (.slice A5 tn.2.2.2.2.2.length c5) tn.2.2.2.2.2
 low : Below wx.heap.size wx W
theorem AdN.cells {wx W : World} {g8 g9 c2 c5 : Nat} {A2 A5 : Option Addr} {tn : Int × ByteArray × List S98 × ByteArray × Int × List Int} (h : AdN wx W g8 g9 tn A2 c2 A5 c5) : W.cell? ⟨g9, 0, none⟩ = some (.int .i64 tn.1) ∧ W.cell? ⟨g9, 1, none⟩ = some (.string tn.2.1) ∧ W.cell? ⟨g9, 2, none⟩ = some (.slice A2 tn.2.2.1.length c2) ∧ W.cell? ⟨g9, 3, none⟩ = some (.string tn.2.2.2.1) ∧ W.cell? ⟨g9, 4, none⟩ = some (.int .i64 tn.2.2.2.2.1) ∧ W.cell? ⟨g9, 5, none⟩ = some (.slice A5 tn.2.2.2.2.2.length c5) :=
 ⟨(blk_cell h.b9 0).trans rfl, (blk_cell h.b9 1).trans rfl, (blk_cell h.b9 2).trans rfl, (blk_cell h.b9 3).trans rfl, (blk_cell h.b9 4).trans rfl, (blk_cell h.b9 5).trans rfl⟩
theorem AdT.mark8 {wx W W2 : World} {g8 g9 c8 c2 c5 : Nat} {A8 A2 A5 : Option Addr} {ta : List S45} {tn : Int × ByteArray × List S98 × ByteArray × Int × List Int} (h : AdT wx W g8 g9 A8 c8 ta tn A2 c2 A5 c5) (hl : Below wx.heap.size wx W2) (hk : Kept W W2 (fun k => wx.heap.size ≤ k ∧ k < g8)) : AdN wx W2 g8 g9 tn A2 c2 A5 c5 :=
 ⟨blk_kept h.b9 hk (fun h_ => by have := h.o9; omega), Kd.R_kept h.r2 hk (fun k h1 h2 => by omega), Kd.R_kept h.r5 hk (fun k h1 h2 => by omega), hl⟩
/-- .. what was given. -/
structure AdG (wx W : World) (g10 : Nat) (P : Nat → Prop) (A : Option Addr) (n c : Nat) (y : List S45) : Prop where
 b : W.heap[g10]? = some (.cells #[.slice A n c] 29 (0, 0))
 s : Kd.S k45 45 W wx.heap.size P (.slice A n c) y
 low : Below wx.heap.size wx W
 np : ¬ P g10
 ge : ∀ k, P k → wx.heap.size ≤ k
section
variable {wx W W2 : World} {g10 n c : Nat} {P : Nat → Prop} {A : Option Addr} {y z : List S45}
theorem AdG.below (h : AdG wx W g10 P A n c y) (hb : Below W.heap.size W W2) : AdG wx W2 g10 P A n c y := ⟨blk_below h.b hb, Kd.S_below h.s hb, below_step h.low hb, h.np, h.ge⟩
theorem AdG.row (h : AdG wx W g10 P A n c y) : n ≤ c ∧ Kd.C k45 W A y.length y ∧ n = y.length := ⟨(Kd.R_reads' (Kd.S_R h.s)).2.1, (Kd.R_reads' (Kd.S_R h.s)).2.2, (Kd.R_reads' (Kd.S_R h.s)).1⟩
theorem AdG.kept (h : AdG wx W g10 P A n c y) {S : Nat → Prop} (hl : Below wx.heap.size wx W2) (hk : Kept W W2 S) (hs : ∀ k, S k → k ≠ g10 ∧ ¬ P k) : AdG wx W2 g10 P A n c y := ⟨blk_kept h.b hk (fun h_ => (hs _ h_).1 rfl), Kd.S_kept h.s hk (fun k h1 h2 => (hs k h2).2 h1), hl, h.np, h.ge⟩
theorem AdG.mark (h : AdG wx W g10 P A n c y) (hS : Kd.S k45 45 W2 wx.heap.size (fun k => P k ∨ W.heap.size ≤ k) (.slice A n c) z) (hl : Below wx.heap.size wx W2) (hk : Kept W W2 P) : AdG wx W2 g10 (fun k => P k ∨ W.heap.size ≤ k) A n c z :=
 ⟨blk_kept h.b hk h.np, hS, hl, fun h_ => h_.elim h.np (fun h2 => by have := blk_lt h.b; omega), fun k h_ => h_.elim (h.ge k) (fun h2 => Nat.le_trans h.low.size h2)⟩
end
set_option maxHeartbeats 64000000 in
set_option maxRecDepth 100000 in
theorem laws_FnExactTreeAdd.calls (k : Nat) (A0_0 : Option Addr) (c0_0 : Nat) (l0_0 : List S39) (b0 : Int) (b1 : ByteArray) (A2 : Option Addr) (c2 : Nat) (l2 : List S111) (b3 : ByteArray) (b4 : Int) (A5 : Option Addr) (c5 : Nat) (l5 : List Int) (r : Bool) (w : World) (hr0_0 : Kd.C k39 w A0_0 l0_0.length l0_0) (hc0_0 : l0_0.length ≤ c0_0) (hr2 : Kd.C k111 w A2 l2.length l2) (hc2 : l2.length ≤ c2) (hr5 : Kd.C (Kd.int .i64) w A5 l5.length l5) (hc5 : l5.length ≤ c5) (h : laws_FnExactTreeAdd.f k l0_0 b0 b1 l2 b3 b4 l5 = some r) :
 Calls Try.prog 6 #[.agg #[.slice A0_0 l0_0.length c0_0], .agg #[.int .i64 b0, .string b1, .slice A2 l2.length c2, .string b3, .int .i64 b4, .slice A5 l5.length c5]] w fun e w' => e = .returned (.bool r) ∧ Below w.heap.size w w' := by
 unfold laws_FnExactTreeAdd.f at h
 obtain ⟨t1, E1, h⟩ := Option.bind_eq_some_iff.1 h
 replace E1 := Aside0.mk E1
 have HA := Aside0.mk h
 have HC := Aside0.mk hr0_0
 have HCC := Aside0.mk hc0_0
 have HC2 := Aside0.mk hr2
 have HCC2 := Aside0.mk hc2
 have HC5 := Aside0.mk hr5
 have HCC5 := Aside0.mk hc5
 clear h hr0_0 hc0_0 hr2 hc2 hr5 hc5
 go_enter Try.func6, Try.ntmps6
 go_upto_region 1 with (first | ((with_reducible refine gate_dst (N := 2) rfl ?_); refine box_event ?hg (N := 2) ?hd (cs := #[.slice A0_0 l0_0.length c0_0]) (t := 24) ?hr ?_; (case hd => rfl); (case hg => rfl); (case hr => first | (go_simp; done) | (go_simp; rfl)); intro ga hga w1 hbox hb; have HGA := Aside0.mk hbox; have HLA := Aside0.mk hb; clear hbox hb hga) | ((with_reducible refine gate_dst (N := 3) rfl ?_); refine box_event ?hg (N := 3) ?hd (cs := #[.int .i64 b0, .string b1, .slice A2 l2.length c2, .string b3, .int .i64 b4, .slice A5 l5.length c5]) (t := 39) ?hr ?_; (case hd => rfl); (case hg => rfl); (case hr => first | (go_simp; done) | (go_simp; rfl)); intro gb hgb w2 hbox hb; have HG := Aside0.mk (show ArgW w w2 ga gb #[.slice A0_0 l0_0.length c0_0] #[.int .i64 b0, .string b1, .slice A2 l2.length c2, .string b3, .int .i64 b4, .slice A5 l5.length c5] from ⟨blk_below HGA.out hb, hbox, below_step HLA.out hb⟩); clear hbox hb hgb))
 obtain ⟨ha0, hb0, hb1, hb2, hb3, hb4, hb5⟩ := ArgW.held HG.out (Below.refl _ _)
 have H := HA.out
 by_cases c1 : t1 < 0
 · rw [if_pos c1] at H
   obtain rfl := Option.some.inj H
   clear H HA
   have c1b : decide (t1 < 0) = true := decide_eq_true c1
   go_wp2_with (first | (go_at_call 10; (with_reducible refine (laws_szTree.calls k A0_0 c0_0 l0_0 1048576 t1 w2 (Kd.C_below HC.out HG.out.low) HCC.out E1.out).mono ?_); rintro e w3 ⟨rfl, hb⟩; have HG2 := Aside0.mk (HG.out.below hb); obtain ⟨ha0', hb0', hb1', hb2', hb3', hb4', hb5'⟩ := ArgW.held HG2.out (Below.refl _ _); clear hb))
   go_ret
   exact ⟨rfl, HG2.out.low⟩
 · rw [if_neg c1] at H
   have c1b : decide (t1 < 0) = false := decide_eq_false c1
   clear c1 HA
   obtain ⟨t2, E2, H⟩ := Option.bind_eq_some_iff.1 H
   replace E2 := Aside0.mk E2
   by_cases d2 : t2 < 0
   · rw [if_pos d2] at H
     obtain rfl := Option.some.inj H
     clear H
     have c2b : decide (t2 < 0) = true := decide_eq_true d2
     go_wp2_with (first | (go_at_call 10; (with_reducible refine (laws_szTree.calls k A0_0 c0_0 l0_0 1048576 t1 w2 (Kd.C_below HC.out HG.out.low) HCC.out E1.out).mono ?_); rintro e w3 ⟨rfl, hb⟩; have HG2 := Aside0.mk (HG.out.below hb); obtain ⟨ha0', hb0', hb1', hb2', hb3', hb4', hb5'⟩ := ArgW.held HG2.out (Below.refl _ _); clear hb) | (go_at_call 21; (with_reducible refine (laws_szNode.calls k b0 b1 A2 c2 l2 b3 b4 A5 c5 l5 t1 t2 w3 (Kd.C_below HC2.out HG2.out.low) HCC2.out (Kd.C_below HC5.out HG2.out.low) HCC5.out E2.out).mono ?_); rintro e w4 ⟨rfl, hb⟩; have HG3 := Aside0.mk (HG2.out.below hb); clear hb))
     go_ret
     exact ⟨rfl, HG3.out.low⟩
   · rw [if_neg d2] at H
     have c2b : decide (t2 < 0) = false := decide_eq_false d2
     clear d2
     obtain ⟨ta, E3, H⟩ := Option.bind_eq_some_iff.1 H
     obtain ⟨⟨n0, n1, n2, n3, n4, n5⟩, E4, H⟩ := Option.bind_eq_some_iff.1 H
     obtain ⟨⟨x0, x1⟩, E5, H⟩ := Option.bind_eq_some_iff.1 H
     obtain ⟨⟨y0, y1⟩, E6, H⟩ := Option.bind_eq_some_iff.1 H
     obtain ⟨e0, E7, H⟩ := Option.bind_eq_some_iff.1 H
     obtain ⟨e1, E8, H⟩ := Option.bind_eq_some_iff.1 H
     obtain ⟨e2, E9, H⟩ := Option.bind_eq_some_iff.1 H
     obtain ⟨⟨m1, z1⟩, E10, H⟩ := Option.bind_eq_some_iff.1 H
     obtain ⟨⟨m2, z2, z5⟩, E11, H⟩ := Option.bind_eq_some_iff.1 H
     obtain ⟨⟨m3, z3⟩, E12, H⟩ := Option.bind_eq_some_iff.1 H
     obtain ⟨q, E13, H⟩ := Option.bind_eq_some_iff.1 H
     by_cases c3 : e0 = true ∧ e1 = true ∧ e2 = true ∧ y1 = x1 ∧ 0 ≤ m2 ∧ 0 ≤ q ∧ q = m3
     · rw [if_pos c3] at H
       obtain rfl := Option.some.inj H
       obtain ⟨rfl, rfl, rfl, rfl, g2, g3, rfl⟩ := c3
       dsimp only at E5 E6 E7 E8 E9 E10 E11 E12 E13
       replace E3 := Aside0.mk E3
       replace E4 := Aside0.mk E4
       replace E5 := Aside0.mk E5
       replace E6 := Aside0.mk E6
       replace E7 := Aside0.mk E7
       replace E8 := Aside0.mk E8
       replace E9 := Aside0.mk E9
       replace E10 := Aside0.mk E10
       replace E11 := Aside0.mk E11
       replace E12 := Aside0.mk E12
       replace E13 := Aside0.mk E13
       have g2b : decide (m2 < 0) = false := decide_eq_false (by omega)
       have g3b : decide (q < 0) = false := decide_eq_false (by omega)
       have g4b : (q != q) = false := by simp
       have g5b : (y1 != y1) = false := by simp
       clear H g2 g3
       go_upto_region 8 with (first | (go_at_call 10; (with_reducible refine (laws_szTree.calls k A0_0 c0_0 l0_0 1048576 t1 w2 (Kd.C_below HC.out HG.out.low) HCC.out E1.out).mono ?_); rintro e w3 ⟨rfl, hb⟩; have HG2 := Aside0.mk (HG.out.below hb); obtain ⟨ha0', hb0', hb1', hb2', hb3', hb4', hb5'⟩ := ArgW.held HG2.out (Below.refl _ _); clear hb) | (go_at_call 21; (with_reducible refine (laws_szNode.calls k b0 b1 A2 c2 l2 b3 b4 A5 c5 l5 t1 t2 w3 (Kd.C_below HC2.out HG2.out.low) HCC2.out (Kd.C_below HC5.out HG2.out.low) HCC5.out E2.out).mono ?_); rintro e w4 ⟨rfl, hb⟩; have HG3 := Aside0.mk (HG2.out.below hb); clear hb))
       clear ha0 hb0 hb1 hb2 hb3 hb4 hb5 ha0' hb0' hb1' hb2' hb3' hb4' hb5'
       clear HG HG2
       have HAR := HG3
       clear HG3
       generalize w4 = WB at HAR ⊢
       have HBW := Aside0.mk (show Below WB.heap.size WB WB.drew from pw_below_drewN (Below.refl _ _) 1)
       refine region_join (σ := Nat × Option Addr × Nat × Value × Value × Unit) (fun s_ => [(28, .agg #[.slice A0_0 l0_0.length c0_0]), (29, s_.2.2.2.1), (30, .agg #[.int .i64 b0, .string b1, .slice A2 l2.length c2, .string b3, .int .i64 b4, .slice A5 l5.length c5]), (31, s_.2.2.2.2.1), (32, .tuple #[.agg #[.slice s_.2.1 x0.length s_.2.2.1], .int .i64 y1]), (27, .tuple #[.agg #[.slice s_.2.1 x0.length s_.2.2.1], .int .i64 y1]), (33, .agg #[.slice s_.2.1 x0.length s_.2.2.1]), (34, .int .i64 y1), (6, .pointer (some ⟨s_.1, 0, none⟩)), (7, .int .i64 y1)]) (fun s_ w' => w'.heap[s_.1]? = some (.cells #[.slice s_.2.1 x0.length s_.2.2.1] 29 (0, 0)) ∧ WB.heap.size ≤ s_.1 ∧ Below WB.heap.size WB w' ∧ Kd.S k45 45 w' WB.heap.size (fun k_ => k_ ≠ s_.1) (.slice s_.2.1 x0.length s_.2.2.1) x0) ?_ ?_
       · skip
         refine wp_region_N (n := 10) (S := (fun w' => w'.cell? ⟨ga, 0, none⟩ = some (.slice A0_0 l0_0.length c0_0) ∧ w'.cell? ⟨gb, 0, none⟩ = some (.int .i64 b0) ∧ w'.cell? ⟨gb, 1, none⟩ = some (.string b1) ∧ w'.cell? ⟨gb, 2, none⟩ = some (.slice A2 l2.length c2) ∧ w'.cell? ⟨gb, 3, none⟩ = some (.string b3) ∧ w'.cell? ⟨gb, 4, none⟩ = some (.int .i64 b4) ∧ w'.cell? ⟨gb, 5, none⟩ = some (.slice A5 l5.length c5))) (by kernel_rfl) (ArgW.held HAR.out HBW.out) (fun hHeld => ?_)
         generalize WB.drew = WD at HBW hHeld ⊢
         refine wpAnyN_take (i := 0) (v := ?v100) rfl (by kernel_rfl) (by kernel_rfl) (by kernel_rfl) (by kernel_rfl) (fun _ _ _ h => h) (Or.inl ⟨by rfl, ?h100⟩) hHeld ?r100
         case h100 => (intro w_ hSw; (try dsimp only at hSw); go_simp; (try with_reducible rfl))
         refine wpAnyN_take (i := 2) (v := ?v202) rfl (by kernel_rfl) (by kernel_rfl) (by kernel_rfl) (by kernel_rfl) (fun _ _ _ h => h) (Or.inl ⟨by rfl, ?h202⟩) hHeld ?r202
         case h202 => (intro w_ hSw; (try dsimp only at hSw); go_simp; (try with_reducible rfl))
         refine wpAnyN_two (i := 1) (j := 8) (by kernel_rfl) rfl rfl (fun K hK => ?_) (fun K hK => ?_)
         · skip
           go_simp
           go_at_call 12
           with_reducible refine (laws_toTree.calls k A0_0 c0_0 l0_0 ta _ (Kd.C_below HC.out (below_step HAR.out.low HBW.out)) HCC.out E3.out).mono ?_
           rintro e wq ⟨v, rfl, hS, hb⟩
           obtain ⟨Ap, cp, rfl⟩ := Kd.S_slice hS
           replace HBW := Aside0.mk (below_step HBW.out hb)
           have HP := Aside0.mk (Kd.R_reads' (Kd.S_R hS)).2
           clear hS hb
           go_wp2_with fail
           refine hK.out _ _ ?_ (fun hH0 => ?_)
           · (try dsimp only); exact ArgW.held HAR.out HBW.out
           clear hK K
           refine wpAnyN_two (i := 3) (j := 8) (by kernel_rfl) rfl rfl (fun K hK => ?_) (fun K hK => ?_)
           · skip
             go_simp
             go_at_call 23
             with_reducible refine (laws_toNode.calls k b0 b1 A2 c2 l2 b3 b4 A5 c5 l5 n0 n1 n2 n3 n4 n5 _ (Kd.C_below HC2.out (below_step HAR.out.low HBW.out)) HCC2.out (Kd.C_below HC5.out (below_step HAR.out.low HBW.out)) HCC5.out E4.out).mono ?_
             rintro e wq ⟨v2, v5, rfl, h2, h5, hb⟩
             obtain ⟨Aq, cq, rfl⟩ := Kd.R_slice h2
             obtain ⟨Ar, cr, rfl⟩ := Kd.R_slice h5
             replace HBW := Aside0.mk (below_step HBW.out hb)
             replace HP := Aside0.mk ((⟨HP.out.1, Kd.C_below HP.out.2 hb⟩ : ta.length ≤ cp ∧ Kd.C k45 _ Ap ta.length ta))
             have HQ2 := Aside0.mk (Kd.R_reads' h2).2
             have HQ5 := Aside0.mk (Kd.R_reads' h5).2
             clear h2 h5 hb
             go_wp2_with fail
             refine hK.out _ _ ?_ (fun hH1 => ?_)
             · (try dsimp only); exact ArgW.held HAR.out HBW.out
             clear hK K
             refine wpAnyN_two (i := 4) (j := 8) (by kernel_rfl) rfl rfl (fun K hK => ?_) (fun K hK => ?_)
             · skip
               go_simp
               go_at_call 22
               with_reducible refine (spec_TreeAdd.calls k Ap cp ta n0 n1 Aq cq n2 n3 n4 Ar cr n5 x0 y1 _ HP.out.2 HP.out.1 HQ2.out.2 HQ2.out.1 HQ5.out.2 HQ5.out.1 E5.out).mono ?_
               rintro e wq ⟨v, rfl, hS, hb⟩
               obtain ⟨As, cs, rfl⟩ := Kd.S_slice hS
               have HR := Aside0.mk (Kd.S_lower hS HBW.out.size)
               replace HBW := Aside0.mk (below_step HBW.out hb)
               replace HP := Aside0.mk ((⟨HP.out.1, Kd.C_below HP.out.2 hb⟩ : ta.length ≤ cp ∧ Kd.C k45 _ Ap ta.length ta))
               replace HQ2 := Aside0.mk ((⟨HQ2.out.1, Kd.C_below HQ2.out.2 hb⟩ : n2.length ≤ cq ∧ Kd.C k98 _ Aq n2.length n2))
               replace HQ5 := Aside0.mk ((⟨HQ5.out.1, Kd.C_below HQ5.out.2 hb⟩ : n5.length ≤ cr ∧ Kd.C (Kd.int .i64) _ Ar n5.length n5))
               clear hS hb
               go_wp2_with fail
               refine hK.out _ _ ?_ (fun hH2 => ?_)
               · (try dsimp only); exact ArgW.held HAR.out HBW.out
               clear hK K
               refine wpAnyN_take (i := 5) (v := ?v305) rfl (by kernel_rfl) (by kernel_rfl) (by kernel_rfl) (by kernel_rfl) (fun _ _ _ h => h) (Or.inl ⟨by rfl, ?h305⟩) hH2 ?r305
               case h305 => (intro w_ hSw; (try dsimp only at hSw); go_simp; (try with_reducible rfl))
               refine wpAnyN_take (i := 6) (v := ?v406) rfl (by kernel_rfl) (by kernel_rfl) (by kernel_rfl) (by kernel_rfl) (fun _ _ _ h => h) (Or.inl ⟨by rfl, ?h406⟩) hH2 ?r406
               case h406 => (intro w_ hSw; (try dsimp only at hSw); go_simp; (try with_reducible rfl))
               refine wpAnyN_take (i := 7) (v := ?v507) rfl (by kernel_rfl) (by kernel_rfl) (by kernel_rfl) (by kernel_rfl) (fun _ _ _ h => h) (Or.inl ⟨by rfl, ?h507⟩) hH2 ?r507
               case h507 => (intro w_ hSw; (try dsimp only at hSw); go_simp; (try with_reducible rfl))
               refine wpAnyN_one (i := 8) (by kernel_rfl) rfl (fun K hK => ?_)
               go_simp
               refine hK.out _ _ ?_ (fun hH3 => ?_)
               · (try dsimp only); exact ArgW.held HAR.out (below_step HBW.out (below_alloc (Below.refl _ _) _))
               clear hK K
               have hX := blk_new wq (.cells #[.slice none 0 0] 29)
               have hb := below_alloc (Below.refl (wq).heap.size wq) (.cells #[.slice none 0 0] 29)
               generalize World.alloc wq (.cells #[.slice none 0 0] 29) = wz at hX hb ⊢
               obtain ⟨gz, hgz⟩ : ∃ gz, gz = (wq).heap.size := ⟨_, rfl⟩
               rw [← hgz] at hX ⊢
               have HGE := Aside0.mk (show WB.heap.size ≤ gz ∧ (wq).heap.size ≤ gz from ⟨by rw [hgz]; exact HBW.out.size, by rw [hgz]; exact Nat.le_refl _⟩)
               replace HBW := Aside0.mk (below_step HBW.out hb)
               replace HP := Aside0.mk ((⟨HP.out.1, Kd.C_below HP.out.2 hb⟩ : ta.length ≤ cp ∧ Kd.C k45 _ Ap ta.length ta))
               replace HQ2 := Aside0.mk ((⟨HQ2.out.1, Kd.C_below HQ2.out.2 hb⟩ : n2.length ≤ cq ∧ Kd.C k98 _ Aq n2.length n2))
               replace HQ5 := Aside0.mk ((⟨HQ5.out.1, Kd.C_below HQ5.out.2 hb⟩ : n5.length ≤ cr ∧ Kd.C (Kd.int .i64) _ Ar n5.length n5))
               have HG := Aside0.mk hX
               have HR2 := Aside0.mk (Kd.S_mono (Kd.S_below (Kd.S_elderB HR.out gz HGE.out.2) hb) (fun k_ hk => hk.2))
               clear HR
               have HR := HR2
               clear hgz hX hb
               have hz0 := blk_cell HG.out 0
               have hzf := blk_frozen HG.out
               refine wpAnyN_one (i := 9) (by kernel_rfl) rfl (fun K hK => ?_)
               go_simp
               refine hK.out _ _ ?_ (fun hH4 => ?_)
               · (try dsimp only); exact ArgW.held HAR.out (below_set HBW.out HGE.out.1)
               clear hK K
               refine wpAnyN_last (by kernel_rfl) (by kernel_rfl) rfl (fun K hK => ?_)
               go_simp
               refine hK.out _ _ ?_
               clear hK K
               refine ⟨⟨gz, As, cs, .agg #[.slice Ap ta.length cp], .agg #[.int .i64 n0, .string n1, .slice Aq n2.length cq, .string n3, .int .i64 n4, .slice Ar n5.length cr], ()⟩, by simp only [putAll, List.foldl_cons, List.foldl_nil, Act.put, List.setIfInBounds_toArray, List.set_cons_zero, List.set_cons_succ], blk_set HG.out 0 _, HGE.out.1, below_set HBW.out HGE.out.1, Kd.S_far (p := ⟨gz, 0, none⟩) HR.out (fun _ h_ => h_) _⟩
             · skip
               go_simp
               refine hK.out _ _ ?_ (fun hH5 => ?_)
               · (try dsimp only); exact ArgW.held HAR.out (below_step HBW.out (below_alloc (Below.refl _ _) _))
               clear hK K
               have hX := blk_new wq (.cells #[.slice none 0 0] 29)
               have hb := below_alloc (Below.refl (wq).heap.size wq) (.cells #[.slice none 0 0] 29)
               generalize World.alloc wq (.cells #[.slice none 0 0] 29) = wz at hX hb ⊢
               obtain ⟨gz, hgz⟩ : ∃ gz, gz = (wq).heap.size := ⟨_, rfl⟩
               rw [← hgz] at hX ⊢
               have HGE := Aside0.mk (show WB.heap.size ≤ gz ∧ (wq).heap.size ≤ gz from ⟨by rw [hgz]; exact HBW.out.size, by rw [hgz]; exact Nat.le_refl _⟩)
               replace HBW := Aside0.mk (below_step HBW.out hb)
               replace HP := Aside0.mk ((⟨HP.out.1, Kd.C_below HP.out.2 hb⟩ : ta.length ≤ cp ∧ Kd.C k45 _ Ap ta.length ta))
               replace HQ2 := Aside0.mk ((⟨HQ2.out.1, Kd.C_below HQ2.out.2 hb⟩ : n2.length ≤ cq ∧ Kd.C k98 _ Aq n2.length n2))
               replace HQ5 := Aside0.mk ((⟨HQ5.out.1, Kd.C_below HQ5.out.2 hb⟩ : n5.length ≤ cr ∧ Kd.C (Kd.int .i64) _ Ar n5.length n5))
               have HG := Aside0.mk hX
               clear hgz hX hb
               refine wpAnyN_one (i := 4) (by kernel_rfl) rfl (fun K hK => ?_)
               go_simp
               go_at_call 22
               with_reducible refine (spec_TreeAdd.calls k Ap cp ta n0 n1 Aq cq n2 n3 n4 Ar cr n5 x0 y1 _ HP.out.2 HP.out.1 HQ2.out.2 HQ2.out.1 HQ5.out.2 HQ5.out.1 E5.out).mono ?_
               rintro e wq ⟨v, rfl, hS, hb⟩
               obtain ⟨As, cs, rfl⟩ := Kd.S_slice hS
               have HR := Aside0.mk (Kd.S_lower (Kd.S_mono (Kd.S_bound hS) (ok' := fun k_ => k_ ≠ gz) (fun k_ hk => by have := hk.2.1; have := blk_lt HG.out; omega)) HBW.out.size)
               replace HBW := Aside0.mk (below_step HBW.out hb)
               replace HG := Aside0.mk (blk_below HG.out hb)
               replace HP := Aside0.mk ((⟨HP.out.1, Kd.C_below HP.out.2 hb⟩ : ta.length ≤ cp ∧ Kd.C k45 _ Ap ta.length ta))
               replace HQ2 := Aside0.mk ((⟨HQ2.out.1, Kd.C_below HQ2.out.2 hb⟩ : n2.length ≤ cq ∧ Kd.C k98 _ Aq n2.length n2))
               replace HQ5 := Aside0.mk ((⟨HQ5.out.1, Kd.C_below HQ5.out.2 hb⟩ : n5.length ≤ cr ∧ Kd.C (Kd.int .i64) _ Ar n5.length n5))
               clear hS hb
               go_wp2_with fail
               refine hK.out _ _ ?_ (fun hH6 => ?_)
               · (try dsimp only); exact ArgW.held HAR.out HBW.out
               clear hK K
               refine wpAnyN_take (i := 5) (v := ?v605) rfl (by kernel_rfl) (by kernel_rfl) (by kernel_rfl) (by kernel_rfl) (fun _ _ _ h => h) (Or.inl ⟨by rfl, ?h605⟩) hH6 ?r605
               case h605 => (intro w_ hSw; (try dsimp only at hSw); go_simp; (try with_reducible rfl))
               refine wpAnyN_take (i := 6) (v := ?v706) rfl (by kernel_rfl) (by kernel_rfl) (by kernel_rfl) (by kernel_rfl) (fun _ _ _ h => h) (Or.inl ⟨by rfl, ?h706⟩) hH6 ?r706
               case h706 => (intro w_ hSw; (try dsimp only at hSw); go_simp; (try with_reducible rfl))
               refine wpAnyN_take (i := 7) (v := ?v807) rfl (by kernel_rfl) (by kernel_rfl) (by kernel_rfl) (by kernel_rfl) (fun _ _ _ h => h) (Or.inl ⟨by rfl, ?h807⟩) hH6 ?r807
               case h807 => (intro w_ hSw; (try dsimp only at hSw); go_simp; (try with_reducible rfl))
               have hz0 := blk_cell HG.out 0
               have hzf := blk_frozen HG.out
               refine wpAnyN_one (i := 9) (by kernel_rfl) rfl (fun K hK => ?_)
               go_simp
               refine hK.out _ _ ?_ (fun hH7 => ?_)
               · (try dsimp only); exact ArgW.held HAR.out (below_set HBW.out HGE.out.1)
               clear hK K
               refine wpAnyN_last (by kernel_rfl) (by kernel_rfl) rfl (fun K hK => ?_)
               go_simp
               refine hK.out _ _ ?_
               clear hK K
               refine ⟨⟨gz, As, cs, .agg #[.slice Ap ta.length cp], .agg #[.int .i64 n0, .string n1, .slice Aq n2.length cq, .string n3, .int .i64 n4, .slice Ar n5.length cr], ()⟩, by simp only [putAll, List.foldl_cons, List.foldl_nil, Act.put, List.setIfInBounds_toArray, List.set_cons_zero, List.set_cons_succ], blk_set HG.out 0 _, HGE.out.1, below_set HBW.out HGE.out.1, Kd.S_far (p := ⟨gz, 0, none⟩) HR.out (fun _ h_ => h_) _⟩
           · skip
             go_simp
             refine hK.out _ _ ?_ (fun hH8 => ?_)
             · (try dsimp only); exact ArgW.held HAR.out (below_step HBW.out (below_alloc (Below.refl _ _) _))
             clear hK K
             have hX := blk_new wq (.cells #[.slice none 0 0] 29)
             have hb := below_alloc (Below.refl (wq).heap.size wq) (.cells #[.slice none 0 0] 29)
             generalize World.alloc wq (.cells #[.slice none 0 0] 29) = wz at hX hb ⊢
             obtain ⟨gz, hgz⟩ : ∃ gz, gz = (wq).heap.size := ⟨_, rfl⟩
             rw [← hgz] at hX ⊢
             have HGE := Aside0.mk (show WB.heap.size ≤ gz ∧ (wq).heap.size ≤ gz from ⟨by rw [hgz]; exact HBW.out.size, by rw [hgz]; exact Nat.le_refl _⟩)
             replace HBW := Aside0.mk (below_step HBW.out hb)
             replace HP := Aside0.mk ((⟨HP.out.1, Kd.C_below HP.out.2 hb⟩ : ta.length ≤ cp ∧ Kd.C k45 _ Ap ta.length ta))
             have HG := Aside0.mk hX
             clear hgz hX hb
             refine wpAnyN_one (i := 3) (by kernel_rfl) rfl (fun K hK => ?_)
             go_simp
             go_at_call 23
             with_reducible refine (laws_toNode.calls k b0 b1 A2 c2 l2 b3 b4 A5 c5 l5 n0 n1 n2 n3 n4 n5 _ (Kd.C_below HC2.out (below_step HAR.out.low HBW.out)) HCC2.out (Kd.C_below HC5.out (below_step HAR.out.low HBW.out)) HCC5.out E4.out).mono ?_
             rintro e wq ⟨v2, v5, rfl, h2, h5, hb⟩
             obtain ⟨Aq, cq, rfl⟩ := Kd.R_slice h2
             obtain ⟨Ar, cr, rfl⟩ := Kd.R_slice h5
             replace HBW := Aside0.mk (below_step HBW.out hb)
             replace HG := Aside0.mk (blk_below HG.out hb)
             replace HP := Aside0.mk ((⟨HP.out.1, Kd.C_below HP.out.2 hb⟩ : ta.length ≤ cp ∧ Kd.C k45 _ Ap ta.length ta))
             have HQ2 := Aside0.mk (Kd.R_reads' h2).2
             have HQ5 := Aside0.mk (Kd.R_reads' h5).2
             clear h2 h5 hb
             go_wp2_with fail
             refine hK.out _ _ ?_ (fun hH9 => ?_)
             · (try dsimp only); exact ArgW.held HAR.out HBW.out
             clear hK K
             refine wpAnyN_one (i := 4) (by kernel_rfl) rfl (fun K hK => ?_)
             go_simp
             go_at_call 22
             with_reducible refine (spec_TreeAdd.calls k Ap cp ta n0 n1 Aq cq n2 n3 n4 Ar cr n5 x0 y1 _ HP.out.2 HP.out.1 HQ2.out.2 HQ2.out.1 HQ5.out.2 HQ5.out.1 E5.out).mono ?_
             rintro e wq ⟨v, rfl, hS, hb⟩
             obtain ⟨As, cs, rfl⟩ := Kd.S_slice hS
             have HR := Aside0.mk (Kd.S_lower (Kd.S_mono (Kd.S_bound hS) (ok' := fun k_ => k_ ≠ gz) (fun k_ hk => by have := hk.2.1; have := blk_lt HG.out; omega)) HBW.out.size)
             replace HBW := Aside0.mk (below_step HBW.out hb)
             replace HG := Aside0.mk (blk_below HG.out hb)
             replace HP := Aside0.mk ((⟨HP.out.1, Kd.C_below HP.out.2 hb⟩ : ta.length ≤ cp ∧ Kd.C k45 _ Ap ta.length ta))
             replace HQ2 := Aside0.mk ((⟨HQ2.out.1, Kd.C_below HQ2.out.2 hb⟩ : n2.length ≤ cq ∧ Kd.C k98 _ Aq n2.length n2))
             replace HQ5 := Aside0.mk ((⟨HQ5.out.1, Kd.C_below HQ5.out.2 hb⟩ : n5.length ≤ cr ∧ Kd.C (Kd.int .i64) _ Ar n5.length n5))
             clear hS hb
             go_wp2_with fail
             refine hK.out _ _ ?_ (fun hH10 => ?_)
             · (try dsimp only); exact ArgW.held HAR.out HBW.out
             clear hK K
             refine wpAnyN_take (i := 5) (v := ?v905) rfl (by kernel_rfl) (by kernel_rfl) (by kernel_rfl) (by kernel_rfl) (fun _ _ _ h => h) (Or.inl ⟨by rfl, ?h905⟩) hH10 ?r905
             case h905 => (intro w_ hSw; (try dsimp only at hSw); go_simp; (try with_reducible rfl))
             refine wpAnyN_take (i := 6) (v := ?v1006) rfl (by kernel_rfl) (by kernel_rfl) (by kernel_rfl) (by kernel_rfl) (fun _ _ _ h => h) (Or.inl ⟨by rfl, ?h1006⟩) hH10 ?r1006
             case h1006 => (intro w_ hSw; (try dsimp only at hSw); go_simp; (try with_reducible rfl))
             refine wpAnyN_take (i := 7) (v := ?v1107) rfl (by kernel_rfl) (by kernel_rfl) (by kernel_rfl) (by kernel_rfl) (fun _ _ _ h => h) (Or.inl ⟨by rfl, ?h1107⟩) hH10 ?r1107
             case h1107 => (intro w_ hSw; (try dsimp only at hSw); go_simp; (try with_reducible rfl))
             have hz0 := blk_cell HG.out 0
             have hzf := blk_frozen HG.out
             refine wpAnyN_one (i := 9) (by kernel_rfl) rfl (fun K hK => ?_)
             go_simp
             refine hK.out _ _ ?_ (fun hH11 => ?_)
             · (try dsimp only); exact ArgW.held HAR.out (below_set HBW.out HGE.out.1)
             clear hK K
             refine wpAnyN_last (by kernel_rfl) (by kernel_rfl) rfl (fun K hK => ?_)
             go_simp
             refine hK.out _ _ ?_
             clear hK K
             refine ⟨⟨gz, As, cs, .agg #[.slice Ap ta.length cp], .agg #[.int .i64 n0, .string n1, .slice Aq n2.length cq, .string n3, .int .i64 n4, .slice Ar n5.length cr], ()⟩, by simp only [putAll, List.foldl_cons, List.foldl_nil, Act.put, List.setIfInBounds_toArray, List.set_cons_zero, List.set_cons_succ], blk_set HG.out 0 _, HGE.out.1, below_set HBW.out HGE.out.1, Kd.S_far (p := ⟨gz, 0, none⟩) HR.out (fun _ h_ => h_) _⟩
         · skip
           go_simp
           refine hK.out _ _ ?_ (fun hH12 => ?_)
           · (try dsimp only); exact ArgW.held HAR.out (below_step HBW.out (below_alloc (Below.refl _ _) _))
           clear hK K
           have hX := blk_new WD (.cells #[.slice none 0 0] 29)
           have hb := below_alloc (Below.refl (WD).heap.size WD) (.cells #[.slice none 0 0] 29)
           generalize World.alloc WD (.cells #[.slice none 0 0] 29) = wz at hX hb ⊢
           obtain ⟨gz, hgz⟩ : ∃ gz, gz = (WD).heap.size := ⟨_, rfl⟩
           rw [← hgz] at hX ⊢
           have HGE := Aside0.mk (show WB.heap.size ≤ gz ∧ (WD).heap.size ≤ gz from ⟨by rw [hgz]; exact HBW.out.size, by rw [hgz]; exact Nat.le_refl _⟩)
           replace HBW := Aside0.mk (below_step HBW.out hb)
           have HG := Aside0.mk hX
           clear hgz hX hb
           refine wpAnyN_one (i := 1) (by kernel_rfl) rfl (fun K hK => ?_)
           go_simp
           go_at_call 12
           with_reducible refine (laws_toTree.calls k A0_0 c0_0 l0_0 ta _ (Kd.C_below HC.out (below_step HAR.out.low HBW.out)) HCC.out E3.out).mono ?_
           rintro e wq ⟨v, rfl, hS, hb⟩
           obtain ⟨Ap, cp, rfl⟩ := Kd.S_slice hS
           replace HBW := Aside0.mk (below_step HBW.out hb)
           replace HG := Aside0.mk (blk_below HG.out hb)
           have HP := Aside0.mk (Kd.R_reads' (Kd.S_R hS)).2
           clear hS hb
           go_wp2_with fail
           refine hK.out _ _ ?_ (fun hH13 => ?_)
           · (try dsimp only); exact ArgW.held HAR.out HBW.out
           clear hK K
           refine wpAnyN_one (i := 3) (by kernel_rfl) rfl (fun K hK => ?_)
           go_simp
           go_at_call 23
           with_reducible refine (laws_toNode.calls k b0 b1 A2 c2 l2 b3 b4 A5 c5 l5 n0 n1 n2 n3 n4 n5 _ (Kd.C_below HC2.out (below_step HAR.out.low HBW.out)) HCC2.out (Kd.C_below HC5.out (below_step HAR.out.low HBW.out)) HCC5.out E4.out).mono ?_
           rintro e wq ⟨v2, v5, rfl, h2, h5, hb⟩
           obtain ⟨Aq, cq, rfl⟩ := Kd.R_slice h2
           obtain ⟨Ar, cr, rfl⟩ := Kd.R_slice h5
           replace HBW := Aside0.mk (below_step HBW.out hb)
           replace HG := Aside0.mk (blk_below HG.out hb)
           replace HP := Aside0.mk ((⟨HP.out.1, Kd.C_below HP.out.2 hb⟩ : ta.length ≤ cp ∧ Kd.C k45 _ Ap ta.length ta))
           have HQ2 := Aside0.mk (Kd.R_reads' h2).2
           have HQ5 := Aside0.mk (Kd.R_reads' h5).2
           clear h2 h5 hb
           go_wp2_with fail
           refine hK.out _ _ ?_ (fun hH14 => ?_)
           · (try dsimp only); exact ArgW.held HAR.out HBW.out
           clear hK K
           refine wpAnyN_one (i := 4) (by kernel_rfl) rfl (fun K hK => ?_)
           go_simp
           go_at_call 22
           with_reducible refine (spec_TreeAdd.calls k Ap cp ta n0 n1 Aq cq n2 n3 n4 Ar cr n5 x0 y1 _ HP.out.2 HP.out.1 HQ2.out.2 HQ2.out.1 HQ5.out.2 HQ5.out.1 E5.out).mono ?_
           rintro e wq ⟨v, rfl, hS, hb⟩
           obtain ⟨As, cs, rfl⟩ := Kd.S_slice hS
           have HR := Aside0.mk (Kd.S_lower (Kd.S_mono (Kd.S_bound hS) (ok' := fun k_ => k_ ≠ gz) (fun k_ hk => by have := hk.2.1; have := blk_lt HG.out; omega)) HBW.out.size)
           replace HBW := Aside0.mk (below_step HBW.out hb)
           replace HG := Aside0.mk (blk_below HG.out hb)
           replace HP := Aside0.mk ((⟨HP.out.1, Kd.C_below HP.out.2 hb⟩ : ta.length ≤ cp ∧ Kd.C k45 _ Ap ta.length ta))
           replace HQ2 := Aside0.mk ((⟨HQ2.out.1, Kd.C_below HQ2.out.2 hb⟩ : n2.length ≤ cq ∧ Kd.C k98 _ Aq n2.length n2))
           replace HQ5 := Aside0.mk ((⟨HQ5.out.1, Kd.C_below HQ5.out.2 hb⟩ : n5.length ≤ cr ∧ Kd.C (Kd.int .i64) _ Ar n5.length n5))
           clear hS hb
           go_wp2_with fail
           refine hK.out _ _ ?_ (fun hH15 => ?_)
           · (try dsimp only); exact ArgW.held HAR.out HBW.out
           clear hK K
           refine wpAnyN_take (i := 5) (v := ?v1205) rfl (by kernel_rfl) (by kernel_rfl) (by kernel_rfl) (by kernel_rfl) (fun _ _ _ h => h) (Or.inl ⟨by rfl, ?h1205⟩) hH15 ?r1205
           case h1205 => (intro w_ hSw; (try dsimp only at hSw); go_simp; (try with_reducible rfl))
           refine wpAnyN_take (i := 6) (v := ?v1306) rfl (by kernel_rfl) (by kernel_rfl) (by kernel_rfl) (by kernel_rfl) (fun _ _ _ h => h) (Or.inl ⟨by rfl, ?h1306⟩) hH15 ?r1306
           case h1306 => (intro w_ hSw; (try dsimp only at hSw); go_simp; (try with_reducible rfl))
           refine wpAnyN_take (i := 7) (v := ?v1407) rfl (by kernel_rfl) (by kernel_rfl) (by kernel_rfl) (by kernel_rfl) (fun _ _ _ h => h) (Or.inl ⟨by rfl, ?h1407⟩) hH15 ?r1407
           case h1407 => (intro w_ hSw; (try dsimp only at hSw); go_simp; (try with_reducible rfl))
           have hz0 := blk_cell HG.out 0
           have hzf := blk_frozen HG.out
           refine wpAnyN_one (i := 9) (by kernel_rfl) rfl (fun K hK => ?_)
           go_simp
           refine hK.out _ _ ?_ (fun hH16 => ?_)
           · (try dsimp only); exact ArgW.held HAR.out (below_set HBW.out HGE.out.1)
           clear hK K
           refine wpAnyN_last (by kernel_rfl) (by kernel_rfl) rfl (fun K hK => ?_)
           go_simp
           refine hK.out _ _ ?_
           clear hK K
           refine ⟨⟨gz, As, cs, .agg #[.slice Ap ta.length cp], .agg #[.int .i64 n0, .string n1, .slice Aq n2.length cq, .string n3, .int .i64 n4, .slice Ar n5.length cr], ()⟩, by simp only [putAll, List.foldl_cons, List.foldl_nil, Act.put, List.setIfInBounds_toArray, List.set_cons_zero, List.set_cons_succ], blk_set HG.out 0 _, HGE.out.1, below_set HBW.out HGE.out.1, Kd.S_far (p := ⟨gz, 0, none⟩) HR.out (fun _ h_ => h_) _⟩
       rintro ⟨g6, A4, c4, u1_, u2_, u3_⟩ wx ⟨hX, hge, hl, hN⟩
       simp only [putAll, List.foldl_cons, List.foldl_nil, Act.put, List.setIfInBounds_toArray, List.set_cons_zero, List.set_cons_succ]
       dsimp only at hX hge hl hN
       have HAX := Aside0.mk (HAR.out.below hl)
       have HR4 := Aside0.mk (Kd.S_reads' hN).2
       have HB6 := Aside0.mk hX
       clear hX hge hl hN HBW HAR
       have HLX := Aside0.mk (Below.refl wx.heap.size wx)
       obtain ⟨ha0, hb0, hb1, hb2, hb3, hb4, hb5⟩ := ArgW.held HAX.out HLX.out
       go_upto_region 10 with (first | (go_at_call 12; (with_reducible refine (laws_toTree.calls k A0_0 c0_0 l0_0 ta wx (Kd.C_below HC.out HAX.out.low) HCC.out E3.out).mono ?_); rintro e w5 ⟨v, rfl, hS, hb⟩; obtain ⟨A8, c8, rfl⟩ := Kd.S_slice hS; have HL5 := Aside0.mk hb; have HS5 := Aside0.mk (Kd.S_mono (Kd.S_bound hS) (ok' := fun k_ => wx.heap.size ≤ k_ ∧ k_ < w5.heap.size) (fun k_ hk => ⟨hk.2.1, hk.2.2.1⟩)); clear hS hb))
       clear ha0 hb0 hb1 hb2 hb3 hb4 hb5
       have hX := blk_new w5 (.cells #[.slice A8 ta.length c8] 29)
       have hl := below_alloc (Below.refl w5.heap.size w5) (.cells #[.slice A8 ta.length c8] 29)
       generalize w5.alloc (.cells #[.slice A8 ta.length c8] 29) = w6 at hX hl ⊢
       have HS6 := Aside0.mk (Kd.S_below HS5.out hl)
       have HB86 := Aside0.mk hX
       have HL6 := Aside0.mk (below_step HL5.out hl)
       have HO8 := Aside0.mk HL5.out.size
       clear hX hl HS5 HLX
       generalize w5.heap.size = g8 at HB86 HS6 HO8 ⊢
       obtain ⟨ha0, hb0, hb1, hb2, hb3, hb4, hb5⟩ := ArgW.held HAX.out HL6.out
       go_upto_region 11 with (first | (go_at_call 23; (with_reducible refine (laws_toNode.calls k b0 b1 A2 c2 l2 b3 b4 A5 c5 l5 n0 n1 n2 n3 n4 n5 w6 (Kd.C_below HC2.out (below_step HAX.out.low HL6.out)) HCC2.out (Kd.C_below HC5.out (below_step HAX.out.low HL6.out)) HCC5.out E4.out).mono ?_); rintro e w7 ⟨v2, v5, rfl, h2, h5, hb⟩; obtain ⟨A92, c92, rfl⟩ := Kd.R_slice h2; obtain ⟨A95, c95, rfl⟩ := Kd.R_slice h5; have HS7 := Aside0.mk (Kd.S_below HS6.out hb); have HB87 := Aside0.mk (blk_below HB86.out hb); have HL7 := Aside0.mk (below_step HL6.out hb); have H27 := Aside0.mk (Kd.R_lower (Kd.R_mono (Kd.R_bound h2) (ok' := fun k_ => g8 < k_ ∧ k_ < w7.heap.size) (fun k_ hk => ⟨Nat.lt_of_lt_of_le (blk_lt HB86.out) hk.2.1, hk.2.2.1⟩)) HL6.out.size); have H57 := Aside0.mk (Kd.R_lower (Kd.R_mono (Kd.R_bound h5) (ok' := fun k_ => g8 < k_ ∧ k_ < w7.heap.size) (fun k_ hk => ⟨Nat.lt_of_lt_of_le (blk_lt HB86.out) hk.2.1, hk.2.2.1⟩)) HL6.out.size); clear h2 h5 hb))
       clear ha0 hb0 hb1 hb2 hb3 hb4 hb5
       have hX := blk_new w7 (.cells #[.int .i64 n0, .string n1, .slice A92 n2.length c92, .string n3, .int .i64 n4, .slice A95 n5.length c95] 45)
       have hl := below_alloc (Below.refl w7.heap.size w7) (.cells #[.int .i64 n0, .string n1, .slice A92 n2.length c92, .string n3, .int .i64 n4, .slice A95 n5.length c95] 45)
       generalize w7.alloc (.cells #[.int .i64 n0, .string n1, .slice A92 n2.length c92, .string n3, .int .i64 n4, .slice A95 n5.length c95] 45) = w8 at hX hl ⊢
       have HO9 := Aside0.mk (show g8 < w7.heap.size from blk_lt HB87.out)
       have HT := Aside0.mk (show AdT wx w8 g8 w7.heap.size A8 c8 ta (n0, n1, n2, n3, n4, n5) A92 c92 A95 c95 from ⟨blk_below HB87.out hl, hX, Kd.S_below HS7.out hl, Kd.R_below H27.out hl, Kd.R_below H57.out hl, below_step HL7.out hl, HO8.out, HO9.out⟩)
       clear hX hl HS7 HS6 HB86 HB87 HL6 HL7 H27 H57 HO8 HO9 HL5
       generalize w7.heap.size = g9 at HT ⊢
       have h80 := blk_cell HT.out.b8 0
       obtain ⟨h90, h91, h92, h93, h94, h95⟩ := AdT.held9 HT.out (Below.refl _ _)
       go_upto_region 12 with (first | (go_at_call 24; (with_reducible refine (impl_TreeAdd.calls k A8 c8 ta n0 n1 A92 c92 n2 n3 n4 A95 c95 n5 y0 y1 w8 HT.out.t8.2 HT.out.t8.1 HT.out.n9.1.2 HT.out.n9.1.1 HT.out.n9.2.2 HT.out.n9.2.1 E6.out).mono ?_); rintro e w9 ⟨v, rfl, hS, hb⟩; obtain ⟨A10, c10, rfl⟩ := Kd.S_slice hS; have HT9 := Aside0.mk (HT.out.below hb); have HS9 := Aside0.mk (Kd.S_lower (Kd.S_mono (Kd.S_bound hS) (ok' := fun k_ => g9 < k_ ∧ k_ < w9.heap.size) (fun k_ hk => ⟨Nat.lt_of_lt_of_le (blk_lt HT.out.b9) hk.2.1, hk.2.2.1⟩)) HT.out.low.size); clear hS hb))
       clear h80 h90 h91 h92 h93 h94 h95
       have hX := blk_new w9 (.cells #[.slice A10 y0.length c10] 29)
       have hl := below_alloc (Below.refl w9.heap.size w9) (.cells #[.slice A10 y0.length c10] 29)
       generalize w9.alloc (.cells #[.slice A10 y0.length c10] 29) = wA at hX hl ⊢
       have HTA := Aside0.mk (HT9.out.below hl)
       have HG0 := Aside0.mk (show AdG wx wA w9.heap.size (fun k_ => g9 < k_ ∧ k_ < w9.heap.size) A10 y0.length c10 y0 from ⟨hX, Kd.S_below HS9.out hl, HTA.out.low, fun h_ => Nat.lt_irrefl _ h_.2, fun k_ h_ => by have := HTA.out.o8; have := HTA.out.o9; omega⟩)
       have HO10 := Aside0.mk (show g9 < w9.heap.size from blk_lt HT9.out.b9)
       clear hX hl HT9 HS9 HT
       generalize w9.heap.size = g10 at HG0 HO10 ⊢
       have hcg := blk_cell HG0.out.b 0
       have hcw := pw_cell_below HG0.out.low (blk_cell HB6.out 0)
       go_upto_region 14 with (first | (go_at_call 14; (with_reducible refine (laws_eqTree.calls k A10 c10 y0 A4 c4 x0 true wA HG0.out.row.2.1 HG0.out.row.1 (Kd.C_below HR4.out.2 HG0.out.low) HR4.out.1 E7.out).mono ?_); rintro e wB ⟨rfl, hb⟩; have HTB := Aside0.mk (HTA.out.below hb); have HGB := Aside0.mk (HG0.out.below hb); clear hb))
       clear hcg hcw HTA HG0
       have HTD := Aside0.mk (show AdT wx wB.drew _ _ _ _ _ _ _ _ _ _ from HTB.out.below (pw_below_drewN (Below.refl _ _) 1))
       have hc8 := blk_cell HTB.out.b8 0
       have hca := (ArgW.held HAX.out HTB.out.low).1
       go_region_held3 (fun w' => w'.cell? ⟨g8, 0, none⟩ = some (.slice A8 ta.length c8) ∧ w'.cell? ⟨ga, 0, none⟩ = some (.slice A0_0 l0_0.length c0_0)) (first | exact ⟨hc8, hca⟩ | exact ⟨hc8A, hcaA⟩ | exact ⟨hc8B, hcaB⟩) (first | (go_at_call 12; (with_reducible refine (laws_toTree.calls k A0_0 c0_0 l0_0 ta _ (Kd.C_below HC.out (below_step HAX.out.low HTD.out.low)) HCC.out E3.out).mono ?_); rintro e wC ⟨v, rfl, hS, hb⟩; obtain ⟨Ap, cp, rfl⟩ := Kd.S_slice hS; have HTC := Aside0.mk (HTD.out.below hb); have HPA := Aside0.mk (Kd.R_reads' (Kd.S_R hS)).2; have HBC := Aside0.mk hb; have hc8A := blk_cell HTC.out.b8 0; have hcaA := (ArgW.held HAX.out HTC.out.low).1; clear hS hb) | (go_at_call 14; (with_reducible refine (laws_eqTree.calls k A8 c8 ta Ap cp ta true _ HTC.out.t8.2 HTC.out.t8.1 HPA.out.2 HPA.out.1 E8.out).mono ?_); rintro e wD ⟨rfl, hb⟩; have HTE := Aside0.mk (HTC.out.below hb); have HGE := Aside0.mk (((HGB.out.below (W2 := wB.drew) (pw_below_drewN (Below.refl _ _) 1)).below HBC.out).below hb); have hc8B := blk_cell HTE.out.b8 0; have hcaB := (ArgW.held HAX.out HTE.out.low).1; clear hb))
       clear hc8 hca hc8A hcaA hc8B hcaB HTB HTD HTC HPA HBC HGB
       go_upto_region 16 with (fail)
       have HTD := Aside0.mk (show AdT wx wD.drew _ _ _ _ _ _ _ _ _ _ from HTE.out.below (pw_below_drewN (Below.refl _ _) 1))
       go_region_held3 (fun w' => (w'.cell? ⟨g9, 0, none⟩ = some (.int .i64 n0) ∧ w'.cell? ⟨g9, 1, none⟩ = some (.string n1) ∧ w'.cell? ⟨g9, 2, none⟩ = some (.slice A92 n2.length c92) ∧ w'.cell? ⟨g9, 3, none⟩ = some (.string n3) ∧ w'.cell? ⟨g9, 4, none⟩ = some (.int .i64 n4) ∧ w'.cell? ⟨g9, 5, none⟩ = some (.slice A95 n5.length c95)) ∧ w'.cell? ⟨ga, 0, none⟩ = some (.slice A0_0 l0_0.length c0_0) ∧ w'.cell? ⟨gb, 0, none⟩ = some (.int .i64 b0) ∧ w'.cell? ⟨gb, 1, none⟩ = some (.string b1) ∧ w'.cell? ⟨gb, 2, none⟩ = some (.slice A2 l2.length c2) ∧ w'.cell? ⟨gb, 3, none⟩ = some (.string b3) ∧ w'.cell? ⟨gb, 4, none⟩ = some (.int .i64 b4) ∧ w'.cell? ⟨gb, 5, none⟩ = some (.slice A5 l5.length c5)) (first | exact ⟨AdT.held9 HTD.out (Below.refl _ _), ArgW.held HAX.out HTD.out.low⟩ | exact ⟨AdT.held9 HTC.out (Below.refl _ _), ArgW.held HAX.out HTC.out.low⟩ | exact ⟨AdT.held9 HTF.out (Below.refl _ _), ArgW.held HAX.out HTF.out.low⟩) (first | (go_at_call 23; (with_reducible refine (laws_toNode.calls k b0 b1 A2 c2 l2 b3 b4 A5 c5 l5 n0 n1 n2 n3 n4 n5 _ (Kd.C_below HC2.out (below_step HAX.out.low HTD.out.low)) HCC2.out (Kd.C_below HC5.out (below_step HAX.out.low HTD.out.low)) HCC5.out E4.out).mono ?_); rintro e wE ⟨v2, v5, rfl, h2, h5, hb⟩; obtain ⟨Aq, cq, rfl⟩ := Kd.R_slice h2; obtain ⟨Ar, cr, rfl⟩ := Kd.R_slice h5; have HTC := Aside0.mk (HTD.out.below hb); have HPA := Aside0.mk (Kd.R_reads' h2).2; have HPB := Aside0.mk (Kd.R_reads' h5).2; have HBC := Aside0.mk hb; clear h2 h5 hb) | (go_at_call 25; (with_reducible refine (laws_eqNode.calls k n0 n1 A92 c92 n2 n3 n4 A95 c95 n5 n0 n1 Aq cq n2 n3 n4 Ar cr n5 true _ HTC.out.n9.1.2 HTC.out.n9.1.1 HTC.out.n9.2.2 HTC.out.n9.2.1 HPA.out.2 HPA.out.1 HPB.out.2 HPB.out.1 E9.out).mono ?_); rintro e wF ⟨rfl, hb⟩; have HTF := Aside0.mk (HTC.out.below hb); have HGF := Aside0.mk (((HGE.out.below (W2 := wD.drew) (pw_below_drewN (Below.refl _ _) 1)).below HBC.out).below hb); clear hb))
       clear HTE HTD HTC HPA HPB HBC HGE
       have hc8 := blk_cell HTF.out.b8 0
       go_upto_region 20 with (first | (go_at_call 19; (with_reducible refine (laws_markTree.calls k (fun k_ => wx.heap.size ≤ k_ ∧ k_ < g8) _ ta 1 m1 z1 wx wF HTF.out.low HTF.out.s8 E10.out).mono ?_); rintro e wG ⟨rfl, _, hl, hk⟩; have HNG := Aside0.mk (HTF.out.mark8 hl hk); have HGG := Aside0.mk (HGF.out.kept hl hk (fun k_ h_ => by have := HO10.out; have := HTF.out.o9; omega)); clear hl hk))
       clear hc8 HTF HGF
       obtain ⟨h90, h91, h92, h93, h94, h95⟩ := HNG.out.cells
       go_upto_region 21 with (first | (go_at_call 26; (with_reducible refine (laws_markNode.calls k n0 n1 (fun k_ => g8 < k_ ∧ k_ < g9) _ n2 n3 n4 (fun k_ => g8 < k_ ∧ k_ < g9) _ n5 m1 m2 z2 z5 wx wG HNG.out.low HNG.out.r2 HNG.out.r5 E11.out).mono ?_); rintro e wH ⟨rfl, _, _, hl, hk⟩; have HGH := Aside0.mk (HGG.out.kept hl hk (fun k_ h_ => by have := HO10.out; omega)); clear hl hk))
       clear h90 h91 h92 h93 h94 h95 HNG HGG
       have hcg := blk_cell HGH.out.b 0
       have hcw := pw_cell_below HGH.out.low (blk_cell HB6.out 0)
       go_upto_region 24 with (first | (go_at_call 14; (with_reducible refine (laws_eqTree.calls k A10 c10 y0 A4 c4 x0 true wH HGH.out.row.2.1 HGH.out.row.1 (Kd.C_below HR4.out.2 HGH.out.low) HR4.out.1 E7.out).mono ?_); rintro e wI ⟨rfl, hb⟩; have HGI := Aside0.mk (HGH.out.below hb); clear hb))
       clear hcg hcw HGH
       have hcg := blk_cell HGI.out.b 0
       go_upto_region 25 with (first | (go_at_call 19; (with_reducible refine (laws_markTree.calls k _ _ y0 1 q z3 wx wI HGI.out.low HGI.out.s E12.out).mono ?_); rintro e wJ ⟨rfl, hS, hl, hk⟩; have HGJ := Aside0.mk (HGI.out.mark hS hl hk); clear hS hl hk))
       clear hcg HGI
       have hcg := blk_cell HGJ.out.b 0
       have HVC := Aside0.mk HGJ.out.row
       go_upto_region 31 with (first | (go_at_call 20; rw [HVC.out.2.2]; (with_reducible refine (laws_heldTree.calls k A10 c10 z3 1 q wJ HVC.out.2.1 (HVC.out.2.2 ▸ HVC.out.1) E13.out).mono ?_); rintro e wK ⟨rfl, hb⟩; have HGK := Aside0.mk (HGJ.out.below hb); clear hb))
       clear hcg HGJ HVC
       have HAR := Aside0.mk (show ArgW w wK ga gb #[.slice A0_0 l0_0.length c0_0] #[.int .i64 b0, .string b1, .slice A2 l2.length c2, .string b3, .int .i64 b4, .slice A5 l5.length c5] from HAX.out.below HGK.out.low)
       generalize wK = WB at HAR HGK ⊢
       have HBW := Aside0.mk (show Below WB.heap.size WB WB.drew from pw_below_drewN (Below.refl _ _) 1)
       refine region_join (σ := Nat × Option Addr × Nat × Value × Value × Unit) (fun s_ => [(95, .agg #[.slice A0_0 l0_0.length c0_0]), (96, s_.2.2.2.1), (97, .agg #[.int .i64 b0, .string b1, .slice A2 l2.length c2, .string b3, .int .i64 b4, .slice A5 l5.length c5]), (98, s_.2.2.2.2.1), (99, .tuple #[.agg #[.slice s_.2.1 y0.length s_.2.2.1], .int .i64 y1]), (94, .tuple #[.agg #[.slice s_.2.1 y0.length s_.2.2.1], .int .i64 y1]), (100, .agg #[.slice s_.2.1 y0.length s_.2.2.1]), (101, .int .i64 y1), (15, .pointer (some ⟨s_.1, 0, none⟩)), (16, .int .i64 y1)]) (fun s_ w' => w'.heap[s_.1]? = some (.cells #[.slice s_.2.1 y0.length s_.2.2.1] 29 (0, 0)) ∧ WB.heap.size ≤ s_.1 ∧ Below WB.heap.size WB w' ∧ Kd.S k45 45 w' WB.heap.size (fun k_ => k_ ≠ s_.1) (.slice s_.2.1 y0.length s_.2.2.1) y0) ?_ ?_
       · skip
         refine wp_region_N (n := 10) (S := (fun w' => w'.cell? ⟨ga, 0, none⟩ = some (.slice A0_0 l0_0.length c0_0) ∧ w'.cell? ⟨gb, 0, none⟩ = some (.int .i64 b0) ∧ w'.cell? ⟨gb, 1, none⟩ = some (.string b1) ∧ w'.cell? ⟨gb, 2, none⟩ = some (.slice A2 l2.length c2) ∧ w'.cell? ⟨gb, 3, none⟩ = some (.string b3) ∧ w'.cell? ⟨gb, 4, none⟩ = some (.int .i64 b4) ∧ w'.cell? ⟨gb, 5, none⟩ = some (.slice A5 l5.length c5))) (by kernel_rfl) (ArgW.held HAR.out HBW.out) (fun hHeld => ?_)
         generalize WB.drew = WD at HBW hHeld ⊢
         refine wpAnyN_take (i := 0) (v := ?v1500) rfl (by kernel_rfl) (by kernel_rfl) (by kernel_rfl) (by kernel_rfl) (fun _ _ _ h => h) (Or.inl ⟨by rfl, ?h1500⟩) hHeld ?r1500
         case h1500 => (intro w_ hSw; (try dsimp only at hSw); go_simp; (try with_reducible rfl))
         refine wpAnyN_take (i := 2) (v := ?v1602) rfl (by kernel_rfl) (by kernel_rfl) (by kernel_rfl) (by kernel_rfl) (fun _ _ _ h => h) (Or.inl ⟨by rfl, ?h1602⟩) hHeld ?r1602
         case h1602 => (intro w_ hSw; (try dsimp only at hSw); go_simp; (try with_reducible rfl))
         refine wpAnyN_two (i := 1) (j := 8) (by kernel_rfl) rfl rfl (fun K hK => ?_) (fun K hK => ?_)
         · skip
           go_simp
           go_at_call 12
           with_reducible refine (laws_toTree.calls k A0_0 c0_0 l0_0 ta _ (Kd.C_below HC.out (below_step HAR.out.low HBW.out)) HCC.out E3.out).mono ?_
           rintro e wq ⟨v, rfl, hS, hb⟩
           obtain ⟨Ap, cp, rfl⟩ := Kd.S_slice hS
           replace HBW := Aside0.mk (below_step HBW.out hb)
           have HP := Aside0.mk (Kd.R_reads' (Kd.S_R hS)).2
           clear hS hb
           go_wp2_with fail
           refine hK.out _ _ ?_ (fun hH0 => ?_)
           · (try dsimp only); exact ArgW.held HAR.out HBW.out
           clear hK K
           refine wpAnyN_two (i := 3) (j := 8) (by kernel_rfl) rfl rfl (fun K hK => ?_) (fun K hK => ?_)
           · skip
             go_simp
             go_at_call 23
             with_reducible refine (laws_toNode.calls k b0 b1 A2 c2 l2 b3 b4 A5 c5 l5 n0 n1 n2 n3 n4 n5 _ (Kd.C_below HC2.out (below_step HAR.out.low HBW.out)) HCC2.out (Kd.C_below HC5.out (below_step HAR.out.low HBW.out)) HCC5.out E4.out).mono ?_
             rintro e wq ⟨v2, v5, rfl, h2, h5, hb⟩
             obtain ⟨Aq, cq, rfl⟩ := Kd.R_slice h2
             obtain ⟨Ar, cr, rfl⟩ := Kd.R_slice h5
             replace HBW := Aside0.mk (below_step HBW.out hb)
             replace HP := Aside0.mk ((⟨HP.out.1, Kd.C_below HP.out.2 hb⟩ : ta.length ≤ cp ∧ Kd.C k45 _ Ap ta.length ta))
             have HQ2 := Aside0.mk (Kd.R_reads' h2).2
             have HQ5 := Aside0.mk (Kd.R_reads' h5).2
             clear h2 h5 hb
             go_wp2_with fail
             refine hK.out _ _ ?_ (fun hH1 => ?_)
             · (try dsimp only); exact ArgW.held HAR.out HBW.out
             clear hK K
             refine wpAnyN_two (i := 4) (j := 8) (by kernel_rfl) rfl rfl (fun K hK => ?_) (fun K hK => ?_)
             · skip
               go_simp
               go_at_call 24
               with_reducible refine (impl_TreeAdd.calls k Ap cp ta n0 n1 Aq cq n2 n3 n4 Ar cr n5 y0 y1 _ HP.out.2 HP.out.1 HQ2.out.2 HQ2.out.1 HQ5.out.2 HQ5.out.1 E6.out).mono ?_
               rintro e wq ⟨v, rfl, hS, hb⟩
               obtain ⟨As, cs, rfl⟩ := Kd.S_slice hS
               have HR := Aside0.mk (Kd.S_lower hS HBW.out.size)
               replace HBW := Aside0.mk (below_step HBW.out hb)
               replace HP := Aside0.mk ((⟨HP.out.1, Kd.C_below HP.out.2 hb⟩ : ta.length ≤ cp ∧ Kd.C k45 _ Ap ta.length ta))
               replace HQ2 := Aside0.mk ((⟨HQ2.out.1, Kd.C_below HQ2.out.2 hb⟩ : n2.length ≤ cq ∧ Kd.C k98 _ Aq n2.length n2))
               replace HQ5 := Aside0.mk ((⟨HQ5.out.1, Kd.C_below HQ5.out.2 hb⟩ : n5.length ≤ cr ∧ Kd.C (Kd.int .i64) _ Ar n5.length n5))
               clear hS hb
               go_wp2_with fail
               refine hK.out _ _ ?_ (fun hH2 => ?_)
               · (try dsimp only); exact ArgW.held HAR.out HBW.out
               clear hK K
               refine wpAnyN_take (i := 5) (v := ?v1705) rfl (by kernel_rfl) (by kernel_rfl) (by kernel_rfl) (by kernel_rfl) (fun _ _ _ h => h) (Or.inl ⟨by rfl, ?h1705⟩) hH2 ?r1705
               case h1705 => (intro w_ hSw; (try dsimp only at hSw); go_simp; (try with_reducible rfl))
               refine wpAnyN_take (i := 6) (v := ?v1806) rfl (by kernel_rfl) (by kernel_rfl) (by kernel_rfl) (by kernel_rfl) (fun _ _ _ h => h) (Or.inl ⟨by rfl, ?h1806⟩) hH2 ?r1806
               case h1806 => (intro w_ hSw; (try dsimp only at hSw); go_simp; (try with_reducible rfl))
               refine wpAnyN_take (i := 7) (v := ?v1907) rfl (by kernel_rfl) (by kernel_rfl) (by kernel_rfl) (by kernel_rfl) (fun _ _ _ h => h) (Or.inl ⟨by rfl, ?h1907⟩) hH2 ?r1907
               case h1907 => (intro w_ hSw; (try dsimp only at hSw); go_simp; (try with_reducible rfl))
               refine wpAnyN_one (i := 8) (by kernel_rfl) rfl (fun K hK => ?_)
               go_simp
               refine hK.out _ _ ?_ (fun hH3 => ?_)
               · (try dsimp only); exact ArgW.held HAR.out (below_step HBW.out (below_alloc (Below.refl _ _) _))
               clear hK K
               have hX := blk_new wq (.cells #[.slice none 0 0] 29)
               have hb := below_alloc (Below.refl (wq).heap.size wq) (.cells #[.slice none 0 0] 29)
               generalize World.alloc wq (.cells #[.slice none 0 0] 29) = wz at hX hb ⊢
               obtain ⟨gz, hgz⟩ : ∃ gz, gz = (wq).heap.size := ⟨_, rfl⟩
               rw [← hgz] at hX ⊢
               have HGE := Aside0.mk (show WB.heap.size ≤ gz ∧ (wq).heap.size ≤ gz from ⟨by rw [hgz]; exact HBW.out.size, by rw [hgz]; exact Nat.le_refl _⟩)
               replace HBW := Aside0.mk (below_step HBW.out hb)
               replace HP := Aside0.mk ((⟨HP.out.1, Kd.C_below HP.out.2 hb⟩ : ta.length ≤ cp ∧ Kd.C k45 _ Ap ta.length ta))
               replace HQ2 := Aside0.mk ((⟨HQ2.out.1, Kd.C_below HQ2.out.2 hb⟩ : n2.length ≤ cq ∧ Kd.C k98 _ Aq n2.length n2))
               replace HQ5 := Aside0.mk ((⟨HQ5.out.1, Kd.C_below HQ5.out.2 hb⟩ : n5.length ≤ cr ∧ Kd.C (Kd.int .i64) _ Ar n5.length n5))
               have HG := Aside0.mk hX
               have HR2 := Aside0.mk (Kd.S_mono (Kd.S_below (Kd.S_elderB HR.out gz HGE.out.2) hb) (fun k_ hk => hk.2))
               clear HR
               have HR := HR2
               clear hgz hX hb
               have hz0 := blk_cell HG.out 0
               have hzf := blk_frozen HG.out
               refine wpAnyN_one (i := 9) (by kernel_rfl) rfl (fun K hK => ?_)
               go_simp
               refine hK.out _ _ ?_ (fun hH4 => ?_)
               · (try dsimp only); exact ArgW.held HAR.out (below_set HBW.out HGE.out.1)
               clear hK K
               refine wpAnyN_last (by kernel_rfl) (by kernel_rfl) rfl (fun K hK => ?_)
               go_simp
               refine hK.out _ _ ?_
               clear hK K
               refine ⟨⟨gz, As, cs, .agg #[.slice Ap ta.length cp], .agg #[.int .i64 n0, .string n1, .slice Aq n2.length cq, .string n3, .int .i64 n4, .slice Ar n5.length cr], ()⟩, by simp only [putAll, List.foldl_cons, List.foldl_nil, Act.put, List.setIfInBounds_toArray, List.set_cons_zero, List.set_cons_succ], blk_set HG.out 0 _, HGE.out.1, below_set HBW.out HGE.out.1, Kd.S_far (p := ⟨gz, 0, none⟩) HR.out (fun _ h_ => h_) _⟩
             · skip
               go_simp
               refine hK.out _ _ ?_ (fun hH5 => ?_)
               · (try dsimp only); exact ArgW.held HAR.out (below_step HBW.out (below_alloc (Below.refl _ _) _))
               clear hK K
               have hX := blk_new wq (.cells #[.slice none 0 0] 29)
               have hb := below_alloc (Below.refl (wq).heap.size wq) (.cells #[.slice none 0 0] 29)
               generalize World.alloc wq (.cells #[.slice none 0 0] 29) = wz at hX hb ⊢
               obtain ⟨gz, hgz⟩ : ∃ gz, gz = (wq).heap.size := ⟨_, rfl⟩
               rw [← hgz] at hX ⊢
               have HGE := Aside0.mk (show WB.heap.size ≤ gz ∧ (wq).heap.size ≤ gz from ⟨by rw [hgz]; exact HBW.out.size, by rw [hgz]; exact Nat.le_refl _⟩)
               replace HBW := Aside0.mk (below_step HBW.out hb)
               replace HP := Aside0.mk ((⟨HP.out.1, Kd.C_below HP.out.2 hb⟩ : ta.length ≤ cp ∧ Kd.C k45 _ Ap ta.length ta))
               replace HQ2 := Aside0.mk ((⟨HQ2.out.1, Kd.C_below HQ2.out.2 hb⟩ : n2.length ≤ cq ∧ Kd.C k98 _ Aq n2.length n2))
               replace HQ5 := Aside0.mk ((⟨HQ5.out.1, Kd.C_below HQ5.out.2 hb⟩ : n5.length ≤ cr ∧ Kd.C (Kd.int .i64) _ Ar n5.length n5))
               have HG := Aside0.mk hX
               clear hgz hX hb
               refine wpAnyN_one (i := 4) (by kernel_rfl) rfl (fun K hK => ?_)
               go_simp
               go_at_call 24
               with_reducible refine (impl_TreeAdd.calls k Ap cp ta n0 n1 Aq cq n2 n3 n4 Ar cr n5 y0 y1 _ HP.out.2 HP.out.1 HQ2.out.2 HQ2.out.1 HQ5.out.2 HQ5.out.1 E6.out).mono ?_
               rintro e wq ⟨v, rfl, hS, hb⟩
               obtain ⟨As, cs, rfl⟩ := Kd.S_slice hS
               have HR := Aside0.mk (Kd.S_lower (Kd.S_mono (Kd.S_bound hS) (ok' := fun k_ => k_ ≠ gz) (fun k_ hk => by have := hk.2.1; have := blk_lt HG.out; omega)) HBW.out.size)
               replace HBW := Aside0.mk (below_step HBW.out hb)
               replace HG := Aside0.mk (blk_below HG.out hb)
               replace HP := Aside0.mk ((⟨HP.out.1, Kd.C_below HP.out.2 hb⟩ : ta.length ≤ cp ∧ Kd.C k45 _ Ap ta.length ta))
               replace HQ2 := Aside0.mk ((⟨HQ2.out.1, Kd.C_below HQ2.out.2 hb⟩ : n2.length ≤ cq ∧ Kd.C k98 _ Aq n2.length n2))
               replace HQ5 := Aside0.mk ((⟨HQ5.out.1, Kd.C_below HQ5.out.2 hb⟩ : n5.length ≤ cr ∧ Kd.C (Kd.int .i64) _ Ar n5.length n5))
               clear hS hb
               go_wp2_with fail
               refine hK.out _ _ ?_ (fun hH6 => ?_)
               · (try dsimp only); exact ArgW.held HAR.out HBW.out
               clear hK K
               refine wpAnyN_take (i := 5) (v := ?v2005) rfl (by kernel_rfl) (by kernel_rfl) (by kernel_rfl) (by kernel_rfl) (fun _ _ _ h => h) (Or.inl ⟨by rfl, ?h2005⟩) hH6 ?r2005
               case h2005 => (intro w_ hSw; (try dsimp only at hSw); go_simp; (try with_reducible rfl))
               refine wpAnyN_take (i := 6) (v := ?v2106) rfl (by kernel_rfl) (by kernel_rfl) (by kernel_rfl) (by kernel_rfl) (fun _ _ _ h => h) (Or.inl ⟨by rfl, ?h2106⟩) hH6 ?r2106
               case h2106 => (intro w_ hSw; (try dsimp only at hSw); go_simp; (try with_reducible rfl))
               refine wpAnyN_take (i := 7) (v := ?v2207) rfl (by kernel_rfl) (by kernel_rfl) (by kernel_rfl) (by kernel_rfl) (fun _ _ _ h => h) (Or.inl ⟨by rfl, ?h2207⟩) hH6 ?r2207
               case h2207 => (intro w_ hSw; (try dsimp only at hSw); go_simp; (try with_reducible rfl))
               have hz0 := blk_cell HG.out 0
               have hzf := blk_frozen HG.out
               refine wpAnyN_one (i := 9) (by kernel_rfl) rfl (fun K hK => ?_)
               go_simp
               refine hK.out _ _ ?_ (fun hH7 => ?_)
               · (try dsimp only); exact ArgW.held HAR.out (below_set HBW.out HGE.out.1)
               clear hK K
               refine wpAnyN_last (by kernel_rfl) (by kernel_rfl) rfl (fun K hK => ?_)
               go_simp
               refine hK.out _ _ ?_
               clear hK K
               refine ⟨⟨gz, As, cs, .agg #[.slice Ap ta.length cp], .agg #[.int .i64 n0, .string n1, .slice Aq n2.length cq, .string n3, .int .i64 n4, .slice Ar n5.length cr], ()⟩, by simp only [putAll, List.foldl_cons, List.foldl_nil, Act.put, List.setIfInBounds_toArray, List.set_cons_zero, List.set_cons_succ], blk_set HG.out 0 _, HGE.out.1, below_set HBW.out HGE.out.1, Kd.S_far (p := ⟨gz, 0, none⟩) HR.out (fun _ h_ => h_) _⟩
           · skip
             go_simp
             refine hK.out _ _ ?_ (fun hH8 => ?_)
             · (try dsimp only); exact ArgW.held HAR.out (below_step HBW.out (below_alloc (Below.refl _ _) _))
             clear hK K
             have hX := blk_new wq (.cells #[.slice none 0 0] 29)
             have hb := below_alloc (Below.refl (wq).heap.size wq) (.cells #[.slice none 0 0] 29)
             generalize World.alloc wq (.cells #[.slice none 0 0] 29) = wz at hX hb ⊢
             obtain ⟨gz, hgz⟩ : ∃ gz, gz = (wq).heap.size := ⟨_, rfl⟩
             rw [← hgz] at hX ⊢
             have HGE := Aside0.mk (show WB.heap.size ≤ gz ∧ (wq).heap.size ≤ gz from ⟨by rw [hgz]; exact HBW.out.size, by rw [hgz]; exact Nat.le_refl _⟩)
             replace HBW := Aside0.mk (below_step HBW.out hb)
             replace HP := Aside0.mk ((⟨HP.out.1, Kd.C_below HP.out.2 hb⟩ : ta.length ≤ cp ∧ Kd.C k45 _ Ap ta.length ta))
             have HG := Aside0.mk hX
             clear hgz hX hb
             refine wpAnyN_one (i := 3) (by kernel_rfl) rfl (fun K hK => ?_)
             go_simp
             go_at_call 23
             with_reducible refine (laws_toNode.calls k b0 b1 A2 c2 l2 b3 b4 A5 c5 l5 n0 n1 n2 n3 n4 n5 _ (Kd.C_below HC2.out (below_step HAR.out.low HBW.out)) HCC2.out (Kd.C_below HC5.out (below_step HAR.out.low HBW.out)) HCC5.out E4.out).mono ?_
             rintro e wq ⟨v2, v5, rfl, h2, h5, hb⟩
             obtain ⟨Aq, cq, rfl⟩ := Kd.R_slice h2
             obtain ⟨Ar, cr, rfl⟩ := Kd.R_slice h5
             replace HBW := Aside0.mk (below_step HBW.out hb)
             replace HG := Aside0.mk (blk_below HG.out hb)
             replace HP := Aside0.mk ((⟨HP.out.1, Kd.C_below HP.out.2 hb⟩ : ta.length ≤ cp ∧ Kd.C k45 _ Ap ta.length ta))
             have HQ2 := Aside0.mk (Kd.R_reads' h2).2
             have HQ5 := Aside0.mk (Kd.R_reads' h5).2
             clear h2 h5 hb
             go_wp2_with fail
             refine hK.out _ _ ?_ (fun hH9 => ?_)
             · (try dsimp only); exact ArgW.held HAR.out HBW.out
             clear hK K
             refine wpAnyN_one (i := 4) (by kernel_rfl) rfl (fun K hK => ?_)
             go_simp
             go_at_call 24
             with_reducible refine (impl_TreeAdd.calls k Ap cp ta n0 n1 Aq cq n2 n3 n4 Ar cr n5 y0 y1 _ HP.out.2 HP.out.1 HQ2.out.2 HQ2.out.1 HQ5.out.2 HQ5.out.1 E6.out).mono ?_
             rintro e wq ⟨v, rfl, hS, hb⟩
             obtain ⟨As, cs, rfl⟩ := Kd.S_slice hS
             have HR := Aside0.mk (Kd.S_lower (Kd.S_mono (Kd.S_bound hS) (ok' := fun k_ => k_ ≠ gz) (fun k_ hk => by have := hk.2.1; have := blk_lt HG.out; omega)) HBW.out.size)
             replace HBW := Aside0.mk (below_step HBW.out hb)
             replace HG := Aside0.mk (blk_below HG.out hb)
             replace HP := Aside0.mk ((⟨HP.out.1, Kd.C_below HP.out.2 hb⟩ : ta.length ≤ cp ∧ Kd.C k45 _ Ap ta.length ta))
             replace HQ2 := Aside0.mk ((⟨HQ2.out.1, Kd.C_below HQ2.out.2 hb⟩ : n2.length ≤ cq ∧ Kd.C k98 _ Aq n2.length n2))
             replace HQ5 := Aside0.mk ((⟨HQ5.out.1, Kd.C_below HQ5.out.2 hb⟩ : n5.length ≤ cr ∧ Kd.C (Kd.int .i64) _ Ar n5.length n5))
             clear hS hb
             go_wp2_with fail
             refine hK.out _ _ ?_ (fun hH10 => ?_)
             · (try dsimp only); exact ArgW.held HAR.out HBW.out
             clear hK K
             refine wpAnyN_take (i := 5) (v := ?v2305) rfl (by kernel_rfl) (by kernel_rfl) (by kernel_rfl) (by kernel_rfl) (fun _ _ _ h => h) (Or.inl ⟨by rfl, ?h2305⟩) hH10 ?r2305
             case h2305 => (intro w_ hSw; (try dsimp only at hSw); go_simp; (try with_reducible rfl))
             refine wpAnyN_take (i := 6) (v := ?v2406) rfl (by kernel_rfl) (by kernel_rfl) (by kernel_rfl) (by kernel_rfl) (fun _ _ _ h => h) (Or.inl ⟨by rfl, ?h2406⟩) hH10 ?r2406
             case h2406 => (intro w_ hSw; (try dsimp only at hSw); go_simp; (try with_reducible rfl))
             refine wpAnyN_take (i := 7) (v := ?v2507) rfl (by kernel_rfl) (by kernel_rfl) (by kernel_rfl) (by kernel_rfl) (fun _ _ _ h => h) (Or.inl ⟨by rfl, ?h2507⟩) hH10 ?r2507
             case h2507 => (intro w_ hSw; (try dsimp only at hSw); go_simp; (try with_reducible rfl))
             have hz0 := blk_cell HG.out 0
             have hzf := blk_frozen HG.out
             refine wpAnyN_one (i := 9) (by kernel_rfl) rfl (fun K hK => ?_)
             go_simp
             refine hK.out _ _ ?_ (fun hH11 => ?_)
             · (try dsimp only); exact ArgW.held HAR.out (below_set HBW.out HGE.out.1)
             clear hK K
             refine wpAnyN_last (by kernel_rfl) (by kernel_rfl) rfl (fun K hK => ?_)
             go_simp
             refine hK.out _ _ ?_
             clear hK K
             refine ⟨⟨gz, As, cs, .agg #[.slice Ap ta.length cp], .agg #[.int .i64 n0, .string n1, .slice Aq n2.length cq, .string n3, .int .i64 n4, .slice Ar n5.length cr], ()⟩, by simp only [putAll, List.foldl_cons, List.foldl_nil, Act.put, List.setIfInBounds_toArray, List.set_cons_zero, List.set_cons_succ], blk_set HG.out 0 _, HGE.out.1, below_set HBW.out HGE.out.1, Kd.S_far (p := ⟨gz, 0, none⟩) HR.out (fun _ h_ => h_) _⟩
         · skip
           go_simp
           refine hK.out _ _ ?_ (fun hH12 => ?_)
           · (try dsimp only); exact ArgW.held HAR.out (below_step HBW.out (below_alloc (Below.refl _ _) _))
           clear hK K
           have hX := blk_new WD (.cells #[.slice none 0 0] 29)
           have hb := below_alloc (Below.refl (WD).heap.size WD) (.cells #[.slice none 0 0] 29)
           generalize World.alloc WD (.cells #[.slice none 0 0] 29) = wz at hX hb ⊢
           obtain ⟨gz, hgz⟩ : ∃ gz, gz = (WD).heap.size := ⟨_, rfl⟩
           rw [← hgz] at hX ⊢
           have HGE := Aside0.mk (show WB.heap.size ≤ gz ∧ (WD).heap.size ≤ gz from ⟨by rw [hgz]; exact HBW.out.size, by rw [hgz]; exact Nat.le_refl _⟩)
           replace HBW := Aside0.mk (below_step HBW.out hb)
           have HG := Aside0.mk hX
           clear hgz hX hb
           refine wpAnyN_one (i := 1) (by kernel_rfl) rfl (fun K hK => ?_)
           go_simp
           go_at_call 12
           with_reducible refine (laws_toTree.calls k A0_0 c0_0 l0_0 ta _ (Kd.C_below HC.out (below_step HAR.out.low HBW.out)) HCC.out E3.out).mono ?_
           rintro e wq ⟨v, rfl, hS, hb⟩
           obtain ⟨Ap, cp, rfl⟩ := Kd.S_slice hS
           replace HBW := Aside0.mk (below_step HBW.out hb)
           replace HG := Aside0.mk (blk_below HG.out hb)
           have HP := Aside0.mk (Kd.R_reads' (Kd.S_R hS)).2
           clear hS hb
           go_wp2_with fail
           refine hK.out _ _ ?_ (fun hH13 => ?_)
           · (try dsimp only); exact ArgW.held HAR.out HBW.out
           clear hK K
           refine wpAnyN_one (i := 3) (by kernel_rfl) rfl (fun K hK => ?_)
           go_simp
           go_at_call 23
           with_reducible refine (laws_toNode.calls k b0 b1 A2 c2 l2 b3 b4 A5 c5 l5 n0 n1 n2 n3 n4 n5 _ (Kd.C_below HC2.out (below_step HAR.out.low HBW.out)) HCC2.out (Kd.C_below HC5.out (below_step HAR.out.low HBW.out)) HCC5.out E4.out).mono ?_
           rintro e wq ⟨v2, v5, rfl, h2, h5, hb⟩
           obtain ⟨Aq, cq, rfl⟩ := Kd.R_slice h2
           obtain ⟨Ar, cr, rfl⟩ := Kd.R_slice h5
           replace HBW := Aside0.mk (below_step HBW.out hb)
           replace HG := Aside0.mk (blk_below HG.out hb)
           replace HP := Aside0.mk ((⟨HP.out.1, Kd.C_below HP.out.2 hb⟩ : ta.length ≤ cp ∧ Kd.C k45 _ Ap ta.length ta))
           have HQ2 := Aside0.mk (Kd.R_reads' h2).2
           have HQ5 := Aside0.mk (Kd.R_reads' h5).2
           clear h2 h5 hb
           go_wp2_with fail
           refine hK.out _ _ ?_ (fun hH14 => ?_)
           · (try dsimp only); exact ArgW.held HAR.out HBW.out
           clear hK K
           refine wpAnyN_one (i := 4) (by kernel_rfl) rfl (fun K hK => ?_)
           go_simp
           go_at_call 24
           with_reducible refine (impl_TreeAdd.calls k Ap cp ta n0 n1 Aq cq n2 n3 n4 Ar cr n5 y0 y1 _ HP.out.2 HP.out.1 HQ2.out.2 HQ2.out.1 HQ5.out.2 HQ5.out.1 E6.out).mono ?_
           rintro e wq ⟨v, rfl, hS, hb⟩
           obtain ⟨As, cs, rfl⟩ := Kd.S_slice hS
           have HR := Aside0.mk (Kd.S_lower (Kd.S_mono (Kd.S_bound hS) (ok' := fun k_ => k_ ≠ gz) (fun k_ hk => by have := hk.2.1; have := blk_lt HG.out; omega)) HBW.out.size)
           replace HBW := Aside0.mk (below_step HBW.out hb)
           replace HG := Aside0.mk (blk_below HG.out hb)
           replace HP := Aside0.mk ((⟨HP.out.1, Kd.C_below HP.out.2 hb⟩ : ta.length ≤ cp ∧ Kd.C k45 _ Ap ta.length ta))
           replace HQ2 := Aside0.mk ((⟨HQ2.out.1, Kd.C_below HQ2.out.2 hb⟩ : n2.length ≤ cq ∧ Kd.C k98 _ Aq n2.length n2))
           replace HQ5 := Aside0.mk ((⟨HQ5.out.1, Kd.C_below HQ5.out.2 hb⟩ : n5.length ≤ cr ∧ Kd.C (Kd.int .i64) _ Ar n5.length n5))
           clear hS hb
           go_wp2_with fail
           refine hK.out _ _ ?_ (fun hH15 => ?_)
           · (try dsimp only); exact ArgW.held HAR.out HBW.out
           clear hK K
           refine wpAnyN_take (i := 5) (v := ?v2605) rfl (by kernel_rfl) (by kernel_rfl) (by kernel_rfl) (by kernel_rfl) (fun _ _ _ h => h) (Or.inl ⟨by rfl, ?h2605⟩) hH15 ?r2605
           case h2605 => (intro w_ hSw; (try dsimp only at hSw); go_simp; (try with_reducible rfl))
           refine wpAnyN_take (i := 6) (v := ?v2706) rfl (by kernel_rfl) (by kernel_rfl) (by kernel_rfl) (by kernel_rfl) (fun _ _ _ h => h) (Or.inl ⟨by rfl, ?h2706⟩) hH15 ?r2706
           case h2706 => (intro w_ hSw; (try dsimp only at hSw); go_simp; (try with_reducible rfl))
           refine wpAnyN_take (i := 7) (v := ?v2807) rfl (by kernel_rfl) (by kernel_rfl) (by kernel_rfl) (by kernel_rfl) (fun _ _ _ h => h) (Or.inl ⟨by rfl, ?h2807⟩) hH15 ?r2807
           case h2807 => (intro w_ hSw; (try dsimp only at hSw); go_simp; (try with_reducible rfl))
           have hz0 := blk_cell HG.out 0
           have hzf := blk_frozen HG.out
           refine wpAnyN_one (i := 9) (by kernel_rfl) rfl (fun K hK => ?_)
           go_simp
           refine hK.out _ _ ?_ (fun hH16 => ?_)
           · (try dsimp only); exact ArgW.held HAR.out (below_set HBW.out HGE.out.1)
           clear hK K
           refine wpAnyN_last (by kernel_rfl) (by kernel_rfl) rfl (fun K hK => ?_)
           go_simp
           refine hK.out _ _ ?_
           clear hK K
           refine ⟨⟨gz, As, cs, .agg #[.slice Ap ta.length cp], .agg #[.int .i64 n0, .string n1, .slice Aq n2.length cq, .string n3, .int .i64 n4, .slice Ar n5.length cr], ()⟩, by simp only [putAll, List.foldl_cons, List.foldl_nil, Act.put, List.setIfInBounds_toArray, List.set_cons_zero, List.set_cons_succ], blk_set HG.out 0 _, HGE.out.1, below_set HBW.out HGE.out.1, Kd.S_far (p := ⟨gz, 0, none⟩) HR.out (fun _ h_ => h_) _⟩
       rintro ⟨gh, Ah, ch, u1_, u2_, u3_⟩ wL ⟨hX, hge, hl, hN⟩
       simp only [putAll, List.foldl_cons, List.foldl_nil, Act.put, List.setIfInBounds_toArray, List.set_cons_zero, List.set_cons_succ]
       dsimp only at hX hge hl hN
       have HGL := Aside0.mk (HGK.out.below hl)
       have HRH := Aside0.mk (Kd.S_reads' hN).2
       have hch := blk_cell hX 0
       have hcw := pw_cell_below HGL.out.low (blk_cell HB6.out 0)
       clear hX hge hl hN HBW HAR HGK
       go_upto_region 34 with (first | (go_at_call 14; (with_reducible refine (laws_eqTree.calls k Ah ch y0 A4 c4 x0 true wL HRH.out.2 HRH.out.1 (Kd.C_below HR4.out.2 HGL.out.low) HR4.out.1 E7.out).mono ?_); rintro e wM ⟨rfl, hb⟩; have HGM := Aside0.mk (HGL.out.below hb); clear hb))
       clear hch hcw
       have hcg := blk_cell HGM.out.b 0
       have HVD := Aside0.mk HGM.out.row
       go_wp2_with (first | (go_at_call 20; (try rw [HVD.out.2.2]); (with_reducible refine (laws_heldTree.calls k A10 c10 z3 1 q wM HVD.out.2.1 (HVD.out.2.2 ▸ HVD.out.1) E13.out).mono ?_); rintro e wO ⟨rfl, hb⟩; have HGO := Aside0.mk (HGM.out.below hb); clear hb))
       go_ret
       exact ⟨rfl, below_step HAX.out.low HGO.out.low⟩
     · rw [if_neg c3] at H; cases H
end Go.Proofs.Ytgneacekgbjkkaa.X
