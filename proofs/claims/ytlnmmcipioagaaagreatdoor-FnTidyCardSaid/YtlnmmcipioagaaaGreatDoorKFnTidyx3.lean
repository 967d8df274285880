/- What the Go functions that FnTidy reaches compute, and that their walks come to just that (written by a program of this project over the kit's print). Conditions: as each states. -/
import Derived.Lib.ReplaceLaws
import Derived.Shelf.Strings.Builder1
import Derived.Shelf.Strings.BuilderF
import Derived.Shelf.Strings.BuilderK
import Derived.Test.YtlnmmcipioagaaaGreatDoorProg
import Derived.Shelf.Strings.MapGrows
import Derived.Lib.BufferKept
import Derived.Deep.RegionHeld3
import Derived.Deep.QuietTactic
import Derived.BigQuiet
import Derived.Test.YtlnmmcipioagaaaGreatDoorKFnTidyx2
set_option maxHeartbeats 64000000
set_option maxRecDepth 100000
namespace Go.Proofs.YtlnmmcipioagaaaGreatDoor.X
open Go.RowKit Go.Proofs.YtlnmmcipioagaaaGreatDoorW.PrintWords Go.Proofs.YtlnmmcipioagaaaGreatDoorW.PrintLast Go.Proofs.YtlnmmcipioagaaaGreatDoorW.PrintMore
attribute [local go_sem] max2_int min2_int max_two min_two max_three min_three max_four min_four
set_option linter.unusedVariables false
set_option linter.unusedSimpArgs false
def IsS29(w0 W:World)(g:Nat)(f0:List (S41)):Prop:= ∃A0 c0,W.heap[g]? =some (.cells #[.slice A0 f0.length c0] 29 (0,0))∧w0.heap.size≤g∧Kd.C k41 w0 A0 f0.length f0
theorem IsS29.grown{w0 W:World}{g:Nat}{f0:List (S41)}{W1:World}{row:Option Nat}(h:IsS29 w0 W g f0)(hw:W.grownBy W1 row)(hne:some g≠row):IsS29 w0 W1 g f0:=by
 obtain⟨A0,c0,hb,hg,hr0⟩:=h;exact⟨A0,c0,blk_grown hb hw hne,hg,hr0⟩
theorem IsS29.own_neN{w0 W:World}{g:Nat}{f0:List (S41)}{α:Type}{d:Kd α}{e:Nat}{base:Nat}{ok:Nat→Prop}{v:Value}{xs:List α}(h:IsS29 w0 W g f0)(ho:Kd.N d e W base ok v xs)(ht:e≠29):some g≠v.ownBlock:=by
 obtain⟨A0,c0,hb,hg,hr0⟩:=h;exact Kd.N_ne ho hb ht
theorem IsS29.fresh{w0 W:World}{g:Nat}{f0:List (S41)}(h:IsS29 w0 W g f0): ∀k,W.heap.size≤k→k≠g:=by
 obtain⟨A0,c0,hb,hg,hr0⟩:=h;exact Kd.freshB hb
theorem IsS29.kept{w0 W:World}{g:Nat}{f0:List (S41)}{W1:World}{S:Nat→Prop}(h:IsS29 w0 W g f0)(hk:Kept W W1 S)(hne: ¬S g):IsS29 w0 W1 g f0:=by
 obtain⟨A0,c0,hb,hg,hr0⟩:=h;exact⟨A0,c0,blk_kept hb hk hne,hg,hr0⟩
theorem IsS29.below{w0 W:World}{g:Nat}{f0:List (S41)}{W1:World}(h:IsS29 w0 W g f0)(hw:Below W.heap.size W W1):IsS29 w0 W1 g f0:=h.grown (grown_of_below hw none) (by simp)
theorem IsS29.alloc{w0 W:World}{g:Nat}{f0:List (S41)}(h:IsS29 w0 W g f0)(o:Obj):IsS29 w0 (W.alloc o) g f0:=h.below (below_alloc (Below.refl _ _) o)
theorem IsS29.drewN{w0 W:World}{g:Nat}{f0:List (S41)}(h:IsS29 w0 W g f0)(m:Nat):IsS29 w0 (W.drewN m) g f0:=h
theorem IsS29.drew{w0 W:World}{g:Nat}{f0:List (S41)}(h:IsS29 w0 W g f0):IsS29 w0 W.drew g f0:=h
theorem IsS29.at_{w0 W:World}{g:Nat}{f0:List (S41)}{w':World}{m:Nat}(hq:W.drewN m=w')(h:IsS29 w0 W g f0):IsS29 w0 w' g f0:=by subst hq;exact IsS29.drewN h m
theorem IsS29.apart{w0 W:World}{g:Nat}{f0:List (S41)}{α:Type}{d:Kd α}{e:Nat}{base:Nat}{ok:Nat→Prop}{v:Value}{xs:List α}(h:IsS29 w0 W g f0)(ho:d.R e W base ok v xs)(ht: ∀q,q∈e::d.E→q≠29):d.R e W base (fun k=>ok k∧k≠g) v xs:=by
 obtain⟨A0,c0,hb,hg,hr0⟩:=h;exact Kd.R_types ho hb ht
theorem IsS29.own_ne{w0 W:World}{g:Nat}{f0:List (S41)}{α:Type}{d:Kd α}{e:Nat}{base:Nat}{ok:Nat→Prop}{v:Value}{xs:List α}(h:IsS29 w0 W g f0)(ho:d.R e W base ok v xs)(ht:e≠29):some g≠v.ownBlock:=by
 obtain⟨A0,c0,hb,hg,hr0⟩:=h;exact Kd.R_ne ho hb ht
theorem IsS29.apartQ{w0 W:World}{g:Nat}{f0:List (S41)}{α:Type}{d:Kd α}{e:Nat}{base:Nat}{ok:Nat→Prop}{v:Value}{xs:List α}(h:IsS29 w0 W g f0)(ho:d.Q e W base ok v xs)(ht: ∀q,q∈e::d.E→q≠29):d.Q e W base (fun k=>ok k∧k≠g) v xs:=by
 obtain⟨A0,c0,hb,hg,hr0⟩:=h;exact Kd.Q_types ho hb ht
theorem IsS29.own_neQ{w0 W:World}{g:Nat}{f0:List (S41)}{α:Type}{d:Kd α}{e:Nat}{base:Nat}{ok:Nat→Prop}{v:Value}{xs:List α}(h:IsS29 w0 W g f0)(ho:d.Q e W base ok v xs)(ht:e≠29):some g≠v.ownBlock:=by
 obtain⟨A0,c0,hb,hg,hr0⟩:=h;exact Kd.Q_ne ho hb ht
theorem IsS29.apartS{w0 W:World}{g:Nat}{f0:List (S41)}{α:Type}{d:Kd α}{e:Nat}{base:Nat}{ok:Nat→Prop}{v:Value}{xs:List α}(h:IsS29 w0 W g f0)(ho:d.S e W base ok v xs)(ht: ∀q,q∈e::d.E→q≠29):d.S e W base (fun k=>ok k∧k≠g) v xs:=by
 obtain⟨A0,c0,hb,hg,hr0⟩:=h;exact Kd.S_types ho hb ht
theorem IsS29.own_neS{w0 W:World}{g:Nat}{f0:List (S41)}{α:Type}{d:Kd α}{e:Nat}{base:Nat}{ok:Nat→Prop}{v:Value}{xs:List α}(h:IsS29 w0 W g f0)(ho:d.S e W base ok v xs)(ht:e≠29):some g≠v.ownBlock:=by
 obtain⟨A0,c0,hb,hg,hr0⟩:=h;exact Kd.S_ne ho hb ht
theorem IsS29.lt{w0 W:World}{g:Nat}{f0:List (S41)}(h:IsS29 w0 W g f0):g<W.heap.size:=by
 obtain⟨A0,c0,hb,hg,hr0⟩:=h;exact blk_lt hb
theorem IsS29.ge{w0 W:World}{g:Nat}{f0:List (S41)}(h:IsS29 w0 W g f0):w0.heap.size≤g:=by
 obtain⟨A0,c0,hb,hg,hr0⟩:=h;exact hg
theorem IsS29.ne_blk{w0 W:World}{g:Nat}{f0:List (S41)}{a:Nat}{cs:Array Value}{t:TypeId}{fr:Nat×Nat}(h:IsS29 w0 W g f0)(hb2:W.heap[a]? =some (.cells cs t fr))(ht:t≠29):g≠a:=by
 obtain⟨A0,c0,hb,hg,hr0⟩:=h;rintro rfl;rw[hb]at hb2;injection hb2 with hb2
 injection hb2 with _ ht2
 exact ht ht2.symm
theorem IsS29.far{w0 W:World}{g:Nat}{f0:List (S41)}{p:Addr}(h:IsS29 w0 W g f0)(hne:g≠p.block)(u:Value):IsS29 w0 (W.setCell p u) g f0:=by
 obtain⟨A0,c0,hb,hg,hr0⟩:=h;exact⟨A0,c0,blk_far hb hne u,hg,hr0⟩
theorem cellS29_0{W:World}{g:Nat}{A0:Option Addr}{c0:Nat}{f0:List (S41)}(h:W.heap[g]? =some (.cells #[.slice A0 f0.length c0] 29 (0,0))):W.cell? ⟨g,0,none⟩=some (.slice A0 f0.length c0):=(blk_cell h 0).trans rfl
theorem IsS29.new(w0 W:World)(A0:Option Addr)(c0:Nat)(f0:List (S41))(hB:Below w0.heap.size w0 W)(hr0:Kd.C k41 w0 A0 f0.length f0):IsS29 w0 (W.alloc (.cells #[.slice A0 f0.length c0] 29)) W.heap.size f0:=⟨A0,c0,by simpa using heap_alloc_new W _,hB.size,hr0⟩
def impl_Tree_isNode.f(s0_0:List (S41))(a1:Int):Option (Bool):=(impl_inRange.f a1 0 (wrap64 ((s0_0.length:Int)- 1))).bind fun t101=>(some t101)
theorem impl_Tree_isNode.calls(g:Nat)(s0_0:List (S41))(a1:Int)(r:Bool)(w0 w:World)(hI:IsS29 w0 w g s0_0)(hB:Below w0.heap.size w0 w)(h:impl_Tree_isNode.f s0_0 a1=some r):
 Calls Tryz.prog 33 #[.pointer (some ⟨g,0,none⟩), .int .i64 a1] w fun e w'=>e= .returned (.bool r)∧IsS29 w0 w' g s0_0∧Below w0.heap.size w0 w'∧KeepBut w w' g none:=by
 have HI0:=Ak hI;have HK:=Ak (KeepBut.refl w g none);have HL:=Ak hB.size;clear hI;have HW0:=Ak hB.size;have HB:=Ak hB;clear hB;have H:((impl_inRange.f a1 0 (wrap64 ((s0_0.length:Int)- 1))).bind fun t101=>(some t101))=some r:=h;clear h;replace H:=Ob H;obtain⟨t101,A30,H⟩:=H;replace H:(some t101)=some r:=H;have A3:=Ak A30;clear A30;obtain rfl:=Oi H;obtain⟨ASz4_0,cSz4_0,HGz4,hgz4,HSz4_0⟩:=HI0.out;have hcz4_0:=cellS29_0 HGz4;clear HGz4 hgz4;go_enter Tryz.func33,Tryz.ntmps33;go_wp2_with (first|(go_at_call 30;(with_reducible refine(impl_inRange.calls a1 0 (wrap64 ((s0_0.length:Int)- 1)) t101 _ A3.out).mono ?_);rintro e w' ⟨rfl,⟨nd,rfl⟩⟩));go_ret;exact⟨by first|rfl|(simp [*]<;>rfl),HI0.out,by repeat(first|exact HB.out|apply below_alloc|apply pw_below_drewN|apply below_drew1|refine below_set ?_ (IsS29.ge HI0.out)),HK.out⟩
def impl_Tree_isAbove.l0:Nat→Int→Int→Int→Int→List (S41)→Option (Bool)
 |0,_,_,_,_,_=>none
 |k+1,x1,x2,x11,x12,x1000=>if x12<x11 then(if x2=x1 then(some true)else((impl_Tree_isNode.f x1000 x2).bind fun t102=>(if t102=true then(if 0≤x2 then(if x2<(x1000.length:Int)then(impl_Tree_isAbove.l0 k x1 ((rd_T41 x1000 x2).f4) x11 (wrap64 (x12+1)) x1000)else(none))else(none))else(some false))))else((impl_Tree_isNode.f x1000 x2).bind fun t101=>(some t101))
def impl_Tree_isAbove.f(k:Nat)(s0_0:List (S41))(a1:Int)(a2:Int):Option (Bool):=impl_Tree_isAbove.l0 k a1 a2 (s0_0.length:Int) 0 s0_0
theorem impl_Tree_isAbove.mono_l: ∀k,(∀y0 y1 y2 y3 y4,LeO (impl_Tree_isAbove.l0 k y0 y1 y2 y3 y4) (impl_Tree_isAbove.l0 (k+1) y0 y1 y2 y3 y4))
 |0=>fun _ _ _ _ _ r h=>by simp [impl_Tree_isAbove.l0]at h
 |k+1=>by
  have ih0:=impl_Tree_isAbove.mono_l k
  ·intro y0 y1 y2 y3 y4;unfold impl_Tree_isAbove.l0;repeat' (with_reducible first|exact ih0 _ _ _ _ _|exact LeO.refl _|exact LeO.none _|refine LeO.ite ?_ ?_|refine LeO.bind ?_ (fun _=> ?_))
theorem impl_Tree_isAbove.mono: ∀a0 a1 a2 k,LeO (impl_Tree_isAbove.f k a0 a1 a2) (impl_Tree_isAbove.f (k+1) a0 a1 a2):=by
 intro a0 a1 a2 k;have ih0:=impl_Tree_isAbove.mono_l k;unfold impl_Tree_isAbove.f;repeat' (with_reducible first|exact ih0 _ _ _ _ _|exact LeO.refl _|exact LeO.none _|refine LeO.ite ?_ ?_|refine LeO.bind ?_ (fun _=> ?_))
theorem impl_Tree_isAbove.calls(k:Nat)(g:Nat)(s0_0:List (S41))(a1:Int)(a2:Int)(r:Bool)(w0 w:World)(hI:IsS29 w0 w g s0_0)(hB:Below w0.heap.size w0 w)(h:impl_Tree_isAbove.f k s0_0 a1 a2=some r):
 Calls Tryz.prog 58 #[.pointer (some ⟨g,0,none⟩), .int .i64 a1, .int .i64 a2] w fun e w'=>e= .returned (.bool r)∧IsS29 w0 w' g s0_0∧Below w0.heap.size w0 w'∧KeepBut w w' g none:=by
 have HI0:=Ak hI;have HK:=Ak (KeepBut.refl w g none);have HL:=Ak hB.size;clear hI;have HW0:=Ak hB.size;have HB:=Ak hB;clear hB;have H:(impl_Tree_isAbove.l0 k a1 a2 (s0_0.length:Int) 0 s0_0)=some r:=h;clear h;have H':=Ak H;clear H;obtain⟨ASz4_0,cSz4_0,HGz4,hgz4,HSz4_0⟩:=HI0.out;have hcz4_0:=cellS29_0 HGz4;clear HGz4 hgz4;go_enter Tryz.func58,Tryz.ntmps58;go_wp2;go_loopg [2,12] k (fun kq v2 v12 w'=> ∃(x2_1:Int) (x12_1:Int),v2= .int .i64 x2_1∧v12= .int .i64 x12_1∧Aside0 (impl_Tree_isAbove.l0 kq a1 x2_1 (s0_0.length:Int) x12_1 s0_0=some r)∧Aside0 (kq≤k)∧Aside0 (IsS29 w0 w' g s0_0)∧Aside0 (KeepBut w w' g none)∧Aside0 (Below w0.heap.size w0 w'));case atStart=>exact⟨(a2),(0),rfl,rfl,H',⟨Nat.le_refl _⟩,⟨HI0.out⟩,⟨HK.out⟩,⟨by repeat(first|exact HB.out|apply below_alloc|apply pw_below_drewN|apply below_drew1|refine below_set ?_ (IsS29.ge HI0.out))⟩⟩
 case round=>
  clear H';try clear p2
  try clear hcz4_0
  obtain⟨x2_1,x12_1,rfl,rfl,HA,HK1,HI0,HK,HB⟩:=hrel;cases gk with
  |zero=>exact absurd HA.out (by simp [impl_Tree_isAbove.l0])
  |succ k1=>
   have H:=HA.out;clear HA;simp only[impl_Tree_isAbove.l0]at H;by_cases c5:x12_1<(s0_0.length:Int)
   ·rw[if_pos c5]at H;have c5b0:=decide_eq_true c5;clear c5;by_cases c6:x2_1=a1
    ·rw[if_pos c6]at H;have c6b0:=beq_iff_eq.mpr c6;have c6b1:=bne_eq_false_iff_eq.mpr c6;clear c6;obtain rfl:=Oi H;go_wp2;go_ret;exact⟨rfl,HI0.out,by repeat(first|exact HB.out|apply below_alloc|apply pw_below_drewN|apply below_drew1|refine below_set ?_ (IsS29.ge HI0.out)),HK.out⟩
    ·rw[if_neg c6]at H;have c6b0:=beq_eq_false_iff_ne.mpr c6;have c6b1:=bne_iff_ne.mpr c6;replace H:=Ob H;obtain⟨t102,A70,H⟩:=H;replace H:(if t102=true then(if 0≤x2_1 then(if x2_1<(s0_0.length:Int)then(impl_Tree_isAbove.l0 k1 a1 ((rd_T41 s0_0 x2_1).f4) (s0_0.length:Int) (wrap64 (x12_1+1)) s0_0)else(none))else(none))else(some false))=some r:=H;have A7:=Ak A70;clear A70;by_cases c8:t102=true
     ·subst c8;rw[if_pos rfl]at H;by_cases c9:0≤x2_1
      ·rw[if_pos c9]at H;have c9b0:=decide_eq_true c9;clear c9;by_cases c10:x2_1<(s0_0.length:Int)
       ·rw[if_pos c10]at H;have c10b0:=decide_eq_true c10;clear c10;have H':=Ak H;clear H;go_wp2_with (first|(go_at_call 33;(with_reducible refine(impl_Tree_isNode.calls g s0_0 x2_1 true w0 _ ?side1 ?side2 A7.out).mono ?_);(case side1=>repeat(first|(with_reducible first|exact HI0.out|apply IsS29.alloc|apply IsS29.drewN|apply IsS29.drew)|exact HI0.out));(case side2=>repeat(first|(with_reducible first|exact HB.out|apply below_alloc|apply pw_below_drewN|apply below_drew1|refine below_set ?_ (IsS29.ge HI0.out))|exact HB.out));rintro e w11 ⟨rfl,hi,hb,hk⟩;replace HK:=Ak (KeepBut.trans (HK.out) hk (.inl rfl));replace HI0:=Ak (hi);replace HB:=Ak (hb);(try clear hb);obtain⟨ASz12_0,cSz12_0,HGz12,hgz12,HSz12_0⟩:=HI0.out;have hcz12_0:=cellS29_0 HGz12;clear HGz12 hgz12;have p103:0≤(x2_1:Int):=of_decide_eq_true (by assumption);have q103:x2_1<(s0_0.length:Int):=of_decide_eq_true (by assumption);obtain⟨ad103,A103_2,c103_2,A103_5,c103_5,e103,hx103_0,hx103_1,hx103_2,hx103_3,hx103_4,hx103_5,hl103_2,hi103_2,hl103_5,hi103_5⟩:=at_T41 HSz12_0 x2_1 p103 q103;cases e103;replace hx103_0:=pw_cell_below HB.out hx103_0;replace hx103_1:=pw_cell_below HB.out hx103_1;replace hx103_2:=pw_cell_below HB.out hx103_2;replace hx103_3:=pw_cell_below HB.out hx103_3;replace hx103_4:=pw_cell_below HB.out hx103_4;replace hx103_5:=pw_cell_below HB.out hx103_5;have HR103_2:=Ak hi103_2;have HC103_2:=Ak hl103_2;clear hi103_2 hl103_2;have HR103_5:=Ak hi103_5;have HC103_5:=Ak hl103_5;clear hi103_5 hl103_5;replace p103:=eq_true p103;replace q103:=eq_true q103));go_roundg k1;case measure=>have:=HK1.out;omega
        case rel=>exact⟨((rd_T41 s0_0 x2_1).f4),(wrap64 (x12_1+1)),rfl,rfl,H',⟨by have:=HK1.out;omega⟩,⟨HI0.out⟩,⟨HK.out⟩,⟨by repeat(first|exact HB.out|apply below_alloc|apply pw_below_drewN|apply below_drew1|refine below_set ?_ (IsS29.ge HI0.out))⟩⟩
       ·rw[if_neg c10]at H;exact absurd H (by simp)
      ·rw[if_neg c9]at H;exact absurd H (by simp)
     ·replace c8:=Bool.eq_false_iff.mpr c8;subst c8;rw[if_neg (show ¬(false=true)by decide)]at H;obtain rfl:=Oi H;go_wp2_with (first|(go_at_call 33;(with_reducible refine(impl_Tree_isNode.calls g s0_0 x2_1 false w0 _ ?side1 ?side2 A7.out).mono ?_);(case side1=>repeat(first|(with_reducible first|exact HI0.out|apply IsS29.alloc|apply IsS29.drewN|apply IsS29.drew)|exact HI0.out));(case side2=>repeat(first|(with_reducible first|exact HB.out|apply below_alloc|apply pw_below_drewN|apply below_drew1|refine below_set ?_ (IsS29.ge HI0.out))|exact HB.out));rintro e w13 ⟨rfl,hi,hb,hk⟩;replace HK:=Ak (KeepBut.trans (HK.out) hk (.inl rfl));replace HI0:=Ak (hi);replace HB:=Ak (hb);(try clear hb)));go_ret;exact⟨rfl,HI0.out,by repeat(first|exact HB.out|apply below_alloc|apply pw_below_drewN|apply below_drew1|refine below_set ?_ (IsS29.ge HI0.out)),HK.out⟩
   ·rw[if_neg c5]at H;have c5b0:=decide_eq_false c5;clear c5;replace H:=Ob H;obtain⟨t101,A140,H⟩:=H;replace H:(some t101)=some r:=H;have A14:=Ak A140;clear A140;obtain rfl:=Oi H;go_wp2_with (first|(go_at_call 33;(with_reducible refine(impl_Tree_isNode.calls g s0_0 x2_1 t101 w0 _ ?side1 ?side2 A14.out).mono ?_);(case side1=>repeat(first|(with_reducible first|exact HI0.out|apply IsS29.alloc|apply IsS29.drewN|apply IsS29.drew)|exact HI0.out));(case side2=>repeat(first|(with_reducible first|exact HB.out|apply below_alloc|apply pw_below_drewN|apply below_drew1|refine below_set ?_ (IsS29.ge HI0.out))|exact HB.out));rintro e w15 ⟨rfl,hi,hb,hk⟩;replace HK:=Ak (KeepBut.trans (HK.out) hk (.inl rfl));replace HI0:=Ak (hi);replace HB:=Ak (hb);(try clear hb)));go_ret;exact⟨rfl,HI0.out,by repeat(first|exact HB.out|apply below_alloc|apply pw_below_drewN|apply below_drew1|refine below_set ?_ (IsS29.ge HI0.out)),HK.out⟩
theorem impl_Tree_isNode.quiet(g:Nat)(A:Option Addr)(c:Nat)(xs:List S41)(a1:Int)(r:Bool)(w:World)(hb:w.cell? ⟨g,0,none⟩=some (.slice A xs.length c))(h:impl_Tree_isNode.f xs a1=some r):
 Calls Tryz.prog 33 #[.pointer (some ⟨g,0,none⟩), .int .i64 a1] w fun e w'=>e= .returned (.bool r)∧Drawn0 w w':=by
 unfold impl_Tree_isNode.f at h;replace h:=Ob h;obtain⟨t,A3,h⟩:=h;obtain rfl:=Oi h;clear h;replace A3:=Ak A3;go_enter Tryz.func33,Tryz.ntmps33;go_wp2_with (first|(go_at_call 30;(with_reducible refine(impl_inRange.calls a1 0 (wrap64 ((xs.length:Int)- 1)) t _ A3.out).mono ?_);rintro e w' ⟨rfl,⟨nd,rfl⟩⟩));go_ret;exact⟨rfl,by repeat(first|exact Drawn0.refl _|apply Drawn0.step)⟩
theorem impl_Tree_isAbove.quiet(k g:Nat)(A:Option Addr)(c:Nat)(xs:List S41)(a1 a2:Int)(r:Bool)(w:World)(hb:w.cell? ⟨g,0,none⟩=some (.slice A xs.length c))(hC:Kd.C k41 w A xs.length xs)(h:impl_Tree_isAbove.f k xs a1 a2=some r):
 Calls Tryz.prog 58 #[.pointer (some ⟨g,0,none⟩), .int .i64 a1, .int .i64 a2] w fun e w'=>e= .returned (.bool r)∧Drawn0 w w':=by
 have HC:=Ak hC;have HA:=Ak (show impl_Tree_isAbove.l0 k a1 a2 (xs.length:Int) 0 xs=some r from h);clear hC h;go_enter Tryz.func58,Tryz.ntmps58;go_wp2;go_loopg [2,12] k (fun kq v2 v12 w'=> ∃(x2:Int) (x12:Int),v2= .int .i64 x2∧v12= .int .i64 x12∧Aside0 (impl_Tree_isAbove.l0 kq a1 x2 (xs.length:Int) x12 xs=some r)∧Aside0 (kq≤k)∧Drawn0 w w');case atStart=>exact⟨a2,0,rfl,rfl,HA,⟨Nat.le_refl _⟩,by repeat(first|exact Drawn0.refl _|apply Drawn0.step)⟩
 case round=>
  clear HA;obtain⟨x2,x12,rfl,rfl,HA,HK,⟨m1,rfl⟩⟩:=hrel;have hbq:=fun n:Nat=>(show(w.drewN n).cell? ⟨g,0,none⟩=some (.slice A xs.length c)from hb)
  cases gk with
  |zero=>exact absurd HA.out (by simp [impl_Tree_isAbove.l0])
  |succ k1=>
   have H:=HA.out;clear HA;simp only[impl_Tree_isAbove.l0]at H;by_cases c5:x12<(xs.length:Int)
   ·rw[if_pos c5]at H;have c5b:decide (x12<(xs.length:Int))=true:=decide_eq_true c5;clear c5;by_cases c6:x2=a1
    ·rw[if_pos c6]at H;have c6b:(x2==a1)=true:=beq_iff_eq.mpr c6;clear c6;obtain rfl:=Oi H;clear H;go_wp2;go_ret;exact⟨rfl,by repeat(first|exact Drawn0.refl _|apply Drawn0.step)⟩
    ·rw[if_neg c6]at H;have c6b:(x2==a1)=false:=beq_eq_false_iff_ne.mpr c6;clear c6;replace H:=Ob H;obtain⟨t,A7,H⟩:=H;replace A7:=Ak A7;cases t with
     |true=>
      rw[if_pos rfl]at H;by_cases c9:0≤x2
      ·rw[if_pos c9]at H;by_cases c10:x2<(xs.length:Int)
       ·rw[if_pos c10]at H;have H':=Ak H;clear H;obtain⟨ad,A_2,c_2,A_5,c_5,e1,hx0,hx1,hx2,hx3,hx4,hx5,hl2,hi2,hl5,hi5⟩:=at_T41 HC.out x2 c9 c10;subst e1;clear hx0 hx1 hx2 hx3 hx5 hl2 hi2 hl5 hi5;replace c9:=eq_true c9;replace c10:=eq_true c10;go_wp2_with (first|(go_at_call 33;(with_reducible refine(impl_Tree_isNode.quiet g _ c xs x2 true _ (hbq _) A7.out).mono ?_);rintro e w' ⟨rfl,⟨nd,rfl⟩⟩));go_roundg k1;case measure=>have:=HK.out;omega
        case rel=>exact⟨_,_,rfl,rfl,H',⟨by have:=HK.out;omega⟩,by repeat(first|exact Drawn0.refl _|apply Drawn0.step)⟩
       ·rw[if_neg c10]at H;cases H
      ·rw[if_neg c9]at H;cases H
     |false=>
      rw[if_neg (by decide)]at H;obtain rfl:=Oi H;clear H;go_wp2_with (first|(go_at_call 33;(with_reducible refine(impl_Tree_isNode.quiet g _ c xs x2 false _ (hbq _) A7.out).mono ?_);rintro e w' ⟨rfl,⟨nd,rfl⟩⟩));go_ret;exact⟨rfl,by repeat(first|exact Drawn0.refl _|apply Drawn0.step)⟩
   ·rw[if_neg c5]at H;have c5b:decide (x12<(xs.length:Int))=false:=decide_eq_false c5;clear c5;replace H:=Ob H;obtain⟨t,A7,H⟩:=H;obtain rfl:=Oi H;clear H;replace A7:=Ak A7;go_wp2_with (first|(go_at_call 33;(with_reducible refine(impl_Tree_isNode.quiet g _ c xs x2 t _ (hbq _) A7.out).mono ?_);rintro e w' ⟨rfl,⟨nd,rfl⟩⟩));go_ret;exact⟨rfl,by repeat(first|exact Drawn0.refl _|apply Drawn0.step)⟩
mutual
def impl_Tree_linksOk.l0:Nat→Int→List Int→List S41→Option Bool
 |0,_,_,_=>none
 |k+1,i,s,xs=>if i<(xs.length:Int)then(if 0≤i then impl_Tree_linksOk.l1 k i 0 s xs else none)else impl_Tree_linksOk.l2 k 0 s xs
def impl_Tree_linksOk.l1:Nat→Int→Int→List Int→List S41→Option Bool
 |0,_,_,_,_=>none
 |k+1,i,j,s,xs=>if j<((rd_T41 xs i).f5.length:Int)then(if 0≤j then((impl_Tree_isNode.f xs (rd (rd_T41 xs i).f5 j)).bind fun t=>if t=true then(if 0≤rd (rd_T41 xs i).f5 j then(if rd (rd_T41 xs i).f5 j<(xs.length:Int)then(if(rd_T41 xs (rd (rd_T41 xs i).f5 j)).f4=i then(if 0<rd s (rd (rd_T41 xs i).f5 j)then some false else impl_Tree_linksOk.l1 k i (wrap64 (j+1)) (s.set (rd (rd_T41 xs i).f5 j).toNat (wrap64 (rd s (rd (rd_T41 xs i).f5 j)+1))) xs)else some false)else none)else none)else some false)else none)else impl_Tree_linksOk.l0 k (wrap64 (i+1)) s xs
def impl_Tree_linksOk.l2:Nat→Int→List Int→List S41→Option Bool
 |0,_,_,_=>none
 |k+1,i,s,xs=>if i<(xs.length:Int)then(if 0≤i then(if(((rd_T41 xs i).f4== -1)==decide (0<rd s i))=true then some false else(impl_Tree_isAbove.f k xs i (rd_T41 xs i).f4).bind fun t=>if t=true then some false else impl_Tree_linksOk.l2 k (wrap64 (i+1)) s xs)else none)else some true
end
def impl_Tree_linksOk.f(k:Nat)(xs:List S41):Option Bool:=if 0<xs.length then(if xs.length≤500 then impl_Tree_linksOk.l0 k 0 (List.replicate xs.length 0) xs else none)else none
theorem impl_Tree_linksOk.mono_l: ∀k,(∀y0 y1 y2,LeO (impl_Tree_linksOk.l0 k y0 y1 y2) (impl_Tree_linksOk.l0 (k+1) y0 y1 y2))∧(∀y0 y1 y2 y3,LeO (impl_Tree_linksOk.l1 k y0 y1 y2 y3) (impl_Tree_linksOk.l1 (k+1) y0 y1 y2 y3))∧(∀y0 y1 y2,LeO (impl_Tree_linksOk.l2 k y0 y1 y2) (impl_Tree_linksOk.l2 (k+1) y0 y1 y2))
 |0=>⟨fun _ _ _ r h=>by simp [impl_Tree_linksOk.l0]at h,fun _ _ _ _ r h=>by simp [impl_Tree_linksOk.l1]at h,fun _ _ _ r h=>by simp [impl_Tree_linksOk.l2]at h⟩
 |k+1=>by
  obtain⟨ih0,ih1,ih2⟩:=impl_Tree_linksOk.mono_l k;refine⟨?_, ?_, ?_⟩
  ·intro y0 y1 y2;rw[impl_Tree_linksOk.l0,impl_Tree_linksOk.l0];exact LeO.ite (LeO.ite (ih1 _ _ _ _) (LeO.refl _)) (ih2 _ _ _)
  ·intro y0 y1 y2 y3;rw[impl_Tree_linksOk.l1,impl_Tree_linksOk.l1];exact LeO.ite (LeO.ite (LeO.bind (LeO.refl _) (fun _=>LeO.ite (LeO.ite (LeO.ite (LeO.ite (LeO.ite (LeO.refl _) (ih1 _ _ _ _)) (LeO.refl _)) (LeO.refl _)) (LeO.refl _)) (LeO.refl _))) (LeO.refl _)) (ih0 _ _ _)
  ·intro y0 y1 y2;rw[impl_Tree_linksOk.l2,impl_Tree_linksOk.l2];exact LeO.ite (LeO.ite (LeO.ite (LeO.refl _) (LeO.bind (impl_Tree_isAbove.mono _ _ _ _) (fun _=>LeO.ite (LeO.refl _) (ih2 _ _ _)))) (LeO.refl _)) (LeO.refl _)
theorem impl_Tree_linksOk.mono: ∀a0 k,LeO (impl_Tree_linksOk.f k a0) (impl_Tree_linksOk.f (k+1) a0):=fun a0 k=>LeO.ite (LeO.ite ((impl_Tree_linksOk.mono_l k).1 _ _ _) (LeO.refl _)) (LeO.refl _)
structure LinksW(w W:World)(g gs n cap:Nat)(A:Option Addr)(c m:Nat)(s:List Int):Prop where
 cell:W.cell? ⟨g,0,none⟩=some (.slice A m c)
 row:Kd.R (Kd.int .i64) 3 W w.heap.size (fun k=>k=gs) (.slice (some ⟨gs,0,none⟩) n cap) s
 low:Below w.heap.size w W
section
variable {w W W2:World} {g gs n cap:Nat} {A:Option Addr} {c m:Nat} {s:List Int}
theorem LinksW.below(h:LinksW w W g gs n cap A c m s)(hb:Below W.heap.size W W2):LinksW w W2 g gs n cap A c m s:=⟨pw_cell_below hb h.cell,Kd.R_below h.row hb,below_step h.low hb⟩
theorem LinksW.drewN(h:LinksW w W g gs n cap A c m s)(k:Nat):LinksW w (W.drewN k) g gs n cap A c m s:=⟨h.cell,Kd.R_drewN h.row k,pw_below_drewN h.low k⟩
theorem LinksW.put(h:LinksW w W g gs n cap A c m s)(hg:g<w.heap.size)(i x:Int):LinksW w (W.setCell ⟨gs,i.toNat,none⟩ (.int .i64 x)) g gs n cap A c m (s.set i.toNat x):=by
 have hgs:w.heap.size≤gs:=Kd.R_base h.row gs rfl;exact⟨(cell_far (p:=⟨gs,i.toNat,none⟩) (show g≠gs by omega) _).trans h.cell,Kd.R_putn h.row i x,below_set h.low hgs⟩
theorem LinksW.far(h:LinksW w W g gs n cap A c m s)(hg:g<w.heap.size){gb:Nat}(hb:w.heap.size≤gb)(hne:gb≠gs)(j:Nat)(u:Value):LinksW w (W.setCell ⟨gb,j,none⟩ u) g gs n cap A c m s:=
 ⟨(cell_far (p:=⟨gb,j,none⟩) (show g≠gb by omega) _).trans h.cell,Kd.R_far (p:=⟨gb,j,none⟩) h.row (fun k hk=>by show k≠gb;omega) u,below_set h.low hb⟩
theorem LinksW.fill(h:LinksW w W g gs n cap A c m s)(hg:g<w.heap.size){gb:Nat}(hb:w.heap.size≤gb)(hne:gb≠gs)(x:S41)(v2 v5:Value):LinksW w (fillN W gb x v2 v5) g gs n cap A c m s:=
 (((((h.far hg hb hne 0 _).far hg hb hne 1 _).far hg hb hne 2 _).far hg hb hne 3 _).far hg hb hne 4 _).far hg hb hne 5 _
end
theorem impl_Tree_linksOk.calls(k:Nat)(g:Nat)(xs:List S41)(r:Bool)(w0 w:World)(hI:IsS29 w0 w g xs)(hB:Below w0.heap.size w0 w)(h:impl_Tree_linksOk.f k xs=some r):
 Calls Tryz.prog 32 #[.pointer (some ⟨g,0,none⟩)] w fun e w'=>e= .returned (.bool r)∧IsS29 w0 w' g xs∧Below w0.heap.size w0 w'∧KeepBut w w' g none:=by
 have HI:=Ak hI;have HB0:=Ak hB
 suffices hx:Calls Tryz.prog 32 #[.pointer (some ⟨g,0,none⟩)] w fun e w'=>e= .returned (.bool r)∧Below w.heap.size w w' by
  refine hx.mono ?_;rintro e w' ⟨rfl,hb⟩;exact⟨rfl,IsS29.below hI hb,below_step hB hb,KeepBut.of_below hb g none⟩
 obtain⟨A,c,hblk,hg,hC0⟩:=hI;have hc0:=cellS29_0 hblk;have HC:=Ak (Kd.C_below hC0 hB);have HG:=Ak (blk_lt hblk);clear hB hblk hg hC0;unfold impl_Tree_linksOk.f at h;by_cases hn0:0<xs.length
 ·rw[if_pos hn0]at h;by_cases hn1:xs.length≤500
  ·rw[if_pos hn1]at h;have HA:=Ak h;have HN0:=Ak hn0;have HN1:=Ak hn1;clear h hn0 hn1;go_enter Tryz.func32,Tryz.ntmps32;go_wp2_with (first|((with_reducible refine gate_dst (N:=15) rfl ?_);refine Kd.R_make (w0:=w) (Kd.int .i64) w.heap.size 3 rfl (N:=15) rfl 39 _ _ rfl (xs.length:Int) rfl rfl Tryz.underlying39 (.int .i64 0) 8 info3 rfl (by decide) (by omega) 0 (ok:=fun _=>True) (okp:=fun _=>True) rfl (fun _ hk=>hk) trivial (by omega) (by have:=HN1.out;omega) (Below.refl _ _) (Nat.le_refl _) ?_;intro vs w1 ho hb hg_ hnew_;clear hg_ hnew_;rw[Int.toNat_natCast]at ho;obtain⟨gs,cap,ev,_,_,_⟩:=Kd.R_form ho (by have:=HN0.out;rw[List.length_replicate];exact this);rw[List.length_replicate]at ev;subst ev;have HL:=Ak (show LinksW w w1 g gs xs.length cap A c xs.length (List.replicate xs.length 0)from⟨pw_cell_below hb hc0,Kd.R_mono (Kd.R_tight rfl ho) (fun k_ hk=>by simpa [Value.ownBlock]using hk),hb⟩);have hc1:=HL.out.cell;clear ho hb));go_loopg [21] k (fun kq v21 w'=> ∃(i:Int) (s:List Int),v21= .int .i64 i∧Aside0 (impl_Tree_linksOk.l0 kq i s xs=some r)∧Aside0 (kq≤k)∧Aside0 (LinksW w w' g gs xs.length cap A c xs.length s));case atStart=>exact⟨0,_,rfl,HA,⟨Nat.le_refl _⟩,HL⟩
   case round=>
    clear HA HL hc1 hc0;obtain⟨i,s,rfl,HA,HK,HL⟩:=hrel;cases gk with
    |zero=>exact absurd HA.out (by simp [impl_Tree_linksOk.l0])
    |succ k1=>
     have H:=HA.out;clear HA;simp only[impl_Tree_linksOk.l0]at H;by_cases c1:i<(xs.length:Int)
     ·rw[if_pos c1]at H;by_cases c2:0≤i
      ·rw[if_pos c2]at H;have HA:=Ak H;clear H;have c1b:decide (i<(xs.length:Int))=true:=decide_eq_true c1;obtain⟨ad,A_2,c_2,A_5,c_5,e1,hx0,hx1,hx2,hx3,hx4,hx5,hl2,hi2,hl5,hi5⟩:=at_T41 HC.out i c2 c1;subst e1;replace hx0:=pw_cell_below HL.out.low hx0;replace hx1:=pw_cell_below HL.out.low hx1;replace hx2:=pw_cell_below HL.out.low hx2;replace hx3:=pw_cell_below HL.out.low hx3;replace hx4:=pw_cell_below HL.out.low hx4;replace hx5:=pw_cell_below HL.out.low hx5;have HI5:=Ak hi5;clear hl2 hi2 hl5 hi5;replace c2:=eq_true c2;replace c1:=eq_true c1;go_upto_region 5 with(first|((with_reducible refine gate_dst (N:=5) rfl ?_);refine box_event ?hg (N:=5) ?hd (cs:= #[.int .i64 0, .string (⟨#[]⟩:ByteArray), .slice none 0 0, .string (⟨#[]⟩:ByteArray), .int .i64 0, .slice none 0 0]) (t:=41) ?hr ?_;(case hd=>rfl);(case hg=>rfl);(case hr=>first|(go_simp;done)|(go_simp;rfl));intro gb hg w2 hbox hb;have HNE:=Ak (show gb≠gs by have:=Kd.R_lt HL.out.row gs rfl;omega);have HL2:=Ak (HL.out.below hb);have HGB:=Ak (show w.heap.size≤gb by rw[hg];exact below_size HL.out.low);have HBX:=Ak hbox;have hz0:=blk_cell hbox 0;have hz1:=blk_cell hbox 1;have hz2:=blk_cell hbox 2;have hz3:=blk_cell hbox 3;have hz4:=blk_cell hbox 4;have hz5:=blk_cell hbox 5;have hf:=blk_frozen hbox;clear hbox hb hg HL))
       have HB6:=Ak (fillN_blk (rd_T41 xs i) (.slice A_2 (rd_T41 xs i).f2.length c_2) (.slice A_5 (rd_T41 xs i).f5.length c_5) HBX.out);have HL:=Ak (HL2.out.fill HG.out HGB.out HNE.out (rd_T41 xs i) (.slice A_2 (rd_T41 xs i).f2.length c_2) (.slice A_5 (rd_T41 xs i).f5.length c_5));show Code.wp _ _ _ _ (fillN w2 gb (rd_T41 xs i) (.slice A_2 (rd_T41 xs i).f2.length c_2) (.slice A_5 (rd_T41 xs i).f5.length c_5))
       generalize fillN w2 gb (rd_T41 xs i) (.slice A_2 (rd_T41 xs i).f2.length c_2) (.slice A_5 (rd_T41 xs i).f5.length c_5)=w3 at HB6 HL⊢;clear hz0 hz1 hz2 hz3 hz4 hz5 hf HBX HL2 hx0 hx1 hx2 hx3 hx4 hx5 HNE HGB;have hz5:=blk_cell HB6.out 5;go_wp2;go_loopg [29] k1 (fun kq v29 w'=> ∃(j:Int) (s:List Int),v29= .int .i64 j∧Aside0 (impl_Tree_linksOk.l1 kq i j s xs=some r)∧Aside0 (kq≤k1)∧Aside0 (LinksW w w' g gs xs.length cap (some ad) c xs.length s));case atStart=>exact⟨0,_,rfl,HA,⟨Nat.le_refl _⟩,HL⟩
       case round=>
        clear HA HL hz5 HB6;obtain⟨j,s,rfl,HA,HK2,HL⟩:=hrel;cases gk with
        |zero=>exact absurd HA.out (by simp [impl_Tree_linksOk.l1])
        |succ k2=>
         have H:=HA.out;clear HA;simp only[impl_Tree_linksOk.l1]at H;by_cases c3:j<((rd_T41 xs i).f5.length:Int)
         ·rw[if_pos c3]at H;by_cases c4:0≤j
          ·rw[if_pos c4]at H;obtain⟨t,A1,H⟩:=Ob H;replace A1:=Ak A1;obtain⟨ak,e2,hy0⟩:=Kd.at_int HI5.out j c4 c3;subst e2;replace hy0:=pw_cell_below HL.out.low hy0;have hcg:=HL.out.cell;have c3b:decide (j<((rd_T41 xs i).f5.length:Int))=true:=decide_eq_true c3;replace c3:=eq_true c3;replace c4:=eq_true c4;obtain⟨kid,hkid⟩: ∃q:Int,q=rd (rd_T41 xs i).f5 j:=⟨_,rfl⟩
           rw[←hkid]at hy0 H A1;clear hkid;cases t with
           |false=>
            rw[if_neg (by decide)]at H;obtain rfl:=Oi H;clear H;go_wp2_with (first|(go_at_call 33;(with_reducible refine(impl_Tree_isNode.quiet g _ c xs kid false _ hcg A1.out).mono ?_);rintro e w' ⟨rfl,⟨nd,rfl⟩⟩));go_ret;exact⟨rfl,pw_below_drewN HL.out.low _⟩
           |true=>
            rw[if_pos rfl]at H;by_cases c5:0≤kid
            ·rw[if_pos c5]at H;by_cases c6:kid<(xs.length:Int)
             ·rw[if_pos c6]at H;obtain⟨ad',A_6,c_6,A_7,c_7,e3,hw0,hw1,hw2,hw3,hw4,hw5,hl6,hi6,hl7,hi7⟩:=at_T41 HC.out kid c5 c6;injection e3 with e3
              subst e3;replace hw4:=pw_cell_below HL.out.low hw4;clear hw0 hw1 hw2 hw3 hw5 hl6 hi6 hl7 hi7;have hs:wr.cell? ⟨gs,kid.toNat,none⟩=some (.int .i64 (rd s kid)):=(Kd.R_celln 0 HL.out.row kid c5 c6).1;have hsf:wr.frozen? ⟨gs,kid.toNat,none⟩=false:=(Kd.R_celln 0 HL.out.row kid c5 c6).2;replace c5:=eq_true c5;replace c6:=eq_true c6;by_cases c7:(rd_T41 xs kid).f4=i
              ·rw[if_pos c7]at H;have c7b:((rd_T41 xs kid).f4==i)=true:=beq_iff_eq.mpr c7;have c7c:((rd_T41 xs kid).f4 !=i)=false:=bne_eq_false_iff_eq.mpr c7;clear c7;by_cases c8:0<rd s kid
               ·rw[if_pos c8]at H;obtain rfl:=Oi H;clear H;have c8b:decide (0<rd s kid)=true:=decide_eq_true c8;clear c8;go_wp2_with (first|(go_at_call 33;(with_reducible refine(impl_Tree_isNode.quiet g _ c xs kid true _ hcg A1.out).mono ?_);rintro e w' ⟨rfl,⟨nd,rfl⟩⟩));go_ret;exact⟨rfl,pw_below_drewN HL.out.low _⟩
               ·rw[if_neg c8]at H;have HA:=Ak H;clear H;have c8b:decide (0<rd s kid)=false:=decide_eq_false c8;clear c8;go_wp2_with (first|(go_at_call 33;(with_reducible refine(impl_Tree_isNode.quiet g _ c xs kid true _ hcg A1.out).mono ?_);rintro e w' ⟨rfl,⟨nd,rfl⟩⟩));go_roundg k2;case measure=>have:=HK.out;have:=HK2.out;omega
                case rel=>exact⟨_,_,rfl,HA,⟨by have:=HK2.out;omega⟩,⟨LinksW.put (LinksW.drewN HL.out _) HG.out kid _⟩⟩
              ·rw[if_neg c7]at H;obtain rfl:=Oi H;clear H;have c7b:((rd_T41 xs kid).f4==i)=false:=beq_eq_false_iff_ne.mpr c7;have c7c:((rd_T41 xs kid).f4 !=i)=true:=bne_iff_ne.mpr c7;clear c7;go_wp2_with (first|(go_at_call 33;(with_reducible refine(impl_Tree_isNode.quiet g _ c xs kid true _ hcg A1.out).mono ?_);rintro e w' ⟨rfl,⟨nd,rfl⟩⟩));go_ret;exact⟨rfl,pw_below_drewN HL.out.low _⟩
             ·rw[if_neg c6]at H;cases H
            ·rw[if_neg c5]at H;cases H
          ·rw[if_neg c4]at H;cases H
         ·rw[if_neg c3]at H;have HA:=Ak H;clear H;have c3b:decide (j<((rd_T41 xs i).f5.length:Int))=false:=decide_eq_false c3;clear c3;go_wp2;go_roundg k2;case measure=>have:=HK.out;have:=HK2.out;omega
          case rel=>exact⟨_,_,rfl,HA,⟨by have:=HK.out;have:=HK2.out;omega⟩,HL⟩
      ·rw[if_neg c2]at H;cases H
     ·rw[if_neg c1]at H;have HA:=Ak H;clear H;have c1b:decide (i<(xs.length:Int))=false:=decide_eq_false c1;clear c1;have hcg:=HL.out.cell;go_wp2;go_loopg [69] k1 (fun kq v69 w'=> ∃(i:Int),v69= .int .i64 i∧Aside0 (impl_Tree_linksOk.l2 kq i s xs=some r)∧Aside0 (kq≤k1)∧Aside0 (LinksW w w' g gs xs.length cap A c xs.length s));case atStart=>exact⟨0,rfl,HA,⟨Nat.le_refl _⟩,HL⟩
      case round=>
       clear HA HL hcg c1b;obtain⟨i,rfl,HA,HK2,HL⟩:=hrel;cases gk with
       |zero=>exact absurd HA.out (by simp [impl_Tree_linksOk.l2])
       |succ k2=>
        have H:=HA.out;clear HA;simp only[impl_Tree_linksOk.l2]at H;by_cases c1:i<(xs.length:Int)
        ·rw[if_pos c1]at H;by_cases c2:0≤i
         ·rw[if_pos c2]at H;have c1b:decide (i<(xs.length:Int))=true:=decide_eq_true c1;obtain⟨ad,A_2,c_2,A_5,c_5,e1,hx0,hx1,hx2,hx3,hx4,hx5,hl2,hi2,hl5,hi5⟩:=at_T41 HC.out i c2 c1;subst e1;replace hx0:=pw_cell_below HL.out.low hx0;replace hx1:=pw_cell_below HL.out.low hx1;replace hx2:=pw_cell_below HL.out.low hx2;replace hx3:=pw_cell_below HL.out.low hx3;replace hx4:=pw_cell_below HL.out.low hx4;replace hx5:=pw_cell_below HL.out.low hx5;clear hl2 hi2 hl5 hi5;have C1:=Ak c1;have C2:=Ak c2;replace c2:=eq_true c2;replace c1:=eq_true c1;go_upto_region 16 with(first|((with_reducible refine gate_dst (N:=9) rfl ?_);refine box_event ?hg (N:=9) ?hd (cs:= #[.int .i64 0, .string (⟨#[]⟩:ByteArray), .slice none 0 0, .string (⟨#[]⟩:ByteArray), .int .i64 0, .slice none 0 0]) (t:=41) ?hr ?_;(case hd=>rfl);(case hg=>rfl);(case hr=>first|(go_simp;done)|(go_simp;rfl));intro gb hg w2 hbox hb;have HNE:=Ak (show gb≠gs by have:=Kd.R_lt HL.out.row gs rfl;omega);have HL2:=Ak (HL.out.below hb);have HGB:=Ak (show w.heap.size≤gb by rw[hg];exact below_size HL.out.low);have HBX:=Ak hbox;have hz0:=blk_cell hbox 0;have hz1:=blk_cell hbox 1;have hz2:=blk_cell hbox 2;have hz3:=blk_cell hbox 3;have hz4:=blk_cell hbox 4;have hz5:=blk_cell hbox 5;have hf:=blk_frozen hbox;clear hbox hb hg HL))
          have HB6:=Ak (fillN_blk (rd_T41 xs i) (.slice A_2 (rd_T41 xs i).f2.length c_2) (.slice A_5 (rd_T41 xs i).f5.length c_5) HBX.out);have HL:=Ak (HL2.out.fill HG.out HGB.out HNE.out (rd_T41 xs i) (.slice A_2 (rd_T41 xs i).f2.length c_2) (.slice A_5 (rd_T41 xs i).f5.length c_5));show Code.wp _ _ _ _ (fillN w2 gb (rd_T41 xs i) (.slice A_2 (rd_T41 xs i).f2.length c_2) (.slice A_5 (rd_T41 xs i).f5.length c_5))
          generalize fillN w2 gb (rd_T41 xs i) (.slice A_2 (rd_T41 xs i).f2.length c_2) (.slice A_5 (rd_T41 xs i).f5.length c_5)=w3 at HB6 HL⊢;clear hz0 hz1 hz2 hz3 hz4 hz5 hf HBX HL2 hx0 hx1 hx2 hx3 hx4 hx5 HNE HGB;have hz4:=blk_cell HB6.out 4;have hcg:=HL.out.cell;have hs:w3.cell? ⟨gs,i.toNat,none⟩=some (.int .i64 (rd s i)):=(Kd.R_celln 0 HL.out.row i C2.out C1.out).1;have hCn:=Kd.C_below HC.out HL.out.low;cases eP:((rd_T41 xs i).f4== -1)==decide (0<rd s i)with
          |true=>
           rw[if_pos eP]at H;obtain rfl:=Oi H;clear H;have eQ:decide (((rd_T41 xs i).f4== -1)=decide (0<rd s i))=true:=by simpa using eP
           go_quiet (fail);try go_wp2
           go_ret;exact⟨rfl,pw_below_drewN HL.out.low _⟩
          |false=>
           rw[if_neg (by rw[eP];decide)]at H;obtain⟨t,A1,H⟩:=Ob H;replace A1:=Ak A1;cases t with
           |true=>
            rw[if_pos rfl]at H;obtain rfl:=Oi H;clear H;have eQ:decide (((rd_T41 xs i).f4== -1)=decide (0<rd s i))=false:=by simpa using eP
            go_quiet ((go_at_call 58;(with_reducible refine(impl_Tree_isAbove.quiet k2 g _ c xs i (rd_T41 xs i).f4 true _ (cell_at rfl hcg) (Kd.C_at rfl hCn) A1.out).mono ?_);rintro e w' ⟨rfl,⟨nd,rfl⟩⟩;(first|exact⟨rfl,_,rfl⟩|exact⟨rfl,_,World.drewN_drewN _ _ _⟩|exact⟨rfl,_,Eq.trans (World.drewN_drewN _ _ _) (congrArg (World.drewN _) (Nat.add_assoc _ _ _))⟩)));try go_wp2
            go_ret;exact⟨rfl,pw_below_drewN HL.out.low _⟩
           |false=>
            rw[if_neg (by decide)]at H;have HA:=Ak H;clear H;have eQ:decide (((rd_T41 xs i).f4== -1)=decide (0<rd s i))=false:=by simpa using eP
            go_quiet ((go_at_call 58;(with_reducible refine(impl_Tree_isAbove.quiet k2 g _ c xs i (rd_T41 xs i).f4 false _ (cell_at rfl hcg) (Kd.C_at rfl hCn) A1.out).mono ?_);rintro e w' ⟨rfl,⟨nd,rfl⟩⟩;(first|exact⟨rfl,_,rfl⟩|exact⟨rfl,_,World.drewN_drewN _ _ _⟩|exact⟨rfl,_,Eq.trans (World.drewN_drewN _ _ _) (congrArg (World.drewN _) (Nat.add_assoc _ _ _))⟩)));try go_wp2
            go_roundg k2;case measure=>have:=HK2.out;omega
            case rel=>exact⟨_,rfl,HA,⟨by have:=HK2.out;omega⟩,⟨LinksW.drewN HL.out _⟩⟩
         ·rw[if_neg c2]at H;cases H
        ·rw[if_neg c1]at H;obtain rfl:=Oi H;clear H;have c1b:decide (i<(xs.length:Int))=false:=decide_eq_false c1;clear c1;go_wp2;go_ret;exact⟨rfl,HL.out.low⟩
  ·rw[if_neg hn1]at h;cases h
 ·rw[if_neg hn0]at h;cases h
def impl_TreeOk.l0:Nat→Int→List S41→Option Bool
 |0,_,_=>none
 |k+1,i,xs=>if i<(xs.length:Int)then(if 0≤i then((impl_nodeOk.f k ((rd_T41 xs i).f0) ((rd_T41 xs i).f1) ((rd_T41 xs i).f2) ((rd_T41 xs i).f3) ((rd_T41 xs i).f4) ((rd_T41 xs i).f5) i).bind fun t=>if t=true then impl_TreeOk.l0 k (wrap64 (i+1)) xs else some false)else none)else impl_Tree_linksOk.f k xs
def impl_TreeOk.f(k:Nat)(xs:List S41):Option Bool:=(impl_inRange.f (xs.length:Int) 1 500).bind fun t=>if t=true then impl_TreeOk.l0 k 0 xs else some false
theorem impl_TreeOk.mono_l: ∀k,(∀y0 y1,LeO (impl_TreeOk.l0 k y0 y1) (impl_TreeOk.l0 (k+1) y0 y1))
 |0=>fun _ _ r h=>by simp [impl_TreeOk.l0]at h
 |k+1=>by
  have ih:=impl_TreeOk.mono_l k;intro y0 y1;rw[impl_TreeOk.l0,impl_TreeOk.l0];exact LeO.ite (LeO.ite (LeO.bind (impl_nodeOk.mono _ _ _ _ _ _ _ _) (fun _=>LeO.ite (ih _ _) (LeO.refl _))) (LeO.refl _)) (impl_Tree_linksOk.mono _ _)
theorem impl_TreeOk.mono: ∀a0 k,LeO (impl_TreeOk.f k a0) (impl_TreeOk.f (k+1) a0):=fun a0 k=>LeO.bind (LeO.refl _) (fun _=>LeO.ite (impl_TreeOk.mono_l k _ _) (LeO.refl _))
theorem impl_TreeOk.calls(k:Nat)(A0_0:Option Addr)(c0_0:Nat)(l0_0:List S41)(r:Bool)(w:World)(hr0_0:Kd.C k41 w A0_0 l0_0.length l0_0)(hc0_0:l0_0.length≤c0_0)(h:impl_TreeOk.f k l0_0=some r):
 Calls Tryz.prog 15 #[.agg #[.slice A0_0 l0_0.length c0_0]] w fun e w'=>e= .returned (.bool r)∧Below w.heap.size w w':=by
 have HC:=Ak hr0_0;clear hr0_0 hc0_0;unfold impl_TreeOk.f at h;obtain⟨t,A1,h⟩:=Ob h;replace A1:=Ak A1;cases t with
 |false=>
  rw[if_neg (by decide)]at h;obtain rfl:=Oi h;clear h;go_enter Tryz.func15,Tryz.ntmps15;go_wp2_with (first|(go_at_call 30;(with_reducible refine(impl_inRange.calls _ _ _ false _ A1.out).mono ?_);rintro e w' ⟨rfl,⟨nd,rfl⟩⟩));go_ret;exact⟨rfl,by repeat(first|exact Below.refl _ _|apply below_alloc|apply pw_below_drewN)⟩
 |true=>
  rw[if_pos rfl]at h;have HA:=Ak h;clear h;go_enter Tryz.func15,Tryz.ntmps15;go_wp2_with (first
   |((with_reducible refine gate_dst (N:=1) rfl ?_);refine box_event ?hg (N:=1) ?hd (cs:= #[.slice A0_0 l0_0.length c0_0]) (t:=29) ?hr ?_;(case hd=>rfl);(case hg=>rfl);(case hr=>first|(go_simp;done)|(go_simp;rfl));intro gt hg w1 hbox hb;have HX:=Ak (show BoxW w w1 gt A0_0 l0_0.length c0_0 from⟨hbox,hb,by rw[hg];exact Nat.le_refl _⟩);have hcb:=HX.out.cell;clear hbox hb hg)
   |(go_at_call 30;(with_reducible refine(impl_inRange.calls _ _ _ true _ A1.out).mono ?_);rintro e w' ⟨rfl,⟨nd,rfl⟩⟩;have HX2:=Ak (HX.out.drewN nd);clear HX))
  go_loopg [13] k (fun kq v13 w'=> ∃(i:Int),v13= .int .i64 i∧Aside0 (impl_TreeOk.l0 kq i l0_0=some r)∧Aside0 (kq≤k)∧Aside0 (BoxW w w' gt A0_0 l0_0.length c0_0));case atStart=>exact⟨0,rfl,HA,⟨Nat.le_refl _⟩,HX2⟩
  case round=>
   clear HA HX2 hcb;obtain⟨i,rfl,HA,HK,HX⟩:=hrel;cases gk with
   |zero=>exact absurd HA.out (by simp [impl_TreeOk.l0])
   |succ k1=>
    have H:=HA.out;clear HA;simp only[impl_TreeOk.l0]at H;by_cases c1:i<(l0_0.length:Int)
    ·rw[if_pos c1]at H;by_cases c2:0≤i
     ·rw[if_pos c2]at H;obtain⟨t,A2,H⟩:=Ob H;replace A2:=Ak A2;have c1b:decide (i<(l0_0.length:Int))=true:=decide_eq_true c1;obtain⟨ad,A_2,c_2,A_5,c_5,e1,hx0,hx1,hx2,hx3,hx4,hx5,hl2,hi2,hl5,hi5⟩:=at_T41 HC.out i c2 c1;subst e1;replace hx0:=pw_cell_below HX.out.low hx0;replace hx1:=pw_cell_below HX.out.low hx1;replace hx2:=pw_cell_below HX.out.low hx2;replace hx3:=pw_cell_below HX.out.low hx3;replace hx4:=pw_cell_below HX.out.low hx4;replace hx5:=pw_cell_below HX.out.low hx5;have HI2:=Ak hi2;have HI5:=Ak hi5;have HL2:=Ak hl2;have HL5:=Ak hl5;clear hl2 hi2 hl5 hi5;replace c2:=eq_true c2;replace c1:=eq_true c1;go_upto_region 6 with(first|((with_reducible refine gate_dst (N:=4) rfl ?_);refine box_event ?hg (N:=4) ?hd (cs:= #[.int .i64 0, .string (⟨#[]⟩:ByteArray), .slice none 0 0, .string (⟨#[]⟩:ByteArray), .int .i64 0, .slice none 0 0]) (t:=41) ?hr ?_;(case hd=>rfl);(case hg=>rfl);(case hr=>first|(go_simp;done)|(go_simp;rfl));intro gb hg w2 hbox hb;have HNE:=Ak (show gb≠gt by have:=blk_lt HX.out.blk;omega);have HX2:=Ak (HX.out.below hb);have HGB:=Ak (show w.heap.size≤gb by rw[hg];exact below_size HX.out.low);have HBX:=Ak hbox;have hz0:=blk_cell hbox 0;have hz1:=blk_cell hbox 1;have hz2:=blk_cell hbox 2;have hz3:=blk_cell hbox 3;have hz4:=blk_cell hbox 4;have hz5:=blk_cell hbox 5;have hf:=blk_frozen hbox;clear hbox hb hg HX))
      have HB6:=Ak (fillN_blk (rd_T41 l0_0 i) (.slice A_2 (rd_T41 l0_0 i).f2.length c_2) (.slice A_5 (rd_T41 l0_0 i).f5.length c_5) HBX.out);have HX:=Ak (HX2.out.fill HGB.out HNE.out (rd_T41 l0_0 i) (.slice A_2 (rd_T41 l0_0 i).f2.length c_2) (.slice A_5 (rd_T41 l0_0 i).f5.length c_5));show Code.wp _ _ _ _ (fillN w2 gb (rd_T41 l0_0 i) (.slice A_2 (rd_T41 l0_0 i).f2.length c_2) (.slice A_5 (rd_T41 l0_0 i).f5.length c_5))
      generalize fillN w2 gb (rd_T41 l0_0 i) (.slice A_2 (rd_T41 l0_0 i).f2.length c_2) (.slice A_5 (rd_T41 l0_0 i).f5.length c_5)=w3 at HB6 HX⊢;clear hz0 hz1 hz2 hz3 hz4 hz5 hf HBX HX2 hx0 hx1 hx2 hx3 hx4 hx5 HNE HGB;have hz0:=blk_cell HB6.out 0;have hz1:=blk_cell HB6.out 1;have hz2:=blk_cell HB6.out 2;have hz3:=blk_cell HB6.out 3;have hz4:=blk_cell HB6.out 4;have hz5:=blk_cell HB6.out 5;have HJ2:=Ak (Kd.C_below HI2.out HX.out.low);have HJ5:=Ak (Kd.C_below HI5.out HX.out.low);cases t with
      |true=>
       rw[if_pos rfl]at H;have HA:=Ak H;clear H;go_wp2_with (first|(go_at_call 31;(with_reducible refine(impl_nodeOk.calls k1 _ _ _ _ _ _ _ _ _ _ i true _ HJ2.out HL2.out HJ5.out HL5.out A2.out).mono ?_);rintro e w4 ⟨rfl,hb⟩;have HX3:=Ak (HX.out.below hb);clear hb HX));go_roundg k1;case measure=>have:=HK.out;omega
       case rel=>exact⟨_,rfl,HA,⟨by have:=HK.out;omega⟩,HX3⟩
      |false=>
       rw[if_neg (by decide)]at H;obtain rfl:=Oi H;clear H;go_wp2_with (first|(go_at_call 31;(with_reducible refine(impl_nodeOk.calls k1 _ _ _ _ _ _ _ _ _ _ i false _ HJ2.out HL2.out HJ5.out HL5.out A2.out).mono ?_);rintro e w4 ⟨rfl,hb⟩;have HX3:=Ak (HX.out.below hb);clear hb HX));go_ret;exact⟨rfl,HX3.out.low⟩
     ·rw[if_neg c2]at H;cases H
    ·rw[if_neg c1]at H;have HA:=Ak H;clear H;have c1b:decide (i<(l0_0.length:Int))=false:=decide_eq_false c1;clear c1;have HIS:=Ak (show IsS29 w wr gt l0_0 from⟨A0_0,c0_0,HX.out.blk,HX.out.ge,HC.out⟩);have hcb:=HX.out.cell;have HLO:=Ak HX.out.low;go_wp2_with (first|(go_at_call 32;(with_reducible refine(impl_Tree_linksOk.calls k1 gt l0_0 r w _ HIS.out HLO.out HA.out).mono ?_);rintro e w4 ⟨rfl,_,hb,_⟩));go_ret;exact⟨rfl,hb⟩
def oneOf(name names:ByteArray):Bool:= !decide (name.toList= []) && (!(Lib.contains name.data.toList (⟨#[32]⟩:ByteArray).data.toList) && Lib.contains (((⟨#[32]⟩:ByteArray)++names)++(⟨#[32]⟩:ByteArray)).data.toList (((⟨#[32]⟩:ByteArray)++name)++(⟨#[32]⟩:ByteArray)).data.toList)
theorem impl_isOneOf.calls(name names:ByteArray)(m:Int)(w:World)(h1:name.size≤1048576)(h2:names.size≤1000)(hm:w.cell? ⟨0,0,none⟩=some (.int .i64 m)):
 Calls Tryz.prog 94 #[.string name, .string names] w fun e w'=>e= .returned (.bool (oneOf name names))∧Drawn0 w w':=by
 by_cases c:name.toList= []
 ·have b0:(name.toList==([]:List UInt8))=true:=beq_iff_eq.mpr c;go_enter Tryz.func94,Tryz.ntmps94;go_wp2;go_ret;exact⟨by simp [oneOf,c],by repeat(first|exact Drawn0.refl _|apply Drawn0.step)⟩
 ·have b0:(name.toList==([]:List UInt8))=false:=by simpa using c
  have hz:(⟨#[32]⟩:ByteArray).size=1:=rfl;cases hc:Lib.contains name.data.toList (⟨#[32]⟩:ByteArray).data.toList with
  |true=>
   go_enter Tryz.func94,Tryz.ntmps94;go_wp2_with (first|(go_at_call 110;refine(Tryz.strings_Contains _ _ m _ ?h1 ?h2).mono ?_;(case h1=>first|omega|(simp only[ByteArray.size_append,hz];omega));(case h2=>simpa using hm);(try rw[hc]);rintro e w' ⟨rfl,rfl⟩));go_ret;exact⟨by simp [oneOf,c,hc],by repeat(first|exact Drawn0.refl _|apply Drawn0.step)⟩
  |false=>
   go_enter Tryz.func94,Tryz.ntmps94;go_wp2_with (first|(go_at_call 110;refine(Tryz.strings_Contains _ _ m _ ?h1 ?h2).mono ?_;(case h1=>first|omega|(simp only[ByteArray.size_append,hz];omega));(case h2=>simpa using hm);(try rw[hc]);rintro e w' ⟨rfl,rfl⟩));go_ret;exact⟨by simp [oneOf,c,hc],by repeat(first|exact Drawn0.refl _|apply Drawn0.step)⟩
def words_IsRaw:ByteArray:=⟨#[105,102,114,97,109,101,32,110,111,101,109,98,101,100,32,110,111,102,114,97,109,101,115,32,112,108,97,105,110,116,101,120,116,32,115,99,114,105,112,116,32,115,116,121,108,101,32,120,109,112]⟩
theorem impl_IsRaw.calls(s:ByteArray)(m:Int)(w:World)(h1:s.size≤1048576)(hm:w.cell? ⟨0,0,none⟩=some (.int .i64 m)):
 Calls Tryz.prog 65 #[.string s] w fun e w'=>e= .returned (.bool (oneOf s words_IsRaw))∧Drawn0 w w':=by
 go_enter Tryz.func65,Tryz.ntmps65;go_wp2_with (first|(go_at_call 94;refine(impl_isOneOf.calls s words_IsRaw m _ h1 ?h2 ?h3).mono ?_;(case h2=>decide);(case h3=>simpa using hm);rintro e w' ⟨rfl,⟨nd,rfl⟩⟩));go_ret;exact⟨rfl,by repeat(first|exact Drawn0.refl _|apply Drawn0.step)⟩
end Go.Proofs.YtlnmmcipioagaaaGreatDoor.X
namespace Go.Proofs.YtlnmmcipioagaaaGreatDoor.X
open Go.RowKit Go.Proofs.YtlnmmcipioagaaaGreatDoorW.PrintWords Go.Proofs.YtlnmmcipioagaaaGreatDoorW.PrintLast Go.Proofs.YtlnmmcipioagaaaGreatDoorW.PrintMore
attribute [local go_sem] max2_int min2_int max_two min_two max_three min_three max_four min_four
set_option linter.unusedVariables false
set_option linter.unusedSimpArgs false
open Go.Lib in
theorem rk_len(old new:List UInt8): ∀(k:Nat) (s:List UInt8),(replaceK old new k s).length≤s.length+k*new.length:=by
 intro k;induction k with
 |zero=>intro s;simp [replaceK]
 |succ k ih=>
  intro s;unfold replaceK;split
  ·exact Nat.le_add_right _ _
  ·have h:=ih (s.drop ((index s old).toNat+old.length));rw[List.length_drop]at h;rw[List.length_append,List.length_append,List.length_take,Nat.succ_mul];omega
def rb(s old new:ByteArray):ByteArray:=⟨(Lib.replaceAll s.data.toList old.data.toList new.data.toList).toArray⟩
open Go.Lib in
theorem rb_ok(s old new:ByteArray)(h1:1≤old.size):(rb s old new).size≤s.size+s.size*new.size∧s.size+countB s old*new.size≤s.size+s.size*new.size:=by
 have hc:=countB_le old h1 s.size s (Nat.le_refl _);have hm:countB s old*new.size≤s.size*new.size:=Nat.mul_le_mul_right _ hc;refine⟨?_,by omega⟩;have e1:(rb s old new).size=(replaceAll s.data.toList old.data.toList new.data.toList).length:=by
  rw[Lib.size_eq];rfl
 have e2:s.data.toList.length=s.size:=(Lib.size_eq s).symm;have e3:new.data.toList.length=new.size:=(Lib.size_eq new).symm;rw[e1];unfold replaceAll replace;split
 ·omega
 ·have h:=rk_len old.data.toList new.data.toList (replaceNum s.data.toList old.data.toList (-1)) s.data.toList;have e4:replaceNum s.data.toList old.data.toList (-1)=countB s old:=by unfold replaceNum;rw[if_pos (Or.inl (by decide))]
  rw[e4,e2,e3]at h;rw[e4];omega
theorem ra_calls(s old new:ByteArray)(m:Int)(w:World)(hs:s.size<4294967281)(hm:w.cell? ⟨0,0,none⟩=some (.int .i64 m))(h1:1≤old.size)(hlen:s.size+Lib.countB s old*new.size≤140737488355328):
 Calls Tryz.prog 95 #[.string s, .string old, .string new] w fun e w'=>e= .returned (.string (rb s old new))∧Below w.heap.size w w':=Tryz.strings_ReplaceAll s old new m w hs hm h1 hlen
def impl_Escape.f(s:ByteArray)(v:Bool):ByteArray:=if v=true then rb (rb (rb s ⟨#[38]⟩ ⟨#[38,97,109,112,59]⟩) ⟨#[194,160]⟩ ⟨#[38,110,98,115,112,59]⟩) ⟨#[34]⟩ ⟨#[38,113,117,111,116,59]⟩else rb (rb (rb (rb s ⟨#[38]⟩ ⟨#[38,97,109,112,59]⟩) ⟨#[194,160]⟩ ⟨#[38,110,98,115,112,59]⟩) ⟨#[60]⟩ ⟨#[38,108,116,59]⟩) ⟨#[62]⟩ ⟨#[38,103,116,59]⟩
theorem impl_Escape.calls(s:ByteArray)(v:Bool)(m:Int)(w:World)(h1:s.size≤1048576)(hm:w.cell? ⟨0,0,none⟩=some (.int .i64 m)):
 Calls Tryz.prog 66 #[.string s, .bool v] w fun e w'=>e= .returned (.string (impl_Escape.f s v))∧Below w.heap.size w w':=by
 have k1:=rb_ok s ⟨#[38]⟩ ⟨#[38,97,109,112,59]⟩ (by decide);have k2:=rb_ok (rb s ⟨#[38]⟩ ⟨#[38,97,109,112,59]⟩) ⟨#[194,160]⟩ ⟨#[38,110,98,115,112,59]⟩ (by decide);have z1:(⟨#[38,97,109,112,59]⟩:ByteArray).size=5:=rfl;have z2:(⟨#[38,110,98,115,112,59]⟩:ByteArray).size=6:=rfl;have z3:(⟨#[38,113,117,111,116,59]⟩:ByteArray).size=6:=rfl;have z4:(⟨#[38,108,116,59]⟩:ByteArray).size=4:=rfl;have z5:(⟨#[38,103,116,59]⟩:ByteArray).size=4:=rfl;rw[z1]at k1;rw[z2]at k2;have HM:=Ak hm;have K1:=Ak (show s.size<4294967281∧s.size+Lib.countB s ⟨#[38]⟩*(⟨#[38,97,109,112,59]⟩:ByteArray).size≤140737488355328 by rw[z1];omega);have K2:=Ak (show(rb s ⟨#[38]⟩ ⟨#[38,97,109,112,59]⟩).size<4294967281∧(rb s ⟨#[38]⟩ ⟨#[38,97,109,112,59]⟩).size+Lib.countB (rb s ⟨#[38]⟩ ⟨#[38,97,109,112,59]⟩) ⟨#[194,160]⟩*(⟨#[38,110,98,115,112,59]⟩:ByteArray).size≤140737488355328 by rw[z2];omega);generalize hs2:rb (rb s ⟨#[38]⟩ ⟨#[38,97,109,112,59]⟩) ⟨#[194,160]⟩ ⟨#[38,110,98,115,112,59]⟩=s2 at k2;have k3:=rb_ok s2 ⟨#[34]⟩ ⟨#[38,113,117,111,116,59]⟩ (by decide);have k4:=rb_ok s2 ⟨#[60]⟩ ⟨#[38,108,116,59]⟩ (by decide);rw[z3]at k3;rw[z4]at k4;have k5:=rb_ok (rb s2 ⟨#[60]⟩ ⟨#[38,108,116,59]⟩) ⟨#[62]⟩ ⟨#[38,103,116,59]⟩ (by decide);rw[z5]at k5;have K3:=Ak (show s2.size<4294967281∧s2.size+Lib.countB s2 ⟨#[34]⟩*(⟨#[38,113,117,111,116,59]⟩:ByteArray).size≤140737488355328 by rw[z3];omega);have K4:=Ak (show s2.size<4294967281∧s2.size+Lib.countB s2 ⟨#[60]⟩*(⟨#[38,108,116,59]⟩:ByteArray).size≤140737488355328 by rw[z4];omega);have K5:=Ak (show(rb s2 ⟨#[60]⟩ ⟨#[38,108,116,59]⟩).size<4294967281∧(rb s2 ⟨#[60]⟩ ⟨#[38,108,116,59]⟩).size+Lib.countB (rb s2 ⟨#[60]⟩ ⟨#[38,108,116,59]⟩) ⟨#[62]⟩*(⟨#[38,103,116,59]⟩:ByteArray).size≤140737488355328 by rw[z5];omega);have HS:=Ak hs2;have O1:=Ak (show 1≤(⟨#[38]⟩:ByteArray).size by decide);have O2:=Ak (show 1≤(⟨#[194,160]⟩:ByteArray).size by decide);have O3:=Ak (show 1≤(⟨#[34]⟩:ByteArray).size by decide);have O4:=Ak (show 1≤(⟨#[60]⟩:ByteArray).size by decide);have O5:=Ak (show 1≤(⟨#[62]⟩:ByteArray).size by decide);clear k1 k2 k3 k4 k5 z1 z2 z3 z4 z5 hm h1 hs2;unfold impl_Escape.f;cases v with
 |true=>
  rw[if_pos rfl,HS.out];go_enter Tryz.func66,Tryz.ntmps66;go_wp2_with (first|(go_at_call 95;(with_reducible refine(ra_calls s ⟨#[38]⟩ ⟨#[38,97,109,112,59]⟩ m _ K1.out.1 HM.out O1.out K1.out.2).mono ?_);rintro e w1 ⟨rfl,hb⟩;have HB1:=Ak hb;clear hb)|(go_at_call 95;(with_reducible refine(ra_calls (rb s ⟨#[38]⟩ ⟨#[38,97,109,112,59]⟩) ⟨#[194,160]⟩ ⟨#[38,110,98,115,112,59]⟩ m _ K2.out.1 (pw_cell_below HB1.out HM.out) O2.out K2.out.2).mono ?_);rintro e w2 ⟨rfl,hb⟩;rw[HS.out];have HB2:=Ak (below_step HB1.out hb);clear hb)|(go_at_call 95;(with_reducible refine(ra_calls s2 ⟨#[34]⟩ ⟨#[38,113,117,111,116,59]⟩ m _ K3.out.1 (pw_cell_below HB2.out HM.out) O3.out K3.out.2).mono ?_);rintro e w3 ⟨rfl,hb⟩;have HB3:=Ak (below_step HB2.out hb);clear hb));go_ret;exact⟨rfl,HB3.out⟩
 |false=>
  rw[if_neg (by decide),HS.out];go_enter Tryz.func66,Tryz.ntmps66;go_wp2_with (first|(go_at_call 95;(with_reducible refine(ra_calls s ⟨#[38]⟩ ⟨#[38,97,109,112,59]⟩ m _ K1.out.1 HM.out O1.out K1.out.2).mono ?_);rintro e w1 ⟨rfl,hb⟩;have HB1:=Ak hb;clear hb)|(go_at_call 95;(with_reducible refine(ra_calls (rb s ⟨#[38]⟩ ⟨#[38,97,109,112,59]⟩) ⟨#[194,160]⟩ ⟨#[38,110,98,115,112,59]⟩ m _ K2.out.1 (pw_cell_below HB1.out HM.out) O2.out K2.out.2).mono ?_);rintro e w2 ⟨rfl,hb⟩;rw[HS.out];have HB2:=Ak (below_step HB1.out hb);clear hb)|(go_at_call 95;(with_reducible refine(ra_calls s2 ⟨#[60]⟩ ⟨#[38,108,116,59]⟩ m _ K4.out.1 (pw_cell_below HB2.out HM.out) O4.out K4.out.2).mono ?_);rintro e w4 ⟨rfl,hb⟩;have HB4:=Ak (below_step HB2.out hb);clear hb)|(go_at_call 95;(with_reducible refine(ra_calls (rb s2 ⟨#[60]⟩ ⟨#[38,108,116,59]⟩) ⟨#[62]⟩ ⟨#[38,103,116,59]⟩ m _ K5.out.1 (pw_cell_below HB4.out HM.out) O5.out K5.out.2).mono ?_);rintro e w5 ⟨rfl,hb⟩;have HB5:=Ak (below_step HB4.out hb);clear hb));go_ret;exact⟨rfl,HB5.out⟩
end Go.Proofs.YtlnmmcipioagaaaGreatDoor.X
namespace Go.Proofs.YtlnmmcipioagaaaGreatDoor.X
open Go.RowKit Go.Proofs.YtlnmmcipioagaaaGreatDoorW.PrintWords Go.Proofs.YtlnmmcipioagaaaGreatDoorW.PrintLast Go.Proofs.YtlnmmcipioagaaaGreatDoorW.PrintMore
attribute [local go_sem] max2_int min2_int max_two min_two max_three min_three max_four min_four
set_option linter.unusedVariables false
set_option linter.unusedSimpArgs false
def words_IsVoid:ByteArray:=⟨#[97,114,101,97,32,98,97,115,101,32,98,114,32,101,109,98,101,100,32,104,114,32,105,109,103,32,105,110,112,117,116,32,108,105,110,107,32,109,101,116,97,32,112,97,114,97,109,32,115,111,117,114,99,101,32,116,114,97,99,107,32,119,98,114]⟩
theorem impl_IsVoid.calls(s:ByteArray)(m:Int)(w:World)(h1:s.size≤1048576)(hm:w.cell? ⟨0,0,none⟩=some (.int .i64 m)):
 Calls Tryz.prog 68 #[.string s] w fun e w'=>e= .returned (.bool (oneOf s words_IsVoid))∧Drawn0 w w':=by
 go_enter Tryz.func68,Tryz.ntmps68;go_wp2_with (first|(go_at_call 94;refine(impl_isOneOf.calls s words_IsVoid m _ h1 ?h2 ?h3).mono ?_;(case h2=>decide);(case h3=>simpa using hm);rintro e w' ⟨rfl,⟨nd,rfl⟩⟩));go_ret;exact⟨rfl,by repeat(first|exact Drawn0.refl _|apply Drawn0.step)⟩
/-! The texts that tell words. -/
end Go.Proofs.YtlnmmcipioagaaaGreatDoor.X
namespace Go.Proofs
open Go.Shelf
def Tryz.builder_ren:Go.Shelf.Ren:=⟨fun|166=>35|167=>67|169=>22|240=>59|276=>90|n=>n,fun|0=>0|3=>3|4=>4|5=>5|9=>9|20=>20|37=>33|70=>45|72=>47|75=>63|80=>49|127=>77|164=>104|n=>n,fun|n=>n⟩
theorem Tryz.lays240:Go.Proofs.Lays.n240 Tryz.prog Tryz.builder_ren:= {
 mixed:=by kernel_rfl
 f240:=Tryz.func59.trans (congrArg some (by kernel_rfl))
 f276:=Tryz.func90.trans (congrArg some (by kernel_rfl))
 t0:=Tryz.underlying0
 a0:=Tryz.isAgg0
 z0:=Tryz.sizeOf0
 v0:=Tryz.zeroValue0
 t4:=Tryz.underlying4
 a4:=Tryz.isAgg4
 z4:=Tryz.sizeOf4
 v4:=Tryz.zeroValue4
 t9:=Tryz.underlying9
 a9:=Tryz.isAgg9
 z9:=Tryz.sizeOf9
 v9:=Tryz.zeroValue9
 t20:=Tryz.underlying20
 a20:=Tryz.isAgg20
 z20:=Tryz.sizeOf20
 v20:=Tryz.zeroValue20
 t70:=Tryz.underlying45
 a70:=Tryz.isAgg45
 z70:=Tryz.sizeOf45
 v70:=Tryz.zeroValue45
 t72:=Tryz.underlying47
 a72:=Tryz.isAgg47
 z72:=Tryz.sizeOf47
 v72:=Tryz.zeroValue47
 t164:=Tryz.underlying104
 a164:=Tryz.isAgg104
 z164:=Tryz.sizeOf104
 v164:=Tryz.zeroValue104}
theorem Tryz.lays166:Go.Proofs.Lays.n166 Tryz.prog Tryz.builder_ren:= {
 mixed:=by kernel_rfl
 f166:=Tryz.func35.trans (congrArg some (by kernel_rfl))
 f240:=Tryz.func59.trans (congrArg some (by kernel_rfl))
 f276:=Tryz.func90.trans (congrArg some (by kernel_rfl))
 t0:=Tryz.underlying0
 a0:=Tryz.isAgg0
 z0:=Tryz.sizeOf0
 v0:=Tryz.zeroValue0
 t3:=Tryz.underlying3
 a3:=Tryz.isAgg3
 z3:=Tryz.sizeOf3
 v3:=Tryz.zeroValue3
 t4:=Tryz.underlying4
 a4:=Tryz.isAgg4
 z4:=Tryz.sizeOf4
 v4:=Tryz.zeroValue4
 t9:=Tryz.underlying9
 a9:=Tryz.isAgg9
 z9:=Tryz.sizeOf9
 v9:=Tryz.zeroValue9
 t20:=Tryz.underlying20
 a20:=Tryz.isAgg20
 z20:=Tryz.sizeOf20
 v20:=Tryz.zeroValue20
 t37:=Tryz.underlying33
 a37:=Tryz.isAgg33
 z37:=Tryz.sizeOf33
 v37:=Tryz.zeroValue33
 t70:=Tryz.underlying45
 a70:=Tryz.isAgg45
 z70:=Tryz.sizeOf45
 v70:=Tryz.zeroValue45
 t72:=Tryz.underlying47
 a72:=Tryz.isAgg47
 z72:=Tryz.sizeOf47
 v72:=Tryz.zeroValue47
 t75:=Tryz.underlying63
 a75:=Tryz.isAgg63
 z75:=Tryz.sizeOf63
 v75:=Tryz.zeroValue63
 t164:=Tryz.underlying104
 a164:=Tryz.isAgg104
 z164:=Tryz.sizeOf104
 v164:=Tryz.zeroValue104}
theorem Tryz.lays167:Go.Proofs.Lays.n167 Tryz.prog Tryz.builder_ren:= {
 mixed:=by kernel_rfl
 f167:=Tryz.func67.trans (congrArg some (by kernel_rfl))
 f240:=Tryz.func59.trans (congrArg some (by kernel_rfl))
 f276:=Tryz.func90.trans (congrArg some (by kernel_rfl))
 t0:=Tryz.underlying0
 a0:=Tryz.isAgg0
 z0:=Tryz.sizeOf0
 v0:=Tryz.zeroValue0
 t4:=Tryz.underlying4
 a4:=Tryz.isAgg4
 z4:=Tryz.sizeOf4
 v4:=Tryz.zeroValue4
 t5:=Tryz.underlying5
 a5:=Tryz.isAgg5
 z5:=Tryz.sizeOf5
 v5:=Tryz.zeroValue5
 t9:=Tryz.underlying9
 a9:=Tryz.isAgg9
 z9:=Tryz.sizeOf9
 v9:=Tryz.zeroValue9
 t20:=Tryz.underlying20
 a20:=Tryz.isAgg20
 z20:=Tryz.sizeOf20
 v20:=Tryz.zeroValue20
 t37:=Tryz.underlying33
 a37:=Tryz.isAgg33
 z37:=Tryz.sizeOf33
 v37:=Tryz.zeroValue33
 t70:=Tryz.underlying45
 a70:=Tryz.isAgg45
 z70:=Tryz.sizeOf45
 v70:=Tryz.zeroValue45
 t72:=Tryz.underlying47
 a72:=Tryz.isAgg47
 z72:=Tryz.sizeOf47
 v72:=Tryz.zeroValue47
 t75:=Tryz.underlying63
 a75:=Tryz.isAgg63
 z75:=Tryz.sizeOf63
 v75:=Tryz.zeroValue63
 t164:=Tryz.underlying104
 a164:=Tryz.isAgg104
 z164:=Tryz.sizeOf104
 v164:=Tryz.zeroValue104}
theorem Tryz.lays169:Go.Proofs.Lays.n169 Tryz.prog Tryz.builder_ren:= {
 mixed:=by kernel_rfl
 f169:=Tryz.func22.trans (congrArg some (by kernel_rfl))
 t0:=Tryz.underlying0
 a0:=Tryz.isAgg0
 z0:=Tryz.sizeOf0
 v0:=Tryz.zeroValue0
 t3:=Tryz.underlying3
 a3:=Tryz.isAgg3
 z3:=Tryz.sizeOf3
 v3:=Tryz.zeroValue3
 t9:=Tryz.underlying9
 a9:=Tryz.isAgg9
 z9:=Tryz.sizeOf9
 v9:=Tryz.zeroValue9
 t37:=Tryz.underlying33
 a37:=Tryz.isAgg33
 z37:=Tryz.sizeOf33
 v37:=Tryz.zeroValue33
 t70:=Tryz.underlying45
 a70:=Tryz.isAgg45
 z70:=Tryz.sizeOf45
 v70:=Tryz.zeroValue45
 t72:=Tryz.underlying47
 a72:=Tryz.isAgg47
 z72:=Tryz.sizeOf47
 v72:=Tryz.zeroValue47
 t127:=Tryz.underlying77
 a127:=Tryz.isAgg77
 z127:=Tryz.sizeOf77
 v127:=Tryz.zeroValue77}
theorem Tryz.Builder_Extra:Builder.Extra Tryz.prog Tryz.builder_ren:= {
 sizeBuilder:=by kernel_rfl
 liesBuilder:=by kernel_rfl
 t5:=Tryz.underlying5
 a5:=Tryz.isAgg5
 z5:=Tryz.sizeOf5
 v5:=Tryz.zeroValue5
 infoByte:=by kernel_rfl
 cellsByte:=by kernel_rfl
 sizeByte:=by kernel_rfl
 neB5:=by decide}
open Go.RowKit in
theorem Tryz.Builder_WriteString_k(B b:Nat)(bs:List Value)(s:ByteArray)(w:World)(h:Lib.IsBuilderF 47 5 B b bs w)(hlen:bs.length+s.size≤140737488355328)(hBw:B≤w.heap.size):
 Calls Tryz.prog 35 #[.pointer (some ⟨b,0,none⟩), .string s] w fun e w'=>e= .returned (.tuple #[.int .i64 s.size, .nilIface])∧(Lib.BuilderAtF 47 5 B b (.pointer (some ⟨b,0,none⟩)) (bs++Lib.strCells s) w'∧Below B w w'∧Lib.OthersKept 5 (some b) w w'):=Any.Builder_WriteString_k Tryz.lays166 Tryz.Builder_Extra B b bs s w h hlen hBw
open Go.RowKit in
theorem Tryz.Builder_WriteByte_k(B b:Nat)(bs:List Value)(c:Int)(w:World)(h:Lib.IsBuilderF 47 5 B b bs w)(hlen:bs.length+1≤140737488355328)(hBw:B≤w.heap.size):
 Calls Tryz.prog 67 #[.pointer (some ⟨b,0,none⟩), .int .u8 c] w fun e w'=>e= .returned .nilIface∧(Lib.BuilderAtF 47 5 B b (.pointer (some ⟨b,0,none⟩)) (bs++ [.int .u8 c]) w'∧Below B w w'∧Lib.OthersKept 5 (some b) w w'):=Any.Builder_WriteByte_k Tryz.lays167 Tryz.Builder_Extra B b bs c w h hlen hBw
open Go.RowKit in
theorem Tryz.Builder_String_any_k(B b:Nat)(l:List UInt8)(w:World)(h:Lib.IsBuilderF 47 5 B b (Lib.byteCells l) w)(hBw:B≤w.heap.size):
 Calls Tryz.prog 22 #[.pointer (some ⟨b,0,none⟩)] w fun e w'=>e= .returned (.string ⟨l.toArray⟩)∧(Lib.IsBuilderF 47 5 B b (Lib.byteCells l) w'∧Below B w w'∧Lib.OthersKept 5 (some b) w w'):=Any.Builder_String_any_k Tryz.lays169 Tryz.Builder_Extra B b l w h hBw
end Go.Proofs
namespace Go.Proofs.YtlnmmcipioagaaaGreatDoor.X
open Go.RowKit Go.Proofs.YtlnmmcipioagaaaGreatDoorW.PrintWords Go.Proofs.YtlnmmcipioagaaaGreatDoorW.PrintLast Go.Proofs.YtlnmmcipioagaaaGreatDoorW.PrintMore
attribute [local go_sem] max2_int min2_int max_two min_two max_three min_three max_four min_four
set_option linter.unusedVariables false
set_option linter.unusedSimpArgs false
def wrB(acc s:ByteArray):Option ByteArray:=if acc.size+s.size≤140737488355328 then some (acc++s)else none
def impl_print.at(a:S72):ByteArray:=(⟨#[32]⟩:ByteArray)++a.f0++(⟨#[61,34]⟩:ByteArray)++impl_Escape.f a.f1 true++(⟨#[34]⟩:ByteArray)
def impl_print.la:Nat→ByteArray→List S72→Int→Option ByteArray
 |0,_,_,_=>none
 |k+1,acc,as_,j=>if j<(as_.length:Int)then(if 0≤j then(if(rd_T72 as_ j).f0.size≤1048576∧(rd_T72 as_ j).f1.size≤1048576 then(wrB acc (impl_print.at (rd_T72 as_ j))).bind fun a2=>impl_print.la k a2 as_ (wrap64 (j+1))else none)else none)else some acc
def impl_print.lk(p:ByteArray→Int→Option ByteArray):Nat→ByteArray→List Int→Int→Option ByteArray
 |0,_,_,_=>none
 |k+1,acc,ks,j=>if j<(ks.length:Int)then(if 0≤j then(p acc (rd ks j)).bind fun a2=>impl_print.lk p k a2 ks (wrap64 (j+1))else none)else some acc
def impl_print.raw(xs:List S41)(i:Int):Option Bool:=if 0≤i then(if i<(xs.length:Int)then(if(rd_T41 xs i).f0=3 then(if(rd_T41 xs i).f1.size≤1048576 then some (oneOf (rd_T41 xs i).f1 words_IsRaw)else none)else some false)else none)else some false
def impl_print.n(kk:ByteArray→Option ByteArray)(k:Nat)(xs:List S41)(acc:ByteArray)(x:S41):Option ByteArray:=
 if x.f1.size≤1048576∧x.f3.size≤1048576 then
  if x.f0=2 then wrB acc ((⟨#[60,33,68,79,67,84,89,80,69,32]⟩:ByteArray)++x.f1++(⟨#[62]⟩:ByteArray))
  else if x.f0=5 then wrB acc ((⟨#[60,33,45,45]⟩:ByteArray)++x.f3++(⟨#[45,45,62]⟩:ByteArray))
  else if x.f0=4 then(impl_print.raw xs x.f4).bind fun q=>if q=true then wrB acc x.f3 else wrB acc (impl_Escape.f x.f3 false)
  else if x.f0=3 then(wrB acc ((⟨#[60]⟩:ByteArray)++x.f1)).bind fun a1=>(impl_print.la k a1 x.f2 0).bind fun a2=>(wrB a2 (⟨#[62]⟩:ByteArray)).bind fun a3=>if oneOf x.f1 words_IsVoid=true then some a3 else(kk a3).bind fun a4=>wrB a4 ((⟨#[60,47]⟩:ByteArray)++x.f1++(⟨#[62]⟩:ByteArray))
  else some acc
 else none
def impl_print.kf(p:ByteArray→Int→Option ByteArray)(k:Nat)(xs:List S41)(acc:ByteArray)(i:Int):Option ByteArray:=if 0≤i then(if i<(xs.length:Int)then impl_print.lk p k acc (rd_T41 xs i).f5 0 else none)else none
def impl_Tree_print.f:Nat→List S41→ByteArray→Int→Option ByteArray
 |0,_,_,_=>none
 |k+1,xs,acc,i=>if 0≤i then(if i<(xs.length:Int)then impl_print.n (fun a=>impl_print.kf (fun b j=>impl_Tree_print.f k xs b j) k xs a i) k xs acc (rd_T41 xs i)else none)else none
def impl_Tree_printKids.f(k:Nat)(xs:List S41)(acc:ByteArray)(i:Int):Option ByteArray:=impl_print.kf (fun b j=>impl_Tree_print.f k xs b j) k xs acc i
theorem impl_print.mono_a: ∀k a b c,LeO (impl_print.la k a b c) (impl_print.la (k+1) a b c)
 |0=>fun _ _ _ r h=>by simp [impl_print.la]at h
 |k+1=>fun a b c=>by
  rw[impl_print.la,impl_print.la];exact LeO.ite (LeO.ite (LeO.ite (LeO.bind (LeO.refl _) (fun _=>impl_print.mono_a k _ _ _)) (LeO.refl _)) (LeO.refl _)) (LeO.refl _)
theorem impl_print.mono_k{p q:ByteArray→Int→Option ByteArray}(hp: ∀a i,LeO (p a i) (q a i)): ∀k a b c,LeO (impl_print.lk p k a b c) (impl_print.lk q (k+1) a b c)
 |0=>fun _ _ _ r h=>by simp [impl_print.lk]at h
 |k+1=>fun a b c=>by
  rw[impl_print.lk,impl_print.lk];exact LeO.ite (LeO.ite (LeO.bind (hp _ _) (fun _=>impl_print.mono_k hp k _ _ _)) (LeO.refl _)) (LeO.refl _)
theorem impl_Tree_print.mono: ∀k a b c,LeO (impl_Tree_print.f k a b c) (impl_Tree_print.f (k+1) a b c)
 |0=>fun _ _ _ r h=>by simp [impl_Tree_print.f]at h
 |k+1=>fun a b c=>by
  rw[impl_Tree_print.f,impl_Tree_print.f];refine LeO.ite (LeO.ite ?_ (LeO.refl _)) (LeO.refl _);unfold impl_print.n;refine LeO.ite (LeO.ite (LeO.refl _) (LeO.ite (LeO.refl _) (LeO.ite (LeO.refl _) (LeO.ite (LeO.bind (LeO.refl _) (fun _=>LeO.bind (impl_print.mono_a k _ _ _) (fun _=>LeO.bind (LeO.refl _) (fun _=>LeO.ite (LeO.refl _) (LeO.bind ?_ (fun _=>LeO.refl _)))))) (LeO.refl _))))) (LeO.refl _);unfold impl_print.kf;exact LeO.ite (LeO.ite (impl_print.mono_k (fun _ _=>impl_Tree_print.mono k _ _ _) k _ _ _) (LeO.refl _)) (LeO.refl _)
theorem impl_Tree_printKids.mono: ∀a b c k,LeO (impl_Tree_printKids.f k a b c) (impl_Tree_printKids.f (k+1) a b c):=fun a b c k=>LeO.ite (LeO.ite (impl_print.mono_k (fun _ _=>impl_Tree_print.mono k _ _ _) k _ _ _) (LeO.refl _)) (LeO.refl _)
structure TxB(w4 W:World)(b:Nat)(acc:ByteArray):Prop where
 bld:Lib.IsBuilderF 47 5 b b (Lib.strCells acc) W
 oth:Lib.OthersKept 5 (some b) w4 W
 low:Below b w4 W
structure PrT(w0 W:World)(m:Int)(gt b:Nat)(A0:Option Addr)(c0:Nat)(xs:List S41):Prop where
 bt:W.heap[gt]? =some (.cells #[.slice A0 xs.length c0] 29 (0,0))
 ne:gt≠b
 c:Kd.C k41 w0 A0 xs.length xs
 low:Below w0.heap.size w0 W
 hle:w0.heap.size≤b
 hm:w0.cell? ⟨0,0,none⟩=some (.int .i64 m)
structure PrS(w0 w W:World)(m:Int)(gt b:Nat)(A0:Option Addr)(c0:Nat)(xs:List S41)(acc:ByteArray)(gn:Nat)(x:S41)(A2 A5:Option Addr)(c2 c5:Nat):Prop where
 t:PrT w0 W m gt b A0 c0 xs
 tx:TxB w W b acc
 bn:W.heap[gn]? =some (.cells #[.int .i64 x.f0, .string x.f1, .slice A2 x.f2.length c2, .string x.f3, .int .i64 x.f4, .slice A5 x.f5.length c5] 41 (0,0))
 nb:gn≠b
section
variable {w0 w w4 W W2:World} {m:Int} {gt b gn c0 c2 c5:Nat} {A0 A2 A5:Option Addr} {xs:List S41} {acc acc2 s:ByteArray} {x:S41}
theorem TxB.start(h:Lib.IsBuilderF 47 5 b b (Lib.strCells acc) W):TxB W W b acc:=⟨h,Lib.OthersKept.refl _ _ _,Below.refl _ _⟩
theorem TxB.lt(h:TxB w4 W b acc):b<W.heap.size:=by rcases h.bld with h_|h_<;>exact h_.lt
theorem TxB.trans(h:TxB w4 W b acc)(h2:TxB W W2 b acc2):TxB w4 W2 b acc2:=⟨h2.bld,h.oth.trans h2.oth,h.low.trans h2.low⟩
theorem TxB.below(h:TxB w4 W b acc)(hb:Below W.heap.size W W2):TxB w4 W2 b acc:=⟨Lib.IsBuilderF.below h.bld hb,Lib.OthersKept.below h.oth hb,h.low.trans (hb.mono (Nat.le_of_lt h.lt))⟩
theorem TxB.write(h:Lib.BuilderAtF 47 5 b b (.pointer (some ⟨b,0,none⟩)) (Lib.strCells acc++Lib.strCells s) W2)(hb:Below b W W2)(hk:Lib.OthersKept 5 (some b) W W2):TxB W W2 b (acc++s):=by
 have e:Lib.strCells (acc++s)=Lib.strCells acc++Lib.strCells s:=by
  unfold Lib.strCells;rw[ByteArray.data_append,Array.toList_append,List.map_append]
 exact⟨.inr (by rw[e];exact h),hk,hb⟩
theorem PrT.cell(h:PrT w0 W m gt b A0 c0 xs){a:Addr}{v:Value}(hc:w0.cell? a=some v):W.cell? a=some v:=pw_cell_below h.low hc
theorem PrT.below(h:PrT w0 W m gt b A0 c0 xs)(hb:Below W.heap.size W W2):PrT w0 W2 m gt b A0 c0 xs:=⟨blk_below h.bt hb,h.ne,h.c,below_step h.low hb,h.hle,h.hm⟩
theorem PrT.step(h:PrT w0 W m gt b A0 c0 xs)(ht:TxB W W2 b acc):PrT w0 W2 m gt b A0 c0 xs:=⟨ht.oth gt _ h.bt (fun e=>h.ne (by injection e)) (fun c z e=>by cases e),h.ne,h.c,below_weaken h.low h.hle ht.low,h.hle,h.hm⟩
theorem PrS.below(h:PrS w0 w W m gt b A0 c0 xs acc gn x A2 A5 c2 c5)(hb:Below W.heap.size W W2):PrS w0 w W2 m gt b A0 c0 xs acc gn x A2 A5 c2 c5:=⟨h.t.below hb,h.tx.below hb,blk_below h.bn hb,h.nb⟩
theorem PrS.step(h:PrS w0 w W m gt b A0 c0 xs acc gn x A2 A5 c2 c5)(ht:TxB W W2 b acc2):PrS w0 w W2 m gt b A0 c0 xs acc2 gn x A2 A5 c2 c5:=⟨h.t.step ht,h.tx.trans ht,ht.oth gn _ h.bn (fun e=>h.nb (by injection e)) (fun c z e=>by cases e),h.nb⟩
theorem PrS.hm(h:PrS w0 w W m gt b A0 c0 xs acc gn x A2 A5 c2 c5):W.cell? ⟨0,0,none⟩=some (.int .i64 m):=h.t.cell h.t.hm
theorem ws_calls(h:Lib.IsBuilderF 47 5 b b (Lib.strCells acc) W)(hs:acc.size+s.size≤140737488355328):Calls Tryz.prog 35 #[.pointer (some ⟨b,0,none⟩), .string s] W fun e w'=>e= .returned (.tuple #[.int .i64 s.size, .nilIface])∧TxB W w' b (acc++s):=
 (Tryz.Builder_WriteString_k b b (Lib.strCells acc) s W h (by rw[Lib.strCells_length];exact hs) (Nat.le_of_lt (TxB.start h).lt)).mono (fun e w6 h_=>by obtain⟨rfl,h1,hb,hk⟩:=h_;exact⟨rfl,TxB.write h1 hb hk⟩)
end
abbrev PrAt(k:Nat):Prop:= ∀(m:Int) (gt b c0:Nat) (A0:Option Addr) (xs:List S41) (acc r:ByteArray) (i:Int) (w0 w:World),PrT w0 w m gt b A0 c0 xs→Lib.IsBuilderF 47 5 b b (Lib.strCells acc) w→impl_Tree_print.f k xs acc i=some r→Calls Tryz.prog 43 #[.pointer (some ⟨gt,0,none⟩), .pointer (some ⟨b,0,none⟩), .int .i64 i] w fun e w'=>e= .returned (.tuple #[])∧TxB w w' b r
theorem impl_print.kids(k:Nat)(hp:PrAt k)(m:Int)(gt b c0:Nat)(A0:Option Addr)(xs:List S41)(acc r:ByteArray)(i:Int)(w0 w:World)(HT0:PrT w0 w m gt b A0 c0 xs)(HB0:Lib.IsBuilderF 47 5 b b (Lib.strCells acc) w)(h:impl_Tree_printKids.f k xs acc i=some r):
 Calls Tryz.prog 21 #[.pointer (some ⟨gt,0,none⟩), .pointer (some ⟨b,0,none⟩), .int .i64 i] w fun e w'=>e= .returned (.tuple #[])∧TxB w w' b r:=by
 unfold impl_Tree_printKids.f impl_print.kf at h;by_cases c1:0≤i
 ·rw[if_pos c1]at h;by_cases c2:i<(xs.length:Int)
  ·rw[if_pos c2]at h;have HP:=Ak hp;have HT:=Ak HT0;have HX:=Ak (TxB.start HB0);have HA:=Ak h;obtain⟨ad,A_2,c_2,A_5,c_5,e1,hx0,hx1,hx2,hx3,hx4,hx5,hl2,hi2,hl5,hi5⟩:=at_T41 HT.out.c i c1 c2;subst e1;have HI5:=Ak hi5;have hx5:=HT.out.cell hx5;have hct:=blk_cell HT.out.bt 0;clear hp HT0 HB0 h hx0 hx1 hx2 hx3 hx4 hl2 hi2 hl5 hi5;replace c1:=eq_true c1;replace c2:=eq_true c2;generalize (rd_T41 xs i).f5=ks at*;go_enter Tryz.func21,Tryz.ntmps21;go_wp2;clear hx5 hct c1 c2;go_loopg [17] k (fun kq v17 w'=> ∃(j:Int) (a:ByteArray),v17= .int .i64 j∧Aside0 (impl_print.lk (fun b j=>impl_Tree_print.f k xs b j) kq a ks j=some r)∧Aside0 (kq≤k)∧Aside0 (TxB w w' b a));case atStart=>exact⟨0,_,rfl,HA,⟨Nat.le_refl _⟩,HX⟩
   case round=>
    clear HA HX;obtain⟨j,a,rfl,HA,HK,HX⟩:=hrel;cases gk with
    |zero=>exact absurd HA.out (by simp [impl_print.lk])
    |succ k1=>
     have H:=HA.out;clear HA;simp only[impl_print.lk]at H;by_cases g1:j<(ks.length:Int)
     ·rw[if_pos g1]at H;by_cases g2:0≤j
      ·rw[if_pos g2]at H;obtain⟨a2,A1,H⟩:=Ob H;have HA:=Ak H;have HA1:=Ak A1;clear H A1;have g1b:decide (j<(ks.length:Int))=true:=decide_eq_true g1;obtain⟨ak,e2,hy0⟩:=Kd.at_int HI5.out j g2 g1;subst e2;have HT2:=Ak (HT.out.step HX.out);have hy0:=HT2.out.cell hy0;replace g1:=eq_true g1;replace g2:=eq_true g2;go_wp2_with (first|(go_at_call 43;(with_reducible refine(HP.out m gt b c0 (some ad) xs a a2 (rd ks j) w0 _ HT2.out HX.out.bld HA1.out).mono ?_);rintro e w3 ⟨rfl,ht⟩;have HX3:=Ak (HX.out.trans ht);clear ht));go_roundg k1;case measure=>have:=HK.out;omega
       case rel=>exact⟨_,_,rfl,HA,⟨by have:=HK.out;omega⟩,HX3⟩
      ·rw[if_neg g2]at H;cases H
     ·rw[if_neg g1]at H;obtain rfl:=Oi H;clear H;have g1b:decide (j<(ks.length:Int))=false:=decide_eq_false g1;clear g1;go_wp2;(try simp only[Exit.inBlock,Exit.then]);refine bodyPost_end (results_list (rs:= []) rfl (by simp) .nil) rfl ?_;exact⟨rfl,HX.out⟩
  ·rw[if_neg c2]at h;cases h
 ·rw[if_neg c1]at h;cases h
theorem esc_size(s:ByteArray)(v:Bool)(h:s.size≤1048576):(impl_Escape.f s v).size≤4294967296:=by
 have k1:=(rb_ok s ⟨#[38]⟩ ⟨#[38,97,109,112,59]⟩ (by decide)).1;have k2:=(rb_ok (rb s ⟨#[38]⟩ ⟨#[38,97,109,112,59]⟩) ⟨#[194,160]⟩ ⟨#[38,110,98,115,112,59]⟩ (by decide)).1;unfold impl_Escape.f;generalize rb (rb s ⟨#[38]⟩ ⟨#[38,97,109,112,59]⟩) ⟨#[194,160]⟩ ⟨#[38,110,98,115,112,59]⟩=s2 at k2⊢;have k3:=(rb_ok s2 ⟨#[34]⟩ ⟨#[38,113,117,111,116,59]⟩ (by decide)).1;have k4:=(rb_ok s2 ⟨#[60]⟩ ⟨#[38,108,116,59]⟩ (by decide)).1;have k5:=(rb_ok (rb s2 ⟨#[60]⟩ ⟨#[38,108,116,59]⟩) ⟨#[62]⟩ ⟨#[38,103,116,59]⟩ (by decide)).1;rw[show(⟨#[38,97,109,112,59]⟩:ByteArray).size=5 from rfl]at k1;rw[show(⟨#[38,110,98,115,112,59]⟩:ByteArray).size=6 from rfl]at k2;rw[show(⟨#[38,113,117,111,116,59]⟩:ByteArray).size=6 from rfl]at k3;rw[show(⟨#[38,108,116,59]⟩:ByteArray).size=4 from rfl]at k4;rw[show(⟨#[38,103,116,59]⟩:ByteArray).size=4 from rfl]at k5;split<;>omega
theorem wrB_le{acc s r:ByteArray}(h:wrB acc s=some r):acc.size+s.size≤140737488355328∧r=acc++s:=by
 unfold wrB at h;by_cases c:acc.size+s.size≤140737488355328
 ·rw[if_pos c]at h;exact⟨c,(Oi h).symm⟩
 ·rw[if_neg c]at h;cases h
structure PrG(w0 w W:World)(m:Int)(gt b:Nat)(A0:Option Addr)(c0:Nat)(xs:List S41)(acc:ByteArray)(gn:Nat)(x:S41)(A2 A5:Option Addr)(c2 c5:Nat)(ga:Nat)(y:S72):Prop where
 s:PrS w0 w W m gt b A0 c0 xs acc gn x A2 A5 c2 c5
 ba:W.heap[ga]? =some (.cells #[.string y.f0, .string y.f1] 72 (0,0))
 na:ga≠b
section
variable {w0 w w4 W W2:World} {m:Int} {gt b gn ga c0 c2 c5:Nat} {A0 A2 A5:Option Addr} {xs:List S41} {acc acc2 s:ByteArray} {x:S41} {y:S72}
theorem PrG.below(h:PrG w0 w W m gt b A0 c0 xs acc gn x A2 A5 c2 c5 ga y)(hb:Below W.heap.size W W2):PrG w0 w W2 m gt b A0 c0 xs acc gn x A2 A5 c2 c5 ga y:=⟨h.s.below hb,blk_below h.ba hb,h.na⟩
theorem PrG.step(h:PrG w0 w W m gt b A0 c0 xs acc gn x A2 A5 c2 c5 ga y)(ht:TxB W W2 b acc2):PrG w0 w W2 m gt b A0 c0 xs acc2 gn x A2 A5 c2 c5 ga y:=⟨h.s.step ht,ht.oth ga _ h.ba (fun e=>h.na (by injection e)) (fun c z e=>by cases e),h.na⟩
theorem PrG.drew(h:PrG w0 w W m gt b A0 c0 xs acc gn x A2 A5 c2 c5 ga y):PrG w0 w W.drew m gt b A0 c0 xs acc gn x A2 A5 c2 c5 ga y:=h.below (pw_below_drewN (Below.refl _ _) 1)
theorem PrS.drewN(h:PrS w0 w W m gt b A0 c0 xs acc gn x A2 A5 c2 c5)(n:Nat):PrS w0 w (W.drewN n) m gt b A0 c0 xs acc gn x A2 A5 c2 c5:=h.below (pw_below_drewN (Below.refl _ _) n)
theorem wb_calls(h:Lib.IsBuilderF 47 5 b b (Lib.strCells acc) W)(hs:acc.size+1≤140737488355328):Calls Tryz.prog 67 #[.pointer (some ⟨b,0,none⟩), .int .u8 62] W fun e w'=>e= .returned .nilIface∧TxB W w' b (acc++(⟨#[62]⟩:ByteArray)):=
 (Tryz.Builder_WriteByte_k b b (Lib.strCells acc) 62 W h (by rw[Lib.strCells_length];exact hs) (Nat.le_of_lt (TxB.start h).lt)).mono (fun e w6 h_=>by obtain⟨rfl,h1,hb,hk⟩:=h_;exact⟨rfl,TxB.write (s:=(⟨#[62]⟩:ByteArray)) h1 hb hk⟩)
end
theorem impl_print.step(k:Nat)(hp:PrAt k):PrAt (k+1):=by
 intro m gt b c0 A0 xs acc r i w0 w HT0 HB0 h;simp only[impl_Tree_print.f]at h;by_cases c1:0≤i;case neg=>rw[if_neg c1]at h;cases h
 rw[if_pos c1]at h;by_cases c2:i<(xs.length:Int);case neg=>rw[if_neg c2]at h;cases h
 rw[if_pos c2]at h;have HP:=Ak (impl_print.kids k hp m gt b c0 A0 xs);have HT:=Ak HT0;have HX:=Ak (TxB.start HB0);have HA:=Ak h;obtain⟨ad,A_2,c_2,A_5,c_5,e1,hx0,hx1,hx2,hx3,hx4,hx5,hl2,hi2,hl5,hi5⟩:=at_T41 HT.out.c i c1 c2;subst e1;have HI2:=Ak hi2;have hx0:=HT.out.cell hx0;have hx1:=HT.out.cell hx1;have hx2:=HT.out.cell hx2;have hx3:=HT.out.cell hx3;have hx4:=HT.out.cell hx4;have hx5:=HT.out.cell hx5;have hct:=blk_cell HT.out.bt 0;clear hp HT0 HB0 h hl2 hi2 hl5 hi5;replace c1:=eq_true c1;replace c2:=eq_true c2;generalize rd_T41 xs i=x at*;go_enter Tryz.func43,Tryz.ntmps43;go_upto_region 1 with(fail)
 have hX:=blk_new w (.cells #[.int .i64 x.f0, .string x.f1, .slice A_2 x.f2.length c_2, .string x.f3, .int .i64 x.f4, .slice A_5 x.f5.length c_5] 41);have hl:=below_alloc (Below.refl w.heap.size w) (.cells #[.int .i64 x.f0, .string x.f1, .slice A_2 x.f2.length c_2, .string x.f3, .int .i64 x.f4, .slice A_5 x.f5.length c_5] 41);generalize w.alloc (.cells #[.int .i64 x.f0, .string x.f1, .slice A_2 x.f2.length c_2, .string x.f3, .int .i64 x.f4, .slice A_5 x.f5.length c_5] 41)=w3 at hX hl⊢;have HNB:=Ak (show w.heap.size≠b from Nat.ne_of_gt HX.out.lt);have HS:=Ak (show PrS w0 w w3 m gt b (some ad) c0 xs acc w.heap.size x A_2 A_5 c_2 c_5 from⟨HT.out.below hl,HX.out.below hl,hX,HNB.out⟩);clear hl hX hx0 hx1 hx2 hx3 hx4 hx5 hct HT HX c1 c2 HNB;generalize w.heap.size=gn at HS⊢;have hn0:=blk_cell HS.out.bn 0;have H:=HA.out;clear HA;unfold impl_print.n at H;by_cases z1:x.f1.size≤1048576∧x.f3.size≤1048576;case neg=>rw[if_neg z1]at H;cases H
 rw[if_pos z1]at H;obtain⟨z1,z3⟩:=z1;have zD:(⟨#[60,33,68,79,67,84,89,80,69,32]⟩:ByteArray).size=10:=rfl;have zG:(⟨#[62]⟩:ByteArray).size=1:=rfl;have zC:(⟨#[60,33,45,45]⟩:ByteArray).size=4:=rfl;have zE:(⟨#[45,45,62]⟩:ByteArray).size=3:=rfl;have zL:(⟨#[60]⟩:ByteArray).size=1:=rfl;have zS:(⟨#[60,47]⟩:ByteArray).size=2:=rfl;by_cases e2:x.f0=2
 ·rw[if_pos e2]at H;have e2b:(x.f0==2)=true:=beq_iff_eq.2 e2;clear e2;obtain⟨c3,rfl⟩:=wrB_le H;have HSZA:=Ak c3;clear H c3;have hn1:=blk_cell HS.out.bn 1;go_wp2_with (first|(go_at_call 35;(with_reducible refine(ws_calls (s:=(⟨#[60,33,68,79,67,84,89,80,69,32]⟩:ByteArray)++x.f1++(⟨#[62]⟩:ByteArray)) HS.out.tx.bld HSZA.out).mono ?_);rintro e w4 ⟨rfl,ht⟩;have HXA:=Ak (HS.out.step ht);clear ht));(try simp only[Exit.inBlock,Exit.then]);refine bodyPost_end (results_list (rs:= []) rfl (by simp) .nil) rfl ?_;exact⟨rfl,HXA.out.tx⟩
 rw[if_neg e2]at H;have e2b:(x.f0==2)=false:=beq_eq_false_iff_ne.2 e2;clear e2;by_cases e5:x.f0=5
 ·rw[if_pos e5]at H;have e5b:(x.f0==5)=true:=beq_iff_eq.2 e5;clear e5;obtain⟨c3,rfl⟩:=wrB_le H;have HSZA:=Ak c3;clear H c3;have hn3:=blk_cell HS.out.bn 3;go_wp2_with (first|(go_at_call 35;(with_reducible refine(ws_calls (s:=(⟨#[60,33,45,45]⟩:ByteArray)++x.f3++(⟨#[45,45,62]⟩:ByteArray)) HS.out.tx.bld HSZA.out).mono ?_);rintro e w4 ⟨rfl,ht⟩;have HXA:=Ak (HS.out.step ht);clear ht));(try simp only[Exit.inBlock,Exit.then]);refine bodyPost_end (results_list (rs:= []) rfl (by simp) .nil) rfl ?_;exact⟨rfl,HXA.out.tx⟩
 rw[if_neg e5]at H;have e5b:(x.f0==5)=false:=beq_eq_false_iff_ne.2 e5;clear e5;by_cases e4:x.f0=4
 ·rw[if_pos e4]at H;have e4b:(x.f0==4)=true:=beq_iff_eq.2 e4;clear e4;obtain⟨q,A1,H⟩:=Ob H;have hn3:=blk_cell HS.out.bn 3;have hn4:=blk_cell HS.out.bn 4;have hct:=blk_cell HS.out.t.bt 0;have hm:=HS.out.hm;unfold impl_print.raw at A1;by_cases d1:0≤x.f4
  ·rw[if_pos d1]at A1;by_cases d2:x.f4<(xs.length:Int)
   ·rw[if_pos d2]at A1;have d1b:decide (0≤x.f4)=true:=decide_eq_true d1;obtain⟨ad',B_2,d_2,B_5,d_5,e1,hy0,hy1,hy2,hy3,hy4,hy5,hl2,hi2,hl5,hi5⟩:=at_T41 HS.out.t.c x.f4 d1 d2;injection e1 with e1
    subst e1;have hy0:=HS.out.t.cell hy0;have hy1:=HS.out.t.cell hy1;clear hy2 hy3 hy4 hy5 hl2 hi2 hl5 hi5;replace d1:=eq_true d1;replace d2:=eq_true d2;by_cases d3:(rd_T41 xs x.f4).f0=3
    ·rw[if_pos d3]at A1;have d3b:((rd_T41 xs x.f4).f0==3)=true:=beq_iff_eq.2 d3;clear d3;by_cases z6:(rd_T41 xs x.f4).f1.size≤1048576
     ·rw[if_pos z6]at A1;obtain rfl:=Oi A1;clear A1;go_upto_region 7 with(fail)
      cases hq:oneOf (rd_T41 xs x.f4).f1 words_IsRaw with
      |true=>
       rw[hq]at H;go_quiet ((go_at_call 65;(with_reducible refine(impl_IsRaw.calls (rd_T41 xs x.f4).f1 m _ z6 (cell_at rfl hm)).mono ?_);rintro e w' ⟨rfl,⟨nd,rfl⟩⟩;(first|exact⟨rfl,_,rfl⟩|exact⟨rfl,_,World.drewN_drewN _ _ _⟩)));try rw[hq]
       rw[if_pos rfl]at H;obtain⟨c3,rfl⟩:=wrB_le H;have HSZA:=Ak c3;clear H c3;go_wp2_with (first|(go_at_call 35;(with_reducible refine(ws_calls (s:=x.f3) (HS.out.drewN _).tx.bld HSZA.out).mono ?_);rintro e w5 ⟨rfl,ht⟩;have HXA:=Ak ((HS.out.drewN _).step ht);clear ht));(try simp only[Exit.inBlock,Exit.then]);refine bodyPost_end (results_list (rs:= []) rfl (by simp) .nil) rfl ?_;exact⟨rfl,HXA.out.tx⟩
      |false=>
       rw[hq]at H;go_quiet ((go_at_call 65;(with_reducible refine(impl_IsRaw.calls (rd_T41 xs x.f4).f1 m _ z6 (cell_at rfl hm)).mono ?_);rintro e w' ⟨rfl,⟨nd,rfl⟩⟩;(first|exact⟨rfl,_,rfl⟩|exact⟨rfl,_,World.drewN_drewN _ _ _⟩)));try rw[hq]
       rw[if_neg (by decide)]at H;obtain⟨c3,rfl⟩:=wrB_le H;have HSZA:=Ak c3;clear H c3;go_wp2_with (first|(go_at_call 66;(with_reducible refine(impl_Escape.calls x.f3 false m _ z3 (HS.out.drewN _).hm).mono ?_);rintro e w4 ⟨rfl,hb⟩;have HE:=Ak ((HS.out.drewN _).below hb);clear hb)|(go_at_call 35;(with_reducible refine(ws_calls (s:=impl_Escape.f x.f3 false) HE.out.tx.bld HSZA.out).mono ?_);rintro e w5 ⟨rfl,ht⟩;have HXA:=Ak (HE.out.step ht);clear ht));(try simp only[Exit.inBlock,Exit.then]);refine bodyPost_end (results_list (rs:= []) rfl (by simp) .nil) rfl ?_;exact⟨rfl,HXA.out.tx⟩
     ·rw[if_neg z6]at A1;cases A1
    ·rw[if_neg d3]at A1;obtain rfl:=Oi A1;clear A1;have d3b:((rd_T41 xs x.f4).f0==3)=false:=beq_eq_false_iff_ne.2 d3;clear d3;go_upto_region 7 with(fail)
     go_quiet (fail);rw[if_neg (by decide)]at H;obtain⟨c3,rfl⟩:=wrB_le H;have HSZA:=Ak c3;clear H c3;go_wp2_with (first|(go_at_call 66;(with_reducible refine(impl_Escape.calls x.f3 false m _ z3 (HS.out.drewN _).hm).mono ?_);rintro e w4 ⟨rfl,hb⟩;have HE:=Ak ((HS.out.drewN _).below hb);clear hb)|(go_at_call 35;(with_reducible refine(ws_calls (s:=impl_Escape.f x.f3 false) HE.out.tx.bld HSZA.out).mono ?_);rintro e w5 ⟨rfl,ht⟩;have HXA:=Ak (HE.out.step ht);clear ht));(try simp only[Exit.inBlock,Exit.then]);refine bodyPost_end (results_list (rs:= []) rfl (by simp) .nil) rfl ?_;exact⟨rfl,HXA.out.tx⟩
   ·rw[if_neg d2]at A1;cases A1
  ·rw[if_neg d1]at A1;obtain rfl:=Oi A1;clear A1;have d1b:decide (0≤x.f4)=false:=decide_eq_false d1;clear d1;go_upto_region 7 with(fail)
   go_quiet (fail);rw[if_neg (by decide)]at H;obtain⟨c3,rfl⟩:=wrB_le H;have HSZA:=Ak c3;clear H c3;go_wp2_with (first|(go_at_call 66;(with_reducible refine(impl_Escape.calls x.f3 false m _ z3 (HS.out.drewN _).hm).mono ?_);rintro e w4 ⟨rfl,hb⟩;have HE:=Ak ((HS.out.drewN _).below hb);clear hb)|(go_at_call 35;(with_reducible refine(ws_calls (s:=impl_Escape.f x.f3 false) HE.out.tx.bld HSZA.out).mono ?_);rintro e w5 ⟨rfl,ht⟩;have HXA:=Ak (HE.out.step ht);clear ht));(try simp only[Exit.inBlock,Exit.then]);refine bodyPost_end (results_list (rs:= []) rfl (by simp) .nil) rfl ?_;exact⟨rfl,HXA.out.tx⟩
 rw[if_neg e4]at H;have e4b:(x.f0==4)=false:=beq_eq_false_iff_ne.2 e4;clear e4;by_cases e3:x.f0=3;case neg=>
  rw[if_neg e3]at H;obtain rfl:=Oi H;clear H;have e3b:(x.f0==3)=false:=beq_eq_false_iff_ne.2 e3;clear e3;go_wp2;(try simp only[Exit.inBlock,Exit.then]);refine bodyPost_end (results_list (rs:= []) rfl (by simp) .nil) rfl ?_;exact⟨rfl,HS.out.tx⟩
 rw[if_pos e3]at H;have e3b:(x.f0==3)=true:=beq_iff_eq.2 e3;clear e3;obtain⟨a1,A1,H⟩:=Ob H;obtain⟨c3,rfl⟩:=wrB_le A1;have HSZA:=Ak c3;clear A1 c3;obtain⟨a2,A1,H⟩:=Ob H;have HL:=Ak A1;have HA:=Ak H;clear A1 H;have hn1:=blk_cell HS.out.bn 1;go_upto_region 12 with(first|(go_at_call 35;(with_reducible refine(ws_calls (s:=(⟨#[60]⟩:ByteArray)++x.f1) HS.out.tx.bld HSZA.out).mono ?_);rintro e w4 ⟨rfl,ht⟩;have HXA:=Ak (HS.out.step ht);clear ht))
 clear hn0 hn1;have hn2:=blk_cell HXA.out.bn 2;go_wp2;clear hn2 HS;go_loopg [82] k (fun kq v82 w'=> ∃(j:Int) (a:ByteArray),v82= .int .i64 j∧Aside0 (impl_print.la kq a x.f2 j=some a2)∧Aside0 (kq≤k)∧Aside0 (PrS w0 w w' m gt b (some ad) c0 xs a gn x A_2 A_5 c_2 c_5));case atStart=>exact⟨0,_,rfl,HL,⟨Nat.le_refl _⟩,HXA⟩
 case round=>
  clear HL HXA;obtain⟨j,a,rfl,HL,HK,HXA⟩:=hrel;cases gk with
  |zero=>exact absurd HL.out (by simp [impl_print.la])
  |succ k1=>
   have H:=HL.out;clear HL;simp only[impl_print.la]at H;by_cases g1:j<(x.f2.length:Int)
   ·rw[if_pos g1]at H;by_cases g2:0≤j
    ·rw[if_pos g2]at H;by_cases g3:(rd_T72 x.f2 j).f0.size≤1048576∧(rd_T72 x.f2 j).f1.size≤1048576
     ·rw[if_pos g3]at H;obtain⟨b2,A1,H⟩:=Ob H;have HL:=Ak H;clear H;have g1b:decide (j<(x.f2.length:Int))=true:=decide_eq_true g1;obtain⟨ak,e2,hy0,hy1⟩:=at_T72 HI2.out j g2 g1;subst e2;have hy0:=HXA.out.t.cell hy0;have hy1:=HXA.out.t.cell hy1;replace g1:=eq_true g1;replace g2:=eq_true g2;generalize rd_T72 x.f2 j=y at*;go_upto_region 15 with(fail)
      have hX:=blk_new wr (.cells #[.string y.f0, .string y.f1] 72);have hl:=below_alloc (Below.refl wr.heap.size wr) (.cells #[.string y.f0, .string y.f1] 72);generalize wr.alloc (.cells #[.string y.f0, .string y.f1] 72)=w5 at hX hl⊢;have HNB:=Ak (show wr.heap.size≠b from Nat.ne_of_gt HXA.out.tx.lt);have HG:=Ak (show PrG w0 w w5 m gt b (some ad) c0 xs a gn x (some ak) A_5 c_2 c_5 wr.heap.size y from⟨HXA.out.below hl,hX,HNB.out⟩);clear hl hX hy0 hy1 HNB;generalize wr.heap.size=ga at HG⊢;obtain⟨y1,y3⟩:=g3;unfold impl_print.at at A1;have zz:=esc_size y.f1 true y3;have HI:=Ak (fun w1 hm1=>impl_Escape.calls y.f1 true m w1 y3 hm1);generalize impl_Escape.f y.f1 true=zt at A1 zz HI;obtain⟨c3,rfl⟩:=wrB_le A1;have HSZB:=Ak c3;clear A1 c3;have zP:(9223372036854775807<1+y.f0.size)=False:=eq_false (by omega);have zQ:(9223372036854775807<1+y.f0.size+2)=False:=eq_false (by omega);have zR:(9223372036854775807<1+y.f0.size+2+zt.size)=False:=eq_false (by omega);have zT:(9223372036854775807<1+y.f0.size+2+zt.size+1)=False:=eq_false (by omega);have HGD:=Ak HG.out.drew;have hy0:=blk_cell HG.out.ba 0;have hy1:=blk_cell HG.out.ba 1;go_region_held3 (fun w'=>w'.cell? ⟨ga,0,none⟩=some (.string y.f0)∧w'.cell? ⟨ga,1,none⟩=some (.string y.f1)) (first|exact⟨hy0,hy1⟩|exact⟨hy0A,hy1A⟩|exact⟨hy0B,hy1B⟩) (first|(go_at_call 66;(refine(HI.out _ HGD.out.s.hm).mono ?_);rintro e w6 ⟨rfl,hb⟩;have HGA:=Ak (HGD.out.below hb);have hy0A:=blk_cell HGA.out.ba 0;have hy1A:=blk_cell HGA.out.ba 1;clear hb)|(go_at_call 35;(with_reducible refine(ws_calls (s:=(⟨#[32]⟩:ByteArray)++y.f0++(⟨#[61,34]⟩:ByteArray)++zt++(⟨#[34]⟩:ByteArray)) HGA.out.s.tx.bld HSZB.out).mono ?_);rintro e w7 ⟨rfl,ht⟩;have HGB:=Ak (HGA.out.step ht);have hy0B:=blk_cell HGB.out.ba 0;have hy1B:=blk_cell HGB.out.ba 1;clear ht));clear hy0 hy1 hy0A hy1A hy0B hy1B;go_wp2;go_roundg k1;case measure=>have:=HK.out;omega
      case rel=>exact⟨_,_,rfl,HL,⟨by have:=HK.out;omega⟩,⟨HGB.out.s⟩⟩
     ·rw[if_neg g3]at H;cases H
    ·rw[if_neg g2]at H;cases H
   ·rw[if_neg g1]at H;obtain rfl:=Oi H;clear H;have g1b:decide (j<(x.f2.length:Int))=false:=decide_eq_false g1;clear g1;have H:=HA.out;clear HA;obtain⟨a3,A1,H⟩:=Ob H;obtain⟨c3,rfl⟩:=wrB_le A1;have HSZC:=Ak (show a.size+1≤140737488355328 by rw[zG]at c3;exact c3);clear A1 c3;have hm:=HXA.out.hm;have hn1:=blk_cell HXA.out.bn 1;cases hq:oneOf x.f1 words_IsVoid with
    |true=>
     rw[hq,if_pos rfl]at H;obtain rfl:=Oi H;clear H;go_wp2_with (first|(go_at_call 67;(with_reducible refine(wb_calls HXA.out.tx.bld HSZC.out).mono ?_);rintro e wC ⟨rfl,ht⟩;have HXC:=Ak (HXA.out.step ht);have hmC:=HXC.out.hm;have hn1C:=blk_cell HXC.out.bn 1;clear ht)|(go_at_call 68;(with_reducible refine(impl_IsVoid.calls x.f1 m _ z1 hmC).mono ?_);rintro e wV ⟨rfl,⟨nd,rfl⟩⟩;rw[hq];have HXV:=Ak (HXC.out.drewN nd)));(try simp only[Exit.inBlock,Exit.then]);refine bodyPost_end (results_list (rs:= []) rfl (by simp) .nil) rfl ?_;exact⟨rfl,HXV.out.tx⟩
    |false=>
     rw[hq,if_neg (by decide)]at H;obtain⟨a4,A1,H⟩:=Ob H;have HKA:=Ak (show impl_Tree_printKids.f k xs (a++(⟨#[62]⟩:ByteArray)) i=some a4 from A1);obtain⟨c3,rfl⟩:=wrB_le H;have HSZE:=Ak c3;clear A1 H c3;go_wp2_with (first|(go_at_call 67;(with_reducible refine(wb_calls HXA.out.tx.bld HSZC.out).mono ?_);rintro e wC ⟨rfl,ht⟩;have HXC:=Ak (HXA.out.step ht);have hmC:=HXC.out.hm;have hn1C:=blk_cell HXC.out.bn 1;clear ht)|(go_at_call 68;(with_reducible refine(impl_IsVoid.calls x.f1 m _ z1 hmC).mono ?_);rintro e wV ⟨rfl,⟨nd,rfl⟩⟩;rw[hq];have HXV:=Ak (HXC.out.drewN nd))|(go_at_call 21;(with_reducible refine(HP.out (a++(⟨#[62]⟩:ByteArray)) a4 i w0 _ HXV.out.t HXV.out.tx.bld HKA.out).mono ?_);rintro e wD ⟨rfl,ht⟩;have HXD:=Ak (HXV.out.step ht);have hn1D:=blk_cell HXD.out.bn 1;clear ht)|(go_at_call 35;(with_reducible refine(ws_calls (s:=(⟨#[60,47]⟩:ByteArray)++x.f1++(⟨#[62]⟩:ByteArray)) HXD.out.tx.bld HSZE.out).mono ?_);rintro e wE ⟨rfl,ht⟩;have HXE:=Ak (HXD.out.step ht);clear ht));(try simp only[Exit.inBlock,Exit.then]);refine bodyPost_end (results_list (rs:= []) rfl (by simp) .nil) rfl ?_;exact⟨rfl,HXE.out.tx⟩
theorem impl_print.all: ∀k,PrAt k
 |0=>fun m gt b c0 A0 xs acc r i w0 w _ _ h=>by simp [impl_Tree_print.f]at h
 |k+1=>impl_print.step k (impl_print.all k)
theorem impl_Tree_print.calls(k:Nat):PrAt k:=impl_print.all k
theorem impl_Tree_printKids.calls(k:Nat)(m:Int)(gt b c0:Nat)(A0:Option Addr)(xs:List S41)(acc r:ByteArray)(i:Int)(w0 w:World)(HT0:PrT w0 w m gt b A0 c0 xs)(HB0:Lib.IsBuilderF 47 5 b b (Lib.strCells acc) w)(h:impl_Tree_printKids.f k xs acc i=some r):
 Calls Tryz.prog 21 #[.pointer (some ⟨gt,0,none⟩), .pointer (some ⟨b,0,none⟩), .int .i64 i] w fun e w'=>e= .returned (.tuple #[])∧TxB w w' b r:=impl_print.kids k (impl_print.all k) m gt b c0 A0 xs acc r i w0 w HT0 HB0 h
def impl_PrintOf.f(k:Nat)(xs:List S41):Option ByteArray:=(impl_TreeOk.f k xs).bind fun u=>if u=true then impl_Tree_printKids.f k xs ⟨#[]⟩ 0 else some ⟨#[]⟩
theorem impl_PrintOf.mono: ∀a0 k,LeO (impl_PrintOf.f k a0) (impl_PrintOf.f (k+1) a0):=fun a0 k=>LeO.bind (impl_TreeOk.mono _ k) (fun _=>LeO.ite (impl_Tree_printKids.mono _ _ _ k) (LeO.refl _))
theorem impl_PrintOf.calls(k:Nat)(A0:Option Addr)(c0:Nat)(xs:List S41)(r:ByteArray)(m:Int)(w:World)(hr0:Kd.C k41 w A0 xs.length xs)(hc0:xs.length≤c0)(hm:w.cell? ⟨0,0,none⟩=some (.int .i64 m))(h:impl_PrintOf.f k xs=some r):
 Calls Tryz.prog 8 #[.agg #[.slice A0 xs.length c0]] w fun e w'=>e= .returned (.string r)∧Below w.heap.size w w':=by
 have HC:=Ak hr0;have HCC:=Ak hc0;have HM:=Ak hm;clear hr0 hc0 hm;unfold impl_PrintOf.f at h;obtain⟨u,A2,h⟩:=Ob h;replace A2:=Ak A2;go_enter Tryz.func8,Tryz.ntmps8;go_upto_region 1 with(first
  |((with_reducible refine gate_dst (N:=1) rfl ?_);refine box_event ?hg (N:=1) ?hd (cs:= #[.slice A0 xs.length c0]) (t:=29) ?hr ?_;(case hd=>rfl);(case hg=>rfl);(case hr=>first|(go_simp;done)|(go_simp;rfl));intro gt hg w1 hbox hb;have HX:=Ak (show BoxW w w1 gt A0 xs.length c0 from⟨hbox,hb,by rw[hg];exact Nat.le_refl _⟩);have hcb:=HX.out.cell;clear hbox hb hg))
 cases u with
 |false=>
  rw[if_neg (by decide)]at h;obtain rfl:=Oi h;clear h;go_wp2_with (first
   |(go_at_call 15;(with_reducible refine(impl_TreeOk.calls k _ _ xs false _ (Kd.C_below HC.out HX.out.low) HCC.out A2.out).mono ?_);rintro e w3 ⟨rfl,hb⟩;have HX3:=Ak (HX.out.below hb);clear hb))
  go_ret;exact⟨rfl,HX3.out.low⟩
 |true=>
  rw[if_pos rfl]at h;have HA:=Ak h;clear h;go_wp2_with (first
   |(go_at_call 15;(with_reducible refine(impl_TreeOk.calls k _ _ xs true _ (Kd.C_below HC.out HX.out.low) HCC.out A2.out).mono ?_);rintro e w3 ⟨rfl,hb⟩;have HX3:=Ak (HX.out.below hb);clear hb)
   |((with_reducible refine gate_dst (N:=3) rfl ?_);refine box_event ?hg (N:=3) ?hd (cs:= #[.pointer none, .slice none 0 0]) (t:=47) ?hr ?_;(case hd=>rfl);(case hg=>rfl);(case hr=>first|(go_simp;done)|(go_simp;rfl));intro b hg w4 hbox hb;have HX4:=Ak (HX3.out.below hb);have HBE:=Ak (show w.heap.size≤b by rw[hg];exact HX3.out.low.size);have HPT:=Ak (show PrT w w4 m gt b A0 c0 xs from⟨HX4.out.blk,by have:=blk_lt HX3.out.blk;omega,HC.out,HX4.out.low,HBE.out,HM.out⟩);have HBB:=Ak (show Lib.IsBuilderF 47 5 b b (Lib.strCells ⟨#[]⟩) w4 from .inl ⟨Nat.le_refl _,_,hbox,World.ownsRowF_nil _ _ _ _,by simp [Value.ownBlock]⟩);clear hbox hb hg)
   |(go_at_call 21;(with_reducible refine(impl_Tree_printKids.calls k m gt b c0 A0 xs _ r 0 w _ HPT.out HBB.out HA.out).mono ?_);rintro e w5 ⟨rfl,ht⟩;have HT5:=Ak ht;have HB5:=Ak (show Lib.IsBuilderF 47 5 b b (Lib.byteCells r.data.toList) w5 from ht.bld);clear ht)
   |(go_at_call 22;(with_reducible refine(Tryz.Builder_String_any_k b b r.data.toList _ HB5.out (Nat.le_of_lt HT5.out.lt)).mono ?_);rintro e w6 ⟨rfl,h1,hb,hk⟩;have HBZ:=Ak (below_weaken (below_weaken HX4.out.low HBE.out HT5.out.low) HBE.out hb);clear h1 hb hk))
  go_ret;exact⟨rfl,HBZ.out⟩
def laws_big.f(l0:List Int):Option (Bool):=some (decide ((l0.length:Int)>1048576))
theorem laws_big.calls(A0:Option Addr)(c0:Nat)(l0:List Int)(r:Bool)(w:World)(hr0:Kd.C (Kd.int .u8) w A0 l0.length l0)(hc0:l0.length≤c0)(h:laws_big.f l0=some r):
 Calls Tryz.prog 10 #[.slice A0 l0.length c0] w fun e w'=>e= .returned (.bool r)∧Drawn0 w w':=by
 have HR0:=Ak hr0;have HC0:=Ak hc0;clear hr0 hc0;have H:(some (decide ((l0.length:Int)>1048576)))=some r:=h;clear h;obtain rfl:=Oi H;go_enter Tryz.func10,Tryz.ntmps10;go_wp2;go_ret;exact⟨by first|rfl|(simp;done)|(simp [*];done),by repeat(first|exact Drawn0.refl _|apply Drawn0.step)⟩
def IsS81(w0 W:World)(g:Nat)(f0:List Int)(f1:Int)(f2:Int):Prop:= ∃A0 c0,W.heap[g]? =some (.cells #[.slice A0 f0.length c0, .int .i64 f1, .int .i64 f2] 81 (0,0))∧w0.heap.size≤g∧Kd.C (Kd.int .u8) w0 A0 f0.length f0
theorem IsS81.grown{w0 W:World}{g:Nat}{f0:List Int}{f1:Int}{f2:Int}{W1:World}{row:Option Nat}(h:IsS81 w0 W g f0 f1 f2)(hw:W.grownBy W1 row)(hne:some g≠row):IsS81 w0 W1 g f0 f1 f2:=by
 obtain⟨A0,c0,hb,hg,hr0⟩:=h;exact⟨A0,c0,blk_grown hb hw hne,hg,hr0⟩
theorem IsS81.own_neN{w0 W:World}{g:Nat}{f0:List Int}{f1:Int}{f2:Int}{α:Type}{d:Kd α}{e:Nat}{base:Nat}{ok:Nat→Prop}{v:Value}{xs:List α}(h:IsS81 w0 W g f0 f1 f2)(ho:Kd.N d e W base ok v xs)(ht:e≠81):some g≠v.ownBlock:=by
 obtain⟨A0,c0,hb,hg,hr0⟩:=h;exact Kd.N_ne ho hb ht
theorem IsS81.fresh{w0 W:World}{g:Nat}{f0:List Int}{f1:Int}{f2:Int}(h:IsS81 w0 W g f0 f1 f2): ∀k,W.heap.size≤k→k≠g:=by
 obtain⟨A0,c0,hb,hg,hr0⟩:=h;exact Kd.freshB hb
theorem IsS81.kept{w0 W:World}{g:Nat}{f0:List Int}{f1:Int}{f2:Int}{W1:World}{S:Nat→Prop}(h:IsS81 w0 W g f0 f1 f2)(hk:Kept W W1 S)(hne: ¬S g):IsS81 w0 W1 g f0 f1 f2:=by
 obtain⟨A0,c0,hb,hg,hr0⟩:=h;exact⟨A0,c0,blk_kept hb hk hne,hg,hr0⟩
theorem IsS81.below{w0 W:World}{g:Nat}{f0:List Int}{f1:Int}{f2:Int}{W1:World}(h:IsS81 w0 W g f0 f1 f2)(hw:Below W.heap.size W W1):IsS81 w0 W1 g f0 f1 f2:=h.grown (grown_of_below hw none) (by simp)
theorem IsS81.alloc{w0 W:World}{g:Nat}{f0:List Int}{f1:Int}{f2:Int}(h:IsS81 w0 W g f0 f1 f2)(o:Obj):IsS81 w0 (W.alloc o) g f0 f1 f2:=h.below (below_alloc (Below.refl _ _) o)
theorem IsS81.drewN{w0 W:World}{g:Nat}{f0:List Int}{f1:Int}{f2:Int}(h:IsS81 w0 W g f0 f1 f2)(m:Nat):IsS81 w0 (W.drewN m) g f0 f1 f2:=h
theorem IsS81.drew{w0 W:World}{g:Nat}{f0:List Int}{f1:Int}{f2:Int}(h:IsS81 w0 W g f0 f1 f2):IsS81 w0 W.drew g f0 f1 f2:=h
theorem IsS81.at_{w0 W:World}{g:Nat}{f0:List Int}{f1:Int}{f2:Int}{w':World}{m:Nat}(hq:W.drewN m=w')(h:IsS81 w0 W g f0 f1 f2):IsS81 w0 w' g f0 f1 f2:=by subst hq;exact IsS81.drewN h m
theorem IsS81.apart{w0 W:World}{g:Nat}{f0:List Int}{f1:Int}{f2:Int}{α:Type}{d:Kd α}{e:Nat}{base:Nat}{ok:Nat→Prop}{v:Value}{xs:List α}(h:IsS81 w0 W g f0 f1 f2)(ho:d.R e W base ok v xs)(ht: ∀q,q∈e::d.E→q≠81):d.R e W base (fun k=>ok k∧k≠g) v xs:=by
 obtain⟨A0,c0,hb,hg,hr0⟩:=h;exact Kd.R_types ho hb ht
theorem IsS81.own_ne{w0 W:World}{g:Nat}{f0:List Int}{f1:Int}{f2:Int}{α:Type}{d:Kd α}{e:Nat}{base:Nat}{ok:Nat→Prop}{v:Value}{xs:List α}(h:IsS81 w0 W g f0 f1 f2)(ho:d.R e W base ok v xs)(ht:e≠81):some g≠v.ownBlock:=by
 obtain⟨A0,c0,hb,hg,hr0⟩:=h;exact Kd.R_ne ho hb ht
theorem IsS81.apartQ{w0 W:World}{g:Nat}{f0:List Int}{f1:Int}{f2:Int}{α:Type}{d:Kd α}{e:Nat}{base:Nat}{ok:Nat→Prop}{v:Value}{xs:List α}(h:IsS81 w0 W g f0 f1 f2)(ho:d.Q e W base ok v xs)(ht: ∀q,q∈e::d.E→q≠81):d.Q e W base (fun k=>ok k∧k≠g) v xs:=by
 obtain⟨A0,c0,hb,hg,hr0⟩:=h;exact Kd.Q_types ho hb ht
theorem IsS81.own_neQ{w0 W:World}{g:Nat}{f0:List Int}{f1:Int}{f2:Int}{α:Type}{d:Kd α}{e:Nat}{base:Nat}{ok:Nat→Prop}{v:Value}{xs:List α}(h:IsS81 w0 W g f0 f1 f2)(ho:d.Q e W base ok v xs)(ht:e≠81):some g≠v.ownBlock:=by
 obtain⟨A0,c0,hb,hg,hr0⟩:=h;exact Kd.Q_ne ho hb ht
theorem IsS81.apartS{w0 W:World}{g:Nat}{f0:List Int}{f1:Int}{f2:Int}{α:Type}{d:Kd α}{e:Nat}{base:Nat}{ok:Nat→Prop}{v:Value}{xs:List α}(h:IsS81 w0 W g f0 f1 f2)(ho:d.S e W base ok v xs)(ht: ∀q,q∈e::d.E→q≠81):d.S e W base (fun k=>ok k∧k≠g) v xs:=by
 obtain⟨A0,c0,hb,hg,hr0⟩:=h;exact Kd.S_types ho hb ht
theorem IsS81.own_neS{w0 W:World}{g:Nat}{f0:List Int}{f1:Int}{f2:Int}{α:Type}{d:Kd α}{e:Nat}{base:Nat}{ok:Nat→Prop}{v:Value}{xs:List α}(h:IsS81 w0 W g f0 f1 f2)(ho:d.S e W base ok v xs)(ht:e≠81):some g≠v.ownBlock:=by
 obtain⟨A0,c0,hb,hg,hr0⟩:=h;exact Kd.S_ne ho hb ht
theorem IsS81.lt{w0 W:World}{g:Nat}{f0:List Int}{f1:Int}{f2:Int}(h:IsS81 w0 W g f0 f1 f2):g<W.heap.size:=by
 obtain⟨A0,c0,hb,hg,hr0⟩:=h;exact blk_lt hb
theorem IsS81.ge{w0 W:World}{g:Nat}{f0:List Int}{f1:Int}{f2:Int}(h:IsS81 w0 W g f0 f1 f2):w0.heap.size≤g:=by
 obtain⟨A0,c0,hb,hg,hr0⟩:=h;exact hg
theorem IsS81.ne_blk{w0 W:World}{g:Nat}{f0:List Int}{f1:Int}{f2:Int}{a:Nat}{cs:Array Value}{t:TypeId}{fr:Nat×Nat}(h:IsS81 w0 W g f0 f1 f2)(hb2:W.heap[a]? =some (.cells cs t fr))(ht:t≠81):g≠a:=by
 obtain⟨A0,c0,hb,hg,hr0⟩:=h;rintro rfl;rw[hb]at hb2;injection hb2 with hb2
 injection hb2 with _ ht2
 exact ht ht2.symm
theorem IsS81.far{w0 W:World}{g:Nat}{f0:List Int}{f1:Int}{f2:Int}{p:Addr}(h:IsS81 w0 W g f0 f1 f2)(hne:g≠p.block)(u:Value):IsS81 w0 (W.setCell p u) g f0 f1 f2:=by
 obtain⟨A0,c0,hb,hg,hr0⟩:=h;exact⟨A0,c0,blk_far hb hne u,hg,hr0⟩
theorem cellS81_0{W:World}{g:Nat}{A0:Option Addr}{c0:Nat}{f0:List Int}{f1:Int}{f2:Int}(h:W.heap[g]? =some (.cells #[.slice A0 f0.length c0, .int .i64 f1, .int .i64 f2] 81 (0,0))):W.cell? ⟨g,0,none⟩=some (.slice A0 f0.length c0):=(blk_cell h 0).trans rfl
theorem cellS81_1{W:World}{g:Nat}{A0:Option Addr}{c0:Nat}{f0:List Int}{f1:Int}{f2:Int}(h:W.heap[g]? =some (.cells #[.slice A0 f0.length c0, .int .i64 f1, .int .i64 f2] 81 (0,0))):W.cell? ⟨g,1,none⟩=some (.int .i64 f1):=(blk_cell h 1).trans rfl
theorem IsS81.set_1{w0 W:World}{g:Nat}{f0:List Int}{f1:Int}{f2:Int}(h:IsS81 w0 W g f0 f1 f2)(x:Int):IsS81 w0 (W.setCell ⟨g,1,none⟩ (.int .i64 x)) g f0 x f2:=by
 obtain⟨A0,c0,hb,hg,hr0⟩:=h;exact⟨A0,c0,by simpa using blk_set hb 1 (.int .i64 x),hg,hr0⟩
theorem cellS81_2{W:World}{g:Nat}{A0:Option Addr}{c0:Nat}{f0:List Int}{f1:Int}{f2:Int}(h:W.heap[g]? =some (.cells #[.slice A0 f0.length c0, .int .i64 f1, .int .i64 f2] 81 (0,0))):W.cell? ⟨g,2,none⟩=some (.int .i64 f2):=(blk_cell h 2).trans rfl
theorem IsS81.set_2{w0 W:World}{g:Nat}{f0:List Int}{f1:Int}{f2:Int}(h:IsS81 w0 W g f0 f1 f2)(x:Int):IsS81 w0 (W.setCell ⟨g,2,none⟩ (.int .i64 x)) g f0 f1 x:=by
 obtain⟨A0,c0,hb,hg,hr0⟩:=h;exact⟨A0,c0,by simpa using blk_set hb 2 (.int .i64 x),hg,hr0⟩
theorem IsS81.new(w0 W:World)(A0:Option Addr)(c0:Nat)(f0:List Int)(f1:Int)(f2:Int)(hB:Below w0.heap.size w0 W)(hr0:Kd.C (Kd.int .u8) w0 A0 f0.length f0):IsS81 w0 (W.alloc (.cells #[.slice A0 f0.length c0, .int .i64 f1, .int .i64 f2] 81)) W.heap.size f0 f1 f2:=⟨A0,c0,by simpa using heap_alloc_new W _,hB.size,hr0⟩
def spec_l1Byte.f(s0_0:List Int)(s0_1:Int)(s0_2:Int):Option (Int×Int×Int):=if s0_1<(s0_0.length:Int)then(if 0≤s0_1 then(some (Go.bits .and .i64 (wrap64 ((Go.bits .and .i64 (Go.bits .xor .i64 ((wrap64 ((wrap64 (s0_2*6364136223846793005))+1442695040888963407)) / 8589934592) ((wrap64 ((wrap64 (s0_2*6364136223846793005))+1442695040888963407)) / 35184372088832)) 255)+(wrap64 (rd s0_0 s0_1)))) 255,wrap64 (s0_1+1),wrap64 ((wrap64 (s0_2*6364136223846793005))+1442695040888963407)))else(none))else(some (Go.bits .and .i64 (Go.bits .xor .i64 ((wrap64 ((wrap64 (s0_2*6364136223846793005))+1442695040888963407)) / 8589934592) ((wrap64 ((wrap64 (s0_2*6364136223846793005))+1442695040888963407)) / 35184372088832)) 255,s0_1,wrap64 ((wrap64 (s0_2*6364136223846793005))+1442695040888963407)))
theorem spec_l1Byte.calls(g:Nat)(s0_0:List Int)(s0_1:Int)(s0_2:Int)(r1:Int)(r2:Int)(r3:Int)(w0 w:World)(hI:IsS81 w0 w g s0_0 s0_1 s0_2)(hB:Below w0.heap.size w0 w)(h:spec_l1Byte.f s0_0 s0_1 s0_2=some (r1,r2,r3)):
 Calls Tryz.prog 78 #[.pointer (some ⟨g,0,none⟩)] w fun e w'=>e= .returned (.int .i64 r1)∧IsS81 w0 w' g s0_0 r2 r3∧Below w0.heap.size w0 w'∧KeepBut w w' g none:=by
 have HI0:=Ak hI;have HK:=Ak (KeepBut.refl w g none);have HL:=Ak hB.size;clear hI;have HW0:=Ak hB.size;have HB:=Ak hB;clear hB;have H:(if s0_1<(s0_0.length:Int)then(if 0≤s0_1 then(some (Go.bits .and .i64 (wrap64 ((Go.bits .and .i64 (Go.bits .xor .i64 ((wrap64 ((wrap64 (s0_2*6364136223846793005))+1442695040888963407)) / 8589934592) ((wrap64 ((wrap64 (s0_2*6364136223846793005))+1442695040888963407)) / 35184372088832)) 255)+(wrap64 (rd s0_0 s0_1)))) 255,wrap64 (s0_1+1),wrap64 ((wrap64 (s0_2*6364136223846793005))+1442695040888963407)))else(none))else(some (Go.bits .and .i64 (Go.bits .xor .i64 ((wrap64 ((wrap64 (s0_2*6364136223846793005))+1442695040888963407)) / 8589934592) ((wrap64 ((wrap64 (s0_2*6364136223846793005))+1442695040888963407)) / 35184372088832)) 255,s0_1,wrap64 ((wrap64 (s0_2*6364136223846793005))+1442695040888963407))))=some (r1,r2,r3):=h;clear h;by_cases c2:s0_1<(s0_0.length:Int)
 ·rw[if_pos c2]at H;have c2b0:decide (s0_1<(s0_0.length:Int))=true:=decide_eq_true c2;clear c2;by_cases c3:0≤s0_1
  ·rw[if_pos c3]at H;have c3b0:decide (0≤s0_1)=true:=decide_eq_true c3;clear c3;simp only[Option.some.injEq,Prod.mk.injEq]at H;obtain⟨rfl,rfl,rfl⟩:=H;obtain⟨ASz4_0,cSz4_0,HGz4,hgz4,HSz4_0⟩:=HI0.out;have hcz4_0:=cellS81_0 HGz4;have hcz4_1:=cellS81_1 HGz4;have hcz4_2:=cellS81_2 HGz4;have hfz4_1:=blk_frozen HGz4 1;have hfz4_2:=blk_frozen HGz4 2;clear HGz4 hgz4;have p101:0≤(s0_1:Int):=of_decide_eq_true (by assumption);have q101:s0_1<(s0_0.length:Int):=of_decide_eq_true (by assumption);obtain⟨ad101,e101,hx101_0⟩:=Kd.at_int HSz4_0 s0_1 p101 q101;cases e101;have hn101_0:ad101.block≠g:=Nat.ne_of_lt (Nat.lt_of_lt_of_le (by have:=World.block_lt_of_cell? _ _ hx101_0;first|rwa [add_block]at this|exact this) (IsS81.ge HI0.out));replace hx101_0:=pw_cell_below HB.out hx101_0;replace hx101_0:=(cell_far (p:=⟨g,2,none⟩) (by first|(rw[add_block];exact hn101_0)|(show(Addr.add _ _).block≠_;rw[add_block];exact hn101_0)|exact hn101_0) (.int .i64 (wrap64 ((wrap64 (s0_2*6364136223846793005))+1442695040888963407)))).trans hx101_0;(try have hy101_0:=fun(n_:Nat)=>(show(((w.drewN n_).setCell ⟨g,2,none⟩ (.int .i64 (wrap64 ((wrap64 (s0_2*6364136223846793005))+1442695040888963407))))).cell? _=some _ from hx101_0));clear hn101_0;replace p101:=eq_true p101;replace q101:=eq_true q101;go_enter Tryz.func78,Tryz.ntmps78;go_wp2;repeat(go_quiet (fail);try go_wp2)
   go_ret;exact⟨by first|rfl|(simp [*]<;>rfl),by repeat(first|exact HI0.out|apply IsS81.alloc|apply IsS81.drewN|apply IsS81.drew|apply IsS81.set_1|apply IsS81.set_2),by repeat(first|exact HB.out|apply below_alloc|apply pw_below_drewN|apply below_drew1|refine below_set ?_ (IsS81.ge HI0.out)),by repeat(first|exact HK.out|apply KeepBut.set_|apply keep_drewN|apply keep_drew|apply keep_alloc)⟩
  ·rw[if_neg c3]at H;exact absurd H (by simp)
 ·rw[if_neg c2]at H;have c2b0:decide (s0_1<(s0_0.length:Int))=false:=decide_eq_false c2;clear c2;simp only[Option.some.injEq,Prod.mk.injEq]at H;obtain⟨rfl,rfl,rfl⟩:=H;obtain⟨ASz5_0,cSz5_0,HGz5,hgz5,HSz5_0⟩:=HI0.out;have hcz5_0:=cellS81_0 HGz5;have hcz5_1:=cellS81_1 HGz5;have hcz5_2:=cellS81_2 HGz5;have hfz5_1:=blk_frozen HGz5 1;have hfz5_2:=blk_frozen HGz5 2;clear HGz5 hgz5;go_enter Tryz.func78,Tryz.ntmps78;go_wp2;repeat(go_quiet (fail);try go_wp2)
  go_ret;exact⟨by first|rfl|(simp [*]<;>rfl),by repeat(first|exact HI0.out|apply IsS81.alloc|apply IsS81.drewN|apply IsS81.drew|apply IsS81.set_1|apply IsS81.set_2),by repeat(first|exact HB.out|apply below_alloc|apply pw_below_drewN|apply below_drew1|refine below_set ?_ (IsS81.ge HI0.out)),by repeat(first|exact HK.out|apply KeepBut.set_|apply keep_drewN|apply keep_drew|apply keep_alloc)⟩
def spec_l1Below.f(s0_0:List Int)(s0_1:Int)(s0_2:Int)(a1:Int):Option (Int×Int×Int):=if a1≤0 then(some (0,s0_1,s0_2))else(if a1≤256 then((spec_l1Byte.f s0_0 s0_1 s0_2).bind fun bt101=>(if a1=0 then(none)else(some (Int.tmod bt101.1 a1,bt101.2.1,bt101.2.2))))else((spec_l1Byte.f s0_0 s0_1 s0_2).bind fun bt104=>((spec_l1Byte.f s0_0 bt104.2.1 bt104.2.2).bind fun bt107=>((spec_l1Byte.f s0_0 bt107.2.1 bt107.2.2).bind fun bt110=>((spec_l1Byte.f s0_0 bt110.2.1 bt110.2.2).bind fun bt113=>(if a1=0 then(none)else(some (Int.tmod (wrap64 ((wrap64 ((wrap64 ((wrap64 (bt104.1*16777216))+(wrap64 (bt107.1*65536))))+(wrap64 (bt110.1*256))))+bt113.1)) a1,bt113.2.1,bt113.2.2))))))))
theorem spec_l1Below.calls(g:Nat)(s0_0:List Int)(s0_1:Int)(s0_2:Int)(a1:Int)(r1:Int)(r2:Int)(r3:Int)(w0 w:World)(hI:IsS81 w0 w g s0_0 s0_1 s0_2)(hB:Below w0.heap.size w0 w)(h:spec_l1Below.f s0_0 s0_1 s0_2 a1=some (r1,r2,r3)):
 Calls Tryz.prog 46 #[.pointer (some ⟨g,0,none⟩), .int .i64 a1] w fun e w'=>e= .returned (.int .i64 r1)∧IsS81 w0 w' g s0_0 r2 r3∧Below w0.heap.size w0 w'∧KeepBut w w' g none:=by
 have HI0:=Ak hI;have HK:=Ak (KeepBut.refl w g none);have HL:=Ak hB.size;clear hI;have HW0:=Ak hB.size;have HB:=Ak hB;clear hB;have H:(if a1≤0 then(some (0,s0_1,s0_2))else(if a1≤256 then((spec_l1Byte.f s0_0 s0_1 s0_2).bind fun bt101=>(if a1=0 then(none)else(some (Int.tmod bt101.1 a1,bt101.2.1,bt101.2.2))))else((spec_l1Byte.f s0_0 s0_1 s0_2).bind fun bt104=>((spec_l1Byte.f s0_0 bt104.2.1 bt104.2.2).bind fun bt107=>((spec_l1Byte.f s0_0 bt107.2.1 bt107.2.2).bind fun bt110=>((spec_l1Byte.f s0_0 bt110.2.1 bt110.2.2).bind fun bt113=>(if a1=0 then(none)else(some (Int.tmod (wrap64 ((wrap64 ((wrap64 ((wrap64 (bt104.1*16777216))+(wrap64 (bt107.1*65536))))+(wrap64 (bt110.1*256))))+bt113.1)) a1,bt113.2.1,bt113.2.2)))))))))=some (r1,r2,r3):=h;clear h;by_cases c3:a1≤0
 ·rw[if_pos c3]at H;have c3b0:decide (a1≤0)=true:=decide_eq_true c3;clear c3;simp only[Option.some.injEq,Prod.mk.injEq]at H;obtain⟨rfl,rfl,rfl⟩:=H;go_enter Tryz.func46,Tryz.ntmps46;go_wp2;go_ret;exact⟨by first|rfl|(simp [*]<;>rfl),HI0.out,by repeat(first|exact HB.out|apply below_alloc|apply pw_below_drewN|apply below_drew1|refine below_set ?_ (IsS81.ge HI0.out)),HK.out⟩
 ·rw[if_neg c3]at H;have c3b0:decide (a1≤0)=false:=decide_eq_false c3;clear c3;by_cases c4:a1≤256
  ·rw[if_pos c4]at H;have c4b0:decide (a1≤256)=true:=decide_eq_true c4;clear c4;replace H:=Ob H;obtain⟨⟨t101,t102,t103⟩,A50,H⟩:=H;replace H:(if a1=0 then(none)else(some (Int.tmod t101 a1,t102,t103)))=some (r1,r2,r3):=H;have A5:=Ak A50;clear A50;by_cases c6:a1=0
   ·rw[if_pos c6]at H;exact absurd H (by simp)
   ·rw[if_neg c6]at H;have c6b0:(a1==0)=false:=beq_eq_false_iff_ne.mpr c6;have c6b1:(a1 !=0)=true:=bne_iff_ne.mpr c6;simp only[Option.some.injEq,Prod.mk.injEq]at H;obtain⟨rfl,rfl,rfl⟩:=H;go_enter Tryz.func46,Tryz.ntmps46;go_wp2_with (first|((with_reducible refine gate_callee (f:=78) rfl ?_);refine goesL_ (some 14) rfl rfl Tryz.func78 (by kernel_rfl) rfl #[.pointer (some ⟨g,0,none⟩)] rfl (by(try simp only[List.map_toArray,List.map_cons,List.map_nil]);first|done|rfl|(simp only[List.length_drop,List.length_take];rfl)) ?_;(with_reducible refine(spec_l1Byte.calls g s0_0 s0_1 s0_2 t101 t102 t103 w0 _ ?side1 ?side2 A5.out).mono ?_);(case side1=>repeat(first|(with_reducible first|exact HI0.out|apply IsS81.alloc|apply IsS81.drewN|apply IsS81.drew|apply IsS81.set_1|apply IsS81.set_2)|exact HI0.out));(case side2=>repeat(first|(with_reducible first|exact HB.out|apply below_alloc|apply pw_below_drewN|apply below_drew1|refine below_set ?_ (IsS81.ge HI0.out))|exact HB.out));rintro e w7 ⟨rfl,hi,hb,hk⟩;refine⟨_,rfl, ?_⟩;have n0_:=Ak (KeepBut.trans (HK.out) hk (.inl rfl));have n1_:=Ak (hb);have n2_:=Ak (hi);clear HK;clear HB;clear HI0;have HK:=n0_;have HB:=n1_;have HI0:=n2_;clear n0_ n1_ n2_;(try clear hb)));go_ret;exact⟨by first|rfl|(simp [*]<;>rfl),HI0.out,by repeat(first|exact HB.out|apply below_alloc|apply pw_below_drewN|apply below_drew1|refine below_set ?_ (IsS81.ge HI0.out)),HK.out⟩
  ·rw[if_neg c4]at H;have c4b0:decide (a1≤256)=false:=decide_eq_false c4;clear c4;replace H:=Ob H;obtain⟨⟨t104,t105,t106⟩,A80,H⟩:=H;replace H:((spec_l1Byte.f s0_0 t105 t106).bind fun bt107=>((spec_l1Byte.f s0_0 bt107.2.1 bt107.2.2).bind fun bt110=>((spec_l1Byte.f s0_0 bt110.2.1 bt110.2.2).bind fun bt113=>(if a1=0 then(none)else(some (Int.tmod (wrap64 ((wrap64 ((wrap64 ((wrap64 (t104*16777216))+(wrap64 (bt107.1*65536))))+(wrap64 (bt110.1*256))))+bt113.1)) a1,bt113.2.1,bt113.2.2))))))=some (r1,r2,r3):=H;have A8:=Ak A80;clear A80;replace H:=Ob H;obtain⟨⟨t107,t108,t109⟩,A90,H⟩:=H;replace H:((spec_l1Byte.f s0_0 t108 t109).bind fun bt110=>((spec_l1Byte.f s0_0 bt110.2.1 bt110.2.2).bind fun bt113=>(if a1=0 then(none)else(some (Int.tmod (wrap64 ((wrap64 ((wrap64 ((wrap64 (t104*16777216))+(wrap64 (t107*65536))))+(wrap64 (bt110.1*256))))+bt113.1)) a1,bt113.2.1,bt113.2.2)))))=some (r1,r2,r3):=H;have A9:=Ak A90;clear A90;replace H:=Ob H;obtain⟨⟨t110,t111,t112⟩,A100,H⟩:=H;replace H:((spec_l1Byte.f s0_0 t111 t112).bind fun bt113=>(if a1=0 then(none)else(some (Int.tmod (wrap64 ((wrap64 ((wrap64 ((wrap64 (t104*16777216))+(wrap64 (t107*65536))))+(wrap64 (t110*256))))+bt113.1)) a1,bt113.2.1,bt113.2.2))))=some (r1,r2,r3):=H;have A10:=Ak A100;clear A100;replace H:=Ob H;obtain⟨⟨t113,t114,t115⟩,A110,H⟩:=H;replace H:(if a1=0 then(none)else(some (Int.tmod (wrap64 ((wrap64 ((wrap64 ((wrap64 (t104*16777216))+(wrap64 (t107*65536))))+(wrap64 (t110*256))))+t113)) a1,t114,t115)))=some (r1,r2,r3):=H;have A11:=Ak A110;clear A110;by_cases c12:a1=0
   ·rw[if_pos c12]at H;exact absurd H (by simp)
   ·rw[if_neg c12]at H;have c12b0:(a1==0)=false:=beq_eq_false_iff_ne.mpr c12;have c12b1:(a1 !=0)=true:=bne_iff_ne.mpr c12;simp only[Option.some.injEq,Prod.mk.injEq]at H;obtain⟨rfl,rfl,rfl⟩:=H;go_enter Tryz.func46,Tryz.ntmps46;go_wp2_with (first|((with_reducible refine gate_callee (f:=78) rfl ?_);refine goesL_ (some 18) rfl rfl Tryz.func78 (by kernel_rfl) rfl #[.pointer (some ⟨g,0,none⟩)] rfl (by(try simp only[List.map_toArray,List.map_cons,List.map_nil]);first|done|rfl|(simp only[List.length_drop,List.length_take];rfl)) ?_;(with_reducible refine(spec_l1Byte.calls g s0_0 s0_1 s0_2 t104 t105 t106 w0 _ ?side1 ?side2 A8.out).mono ?_);(case side1=>repeat(first|(with_reducible first|exact HI0.out|apply IsS81.alloc|apply IsS81.drewN|apply IsS81.drew|apply IsS81.set_1|apply IsS81.set_2)|exact HI0.out));(case side2=>repeat(first|(with_reducible first|exact HB.out|apply below_alloc|apply pw_below_drewN|apply below_drew1|refine below_set ?_ (IsS81.ge HI0.out))|exact HB.out));rintro e w13 ⟨rfl,hi,hb,hk⟩;refine⟨_,rfl, ?_⟩;have n0_:=Ak (KeepBut.trans (HK.out) hk (.inl rfl));have n1_:=Ak (hb);have n2_:=Ak (hi);clear HK;clear HB;clear HI0;have HK:=n0_;have HB:=n1_;have HI0:=n2_;clear n0_ n1_ n2_;(try clear hb))|((with_reducible refine gate_callee (f:=78) rfl ?_);refine goesL_ (some 20) rfl rfl Tryz.func78 (by kernel_rfl) rfl #[.pointer (some ⟨g,0,none⟩)] rfl (by(try simp only[List.map_toArray,List.map_cons,List.map_nil]);first|done|rfl|(simp only[List.length_drop,List.length_take];rfl)) ?_;(with_reducible refine(spec_l1Byte.calls g s0_0 t105 t106 t107 t108 t109 w0 _ ?side1 ?side2 A9.out).mono ?_);(case side1=>repeat(first|(with_reducible first|exact HI0.out|apply IsS81.alloc|apply IsS81.drewN|apply IsS81.drew|apply IsS81.set_1|apply IsS81.set_2)|exact HI0.out));(case side2=>repeat(first|(with_reducible first|exact HB.out|apply below_alloc|apply pw_below_drewN|apply below_drew1|refine below_set ?_ (IsS81.ge HI0.out))|exact HB.out));rintro e w14 ⟨rfl,hi,hb,hk⟩;refine⟨_,rfl, ?_⟩;have n0_:=Ak (KeepBut.trans (HK.out) hk (.inl rfl));have n1_:=Ak (hb);have n2_:=Ak (hi);clear HK;clear HB;clear HI0;have HK:=n0_;have HB:=n1_;have HI0:=n2_;clear n0_ n1_ n2_;(try clear hb))|((with_reducible refine gate_callee (f:=78) rfl ?_);refine goesL_ (some 22) rfl rfl Tryz.func78 (by kernel_rfl) rfl #[.pointer (some ⟨g,0,none⟩)] rfl (by(try simp only[List.map_toArray,List.map_cons,List.map_nil]);first|done|rfl|(simp only[List.length_drop,List.length_take];rfl)) ?_;(with_reducible refine(spec_l1Byte.calls g s0_0 t108 t109 t110 t111 t112 w0 _ ?side1 ?side2 A10.out).mono ?_);(case side1=>repeat(first|(with_reducible first|exact HI0.out|apply IsS81.alloc|apply IsS81.drewN|apply IsS81.drew|apply IsS81.set_1|apply IsS81.set_2)|exact HI0.out));(case side2=>repeat(first|(with_reducible first|exact HB.out|apply below_alloc|apply pw_below_drewN|apply below_drew1|refine below_set ?_ (IsS81.ge HI0.out))|exact HB.out));rintro e w15 ⟨rfl,hi,hb,hk⟩;refine⟨_,rfl, ?_⟩;have n0_:=Ak (KeepBut.trans (HK.out) hk (.inl rfl));have n1_:=Ak (hb);have n2_:=Ak (hi);clear HK;clear HB;clear HI0;have HK:=n0_;have HB:=n1_;have HI0:=n2_;clear n0_ n1_ n2_;(try clear hb))|((with_reducible refine gate_callee (f:=78) rfl ?_);refine goesL_ (some 24) rfl rfl Tryz.func78 (by kernel_rfl) rfl #[.pointer (some ⟨g,0,none⟩)] rfl (by(try simp only[List.map_toArray,List.map_cons,List.map_nil]);first|done|rfl|(simp only[List.length_drop,List.length_take];rfl)) ?_;(with_reducible refine(spec_l1Byte.calls g s0_0 t111 t112 t113 t114 t115 w0 _ ?side1 ?side2 A11.out).mono ?_);(case side1=>repeat(first|(with_reducible first|exact HI0.out|apply IsS81.alloc|apply IsS81.drewN|apply IsS81.drew|apply IsS81.set_1|apply IsS81.set_2)|exact HI0.out));(case side2=>repeat(first|(with_reducible first|exact HB.out|apply below_alloc|apply pw_below_drewN|apply below_drew1|refine below_set ?_ (IsS81.ge HI0.out))|exact HB.out));rintro e w16 ⟨rfl,hi,hb,hk⟩;refine⟨_,rfl, ?_⟩;have n0_:=Ak (KeepBut.trans (HK.out) hk (.inl rfl));have n1_:=Ak (hb);have n2_:=Ak (hi);clear HK;clear HB;clear HI0;have HK:=n0_;have HB:=n1_;have HI0:=n2_;clear n0_ n1_ n2_;(try clear hb)))
    go_ret;exact⟨by first|rfl|(simp [*]<;>rfl),HI0.out,by repeat(first|exact HB.out|apply below_alloc|apply pw_below_drewN|apply below_drew1|refine below_set ?_ (IsS81.ge HI0.out)),HK.out⟩
def spec_TreeNew.f:Option ((List (S41))):=some (([(⟨1,(⟨#[]⟩:ByteArray),([]:List (S72)),(⟨#[]⟩:ByteArray),(-1),([]:List Int)⟩:S41)]:List (S41)))
theorem spec_TreeNew.calls(r:List (S41))(w:World)(h:spec_TreeNew.f=some r):
 Calls Tryz.prog 71 #[] w fun e w'=> ∃v0_:Value,e= .returned (.agg #[v0_])∧Kd.S k41 41 w' w.heap.size (fun _=>True) v0_ r∧Below w.heap.size w w':=by
 have hu29:=Tryz.underlying29;have hu41:=Tryz.underlying41;have HB:=Ak (Below.refl w.heap.size w);have H:(some (([(⟨1,(⟨#[]⟩:ByteArray),([]:List (S72)),(⟨#[]⟩:ByteArray),(-1),([]:List Int)⟩:S41)]:List (S41))))=some r:=h;clear h;obtain⟨y102,hy102⟩: ∃y_:List (S41),y_=(([(⟨1,(⟨#[]⟩:ByteArray),([]:List (S72)),(⟨#[]⟩:ByteArray),(-1),([]:List Int)⟩:S41)]:List (S41))):=⟨_,rfl⟩
 replace H:(some y102)=some r:=by first|(rw[hy102];with_reducible exact H)|(have H2_:=(Option.bind_some _ _).symm.trans H;rw[hy102];with_reducible exact H2_)|(have H2_:=(Option.bind_some _ _).symm.trans H;with_reducible exact H2_)|with_reducible exact H|(rw[hy102];exact H)|exact H
 have Ny102:=Ak hy102;clear hy102;obtain rfl:=Oi H;go_enter Tryz.func71,Tryz.ntmps71;go_wp2_with (first|((with_reducible refine gate_dst (N:=0) rfl ?_);refine box_event ?hg (N:=0) ?hd (cs:= #[.slice none 0 0]) (t:=29) ?hr ?_;(case hd=>rfl);(case hg=>rfl);(case hr=>go_simp);intro gb101 hg w1 hbox hb;have n0_:=Ak (below_step (HB.out) hb);have n1_:=Ak (hbox);have n2_:=Ak ((by rw[hg];exact(below_size (HB.out)):w.heap.size≤gb101));have n3_:=n2_;clear HB;have HB:=n0_;have BK101:=n1_;have GW101:=n2_;have GE101:=n3_;clear n0_ n1_ n2_ n3_;clear hb hbox hg)|((with_reducible refine gate_dst (N:=2) rfl ?_);refine Kd.S_lit k41 _ 41 ?hg (N:=2) ?hd (xs:=([(⟨1,(⟨#[]⟩:ByteArray),([]:List (S72)),(⟨#[]⟩:ByteArray),(-1),([]:List Int)⟩:S41)]:List (S41))) (inner:= [.int .i64 1, .string (⟨#[]⟩:ByteArray), .slice none 0 0, .string (⟨#[]⟩:ByteArray), .int .i64 (-1), .slice none 0 0]) (ok:=fun _=>True) (okp:=fun _=>True) ?hr ?hp (fun _ hk=>hk) trivial (Below.refl _ _) (Nat.le_refl _) (by simp) ?_;(case hd=>rfl);(case hg=>rfl);(case hr=>go_simp);(case hp=>exact(Reps.c6 (show Kd.M k41 _ _ _ (⟨1,(⟨#[]⟩:ByteArray),([]:List (S72)),(⟨#[]⟩:ByteArray),(-1),([]:List Int)⟩:S41) [.int .i64 1, .string (⟨#[]⟩:ByteArray), .slice none 0 0, .string (⟨#[]⟩:ByteArray), .int .i64 (-1), .slice none 0 0]from(k41_mkM _ _ _ (⟨1,(⟨#[]⟩:ByteArray),([]:List (S72)),(⟨#[]⟩:ByteArray),(-1),([]:List Int)⟩:S41) (Kd.R_nil _ _ _ _ _) (Kd.R_nil _ _ _ _ _))) (Reps.none _ _)));intro v103 w2 ho3 hb hg_ hnew_;clear hg_ hnew_;(first|rw[←Ny102.out]at ho3|(simp only[Int.reduceToNat]at ho3;rw[←Ny102.out]at ho3));have n0_:=Ak (Kd.S_lower ho3 (below_size (by repeat(first|exact HB.out|apply below_alloc|apply pw_below_drewN|apply below_drew1|refine below_set ?_ GE101.out))));have n1_:=Ak (blk_below BK101.out hb);have n2_:=Ak (below_step (by repeat(first|exact HB.out|apply below_alloc|apply pw_below_drewN|apply below_drew1|refine below_set ?_ GE101.out)) hb);clear BK101;clear HB;have HO104:=n0_;have BK101:=n1_;have HB:=n2_;clear n0_ n1_ n2_;clear hb ho3;obtain⟨Ao4,co4,eo4⟩:=Kd.S_slice HO104.out;subst eo4;have hcz5_0:=blk_cell BK101.out 0;have hfz5_0:=blk_frozen BK101.out 0));refine bodyPost_ret (results_cell_row rfl _ _ gb101 29 #[.slice Ao4 y102.length co4] (0,0) _ rfl (by(with_reducible repeat(first|refine blk_drewN ?_ _|refine blk_drew ?_|refine blk_alloc ?_ _));refine blk_put (cs:= #[.slice none 0 0]) ?_ 0 _ rfl;(with_reducible repeat(first|refine blk_drewN ?_ _|refine blk_drew ?_|refine blk_alloc ?_ _));exact BK101.out) Tryz.underlying29 rfl (by kernel_rfl)) rfl ?_;exact⟨_,by first|rfl|(simp [*]<;>rfl),by(with_reducible repeat(first|apply Kd.S_alloc|apply Kd.S_drewN|apply Kd.S_drew));exact Kd.S_mono (Kd.S_far (p:=⟨gb101,0,none⟩) (Kd.S_types HO104.out BK101.out (by decide)) (fun _ hk=>hk.2) (.slice Ao4 y102.length co4)) (fun _ hk=>trivial),by repeat(first|exact HB.out|apply below_alloc|apply pw_below_drewN|apply below_drew1|refine below_set ?_ GE101.out)⟩
def spec_l1Once.f(s0_0:List Int)(s0_1:Int)(s0_2:Int)(a1:Int):Option (Bool×Int×Int):=(spec_l1Below.f s0_0 s0_1 s0_2 a1).bind fun bt101=>(some ((bt101.1==0),bt101.2.1,bt101.2.2))
theorem spec_l1Once.calls(g:Nat)(s0_0:List Int)(s0_1:Int)(s0_2:Int)(a1:Int)(r1:Bool)(r2:Int)(r3:Int)(w0 w:World)(hI:IsS81 w0 w g s0_0 s0_1 s0_2)(hB:Below w0.heap.size w0 w)(h:spec_l1Once.f s0_0 s0_1 s0_2 a1=some (r1,r2,r3)):
 Calls Tryz.prog 72 #[.pointer (some ⟨g,0,none⟩), .int .i64 a1] w fun e w'=>e= .returned (.bool r1)∧IsS81 w0 w' g s0_0 r2 r3∧Below w0.heap.size w0 w'∧KeepBut w w' g none:=by
 have HI0:=Ak hI;have HK:=Ak (KeepBut.refl w g none);have HL:=Ak hB.size;clear hI;have HW0:=Ak hB.size;have HB:=Ak hB;clear hB;have H:((spec_l1Below.f s0_0 s0_1 s0_2 a1).bind fun bt101=>(some ((bt101.1==0),bt101.2.1,bt101.2.2)))=some (r1,r2,r3):=h;clear h;replace H:=Ob H;obtain⟨⟨t101,t102,t103⟩,A30,H⟩:=H;replace H:(some ((t101==0),t102,t103))=some (r1,r2,r3):=H;have A3:=Ak A30;clear A30;simp only[Option.some.injEq,Prod.mk.injEq]at H;obtain⟨rfl,rfl,rfl⟩:=H;go_enter Tryz.func72,Tryz.ntmps72;go_wp2_with (first|((with_reducible refine gate_callee (f:=46) rfl ?_);refine goesL_ (some 7) rfl rfl Tryz.func46 (by kernel_rfl) rfl #[.pointer (some ⟨g,0,none⟩), .int .i64 a1] rfl (by(try simp only[List.map_toArray,List.map_cons,List.map_nil]);first|done|rfl|(simp only[List.length_drop,List.length_take];rfl)) ?_;(with_reducible refine(spec_l1Below.calls g s0_0 s0_1 s0_2 a1 t101 t102 t103 w0 _ ?side1 ?side2 A3.out).mono ?_);(case side1=>repeat(first|(with_reducible first|exact HI0.out|apply IsS81.alloc|apply IsS81.drewN|apply IsS81.drew|apply IsS81.set_1|apply IsS81.set_2)|exact HI0.out));(case side2=>repeat(first|(with_reducible first|exact HB.out|apply below_alloc|apply pw_below_drewN|apply below_drew1|refine below_set ?_ (IsS81.ge HI0.out))|exact HB.out));rintro e w4 ⟨rfl,hi,hb,hk⟩;refine⟨_,rfl, ?_⟩;have n0_:=Ak (KeepBut.trans (HK.out) hk (.inl rfl));have n1_:=Ak (hb);have n2_:=Ak (hi);clear HK;clear HB;clear HI0;have HK:=n0_;have HB:=n1_;have HI0:=n2_;clear n0_ n1_ n2_;(try clear hb);(try clear hb2);(try clear hk);(try clear hi)));go_ret;exact⟨by first|rfl|(simp [*]<;>rfl),HI0.out,by repeat(first|exact HB.out|apply below_alloc|apply pw_below_drewN|apply below_drew1|refine below_set ?_ (IsS81.ge HI0.out)),HK.out⟩
def spec_l1Pick.f(s0_0:List Int)(s0_1:Int)(s0_2:Int)(l1:List ByteArray):Option (ByteArray×Int×Int):=(spec_l1Below.f s0_0 s0_1 s0_2 (l1.length:Int)).bind fun bt101=>(if 0≤bt101.1 then(if bt101.1<(l1.length:Int)then(some (rdOf ByteArray.empty l1 bt101.1,bt101.2.1,bt101.2.2))else(none))else(none))
theorem spec_l1Pick.calls(g:Nat)(s0_0:List Int)(s0_1:Int)(s0_2:Int)(A1:Option Addr)(c1:Nat)(l1:List ByteArray)(r1:ByteArray)(r2:Int)(r3:Int)(w0 w:World)(hI:IsS81 w0 w g s0_0 s0_1 s0_2)(hB:Below w0.heap.size w0 w)(hr1:Kd.C Kd.string w A1 l1.length l1)(hc1:l1.length≤c1)(hf1: ∀ad,A1=some ad→0<l1.length→ad.block≠g)(h:spec_l1Pick.f s0_0 s0_1 s0_2 l1=some (r1,r2,r3)):
 Calls Tryz.prog 97 #[.pointer (some ⟨g,0,none⟩), .slice A1 l1.length c1] w fun e w'=>e= .returned (.string r1)∧IsS81 w0 w' g s0_0 r2 r3∧Below w0.heap.size w0 w'∧KeepBut w w' g none:=by
 have HR1:=Ak hr1;have HC1:=Ak hc1;clear hr1 hc1;have HI0:=Ak hI;have HK:=Ak (KeepBut.refl w g none);have HL:=Ak hB.size;clear hI;have HW0:=Ak hB.size;have HB:=Ak hB;clear hB;have H:((spec_l1Below.f s0_0 s0_1 s0_2 (l1.length:Int)).bind fun bt101=>(if 0≤bt101.1 then(if bt101.1<(l1.length:Int)then(some (rdOf ByteArray.empty l1 bt101.1,bt101.2.1,bt101.2.2))else(none))else(none)))=some (r1,r2,r3):=h;clear h;replace H:=Ob H;obtain⟨⟨t101,t102,t103⟩,A30,H⟩:=H;replace H:(if 0≤t101 then(if t101<(l1.length:Int)then(some (rdOf ByteArray.empty l1 t101,t102,t103))else(none))else(none))=some (r1,r2,r3):=H;have A3:=Ak A30;clear A30;by_cases c4:0≤t101
 ·rw[if_pos c4]at H;have c4b0:decide (0≤t101)=true:=decide_eq_true c4;clear c4;by_cases c5:t101<(l1.length:Int)
  ·rw[if_pos c5]at H;have c5b0:decide (t101<(l1.length:Int))=true:=decide_eq_true c5;clear c5;simp only[Option.some.injEq,Prod.mk.injEq]at H;obtain⟨rfl,rfl,rfl⟩:=H;go_enter Tryz.func97,Tryz.ntmps97;go_wp2_with (first|((with_reducible refine gate_callee (f:=46) rfl ?_);refine goesL_ (some 9) rfl rfl Tryz.func46 (by kernel_rfl) rfl #[.pointer (some ⟨g,0,none⟩), .int .i64 (l1.length:Int)] rfl (by(try simp only[List.map_toArray,List.map_cons,List.map_nil]);first|done|rfl|(simp only[List.length_drop,List.length_take];rfl)) ?_;(with_reducible refine(spec_l1Below.calls g s0_0 s0_1 s0_2 (l1.length:Int) t101 t102 t103 w0 _ ?side1 ?side2 A3.out).mono ?_);(case side1=>repeat(first|(with_reducible first|exact HI0.out|apply IsS81.alloc|apply IsS81.drewN|apply IsS81.drew|apply IsS81.set_1|apply IsS81.set_2)|exact HI0.out));(case side2=>repeat(first|(with_reducible first|exact HB.out|apply below_alloc|apply pw_below_drewN|apply below_drew1|refine below_set ?_ (IsS81.ge HI0.out))|exact HB.out));rintro e w6 ⟨rfl,hi,hb,hk⟩;refine⟨_,rfl, ?_⟩;have n0_:=Ak (KeepBut.trans (HK.out) hk (.inl rfl));have n1_:=Ak (hb);have n2_:=Ak (hi);clear HK;clear HB;clear HI0;have HK:=n0_;have HB:=n1_;have HI0:=n2_;clear n0_ n1_ n2_;(try clear hb);(try clear hb2);(try clear hk);(try clear hi);have p104:0≤(t101:Int):=of_decide_eq_true (by assumption);have q104:t101<(l1.length:Int):=of_decide_eq_true (by assumption);obtain⟨ad104,e104,hx104_0⟩:=Kd.at_string HR1.out t101 p104 q104;cases e104;replace hx104_0:=keep_cell HK.out hx104_0 (by first|(rw[add_block];exact hf1 _ rfl (by omega))|exact hf1 _ rfl (by omega)|exact hf1 ad104 rfl (by omega));replace p104:=eq_true p104;replace q104:=eq_true q104));go_ret;exact⟨by first|rfl|(simp [*]<;>rfl),HI0.out,by repeat(first|exact HB.out|apply below_alloc|apply pw_below_drewN|apply below_drew1|refine below_set ?_ (IsS81.ge HI0.out)),HK.out⟩
  ·rw[if_neg c5]at H;exact absurd H (by simp)
 ·rw[if_neg c4]at H;exact absurd H (by simp)
def spec_l4DrawText.f(s0_0:List Int)(s0_1:Int)(s0_2:Int):Option (ByteArray×Int×Int):=(spec_l1Pick.f s0_0 s0_1 s0_2 (([(⟨#[]⟩:ByteArray),(⟨#[97]⟩:ByteArray),(⟨#[120,32,121]⟩:ByteArray),(⟨#[195,169]⟩:ByteArray),(⟨#[60,98,62]⟩:ByteArray),(⟨#[34]⟩:ByteArray),(⟨#[38]⟩:ByteArray),(⟨#[194,160,122]⟩:ByteArray),(⟨#[49]⟩:ByteArray)]:List ByteArray))).bind fun bt104=>(some (bt104.1,bt104.2.1,bt104.2.2))
theorem spec_l4DrawText.calls(g:Nat)(s0_0:List Int)(s0_1:Int)(s0_2:Int)(r1:ByteArray)(r2:Int)(r3:Int)(w0 w:World)(hI:IsS81 w0 w g s0_0 s0_1 s0_2)(hB:Below w0.heap.size w0 w)(h:spec_l4DrawText.f s0_0 s0_1 s0_2=some (r1,r2,r3)):
 Calls Tryz.prog 99 #[.pointer (some ⟨g,0,none⟩)] w fun e w'=>e= .returned (.string r1)∧IsS81 w0 w' g s0_0 r2 r3∧Below w0.heap.size w0 w'∧KeepBut w w' g none:=by
 have HI0:=Ak hI;have HK:=Ak (KeepBut.refl w g none);have HL:=Ak hB.size;clear hI;have HW0:=Ak hB.size;have HB:=Ak hB;clear hB;have H:((spec_l1Pick.f s0_0 s0_1 s0_2 (([(⟨#[]⟩:ByteArray),(⟨#[97]⟩:ByteArray),(⟨#[120,32,121]⟩:ByteArray),(⟨#[195,169]⟩:ByteArray),(⟨#[60,98,62]⟩:ByteArray),(⟨#[34]⟩:ByteArray),(⟨#[38]⟩:ByteArray),(⟨#[194,160,122]⟩:ByteArray),(⟨#[49]⟩:ByteArray)]:List ByteArray))).bind fun bt104=>(some (bt104.1,bt104.2.1,bt104.2.2)))=some (r1,r2,r3):=h;clear h;obtain⟨y101,hy101⟩: ∃y_:List ByteArray,y_=(([(⟨#[]⟩:ByteArray),(⟨#[97]⟩:ByteArray),(⟨#[120,32,121]⟩:ByteArray),(⟨#[195,169]⟩:ByteArray),(⟨#[60,98,62]⟩:ByteArray),(⟨#[34]⟩:ByteArray),(⟨#[38]⟩:ByteArray),(⟨#[194,160,122]⟩:ByteArray),(⟨#[49]⟩:ByteArray)]:List ByteArray)):=⟨_,rfl⟩
 replace H:((spec_l1Pick.f s0_0 s0_1 s0_2 y101).bind fun bt104=>(some (bt104.1,bt104.2.1,bt104.2.2)))=some (r1,r2,r3):=by first|(rw[hy101];with_reducible exact H)|(have H2_:=(Option.bind_some _ _).symm.trans H;rw[hy101];with_reducible exact H2_)|(have H2_:=(Option.bind_some _ _).symm.trans H;with_reducible exact H2_)|with_reducible exact H|(rw[hy101];exact H)|exact H
 have Ny101:=Ak hy101;clear hy101;replace H:=Ob H;obtain⟨⟨t104,t105,t106⟩,A20,H⟩:=H;replace H:(some (t104,t105,t106))=some (r1,r2,r3):=H;have A2:=Ak A20;clear A20;simp only[Option.some.injEq,Prod.mk.injEq]at H;obtain⟨rfl,rfl,rfl⟩:=H;go_enter Tryz.func99,Tryz.ntmps99;go_wp2_with (first|((with_reducible refine gate_dst (N:=4) rfl ?_);refine Kd.R_lit Kd.string _ 9 ?hg (N:=4) ?hd (xs:=([(⟨#[]⟩:ByteArray),(⟨#[97]⟩:ByteArray),(⟨#[120,32,121]⟩:ByteArray),(⟨#[195,169]⟩:ByteArray),(⟨#[60,98,62]⟩:ByteArray),(⟨#[34]⟩:ByteArray),(⟨#[38]⟩:ByteArray),(⟨#[194,160,122]⟩:ByteArray),(⟨#[49]⟩:ByteArray)]:List ByteArray)) (inner:= [.string (⟨#[]⟩:ByteArray), .string (⟨#[97]⟩:ByteArray), .string (⟨#[120,32,121]⟩:ByteArray), .string (⟨#[195,169]⟩:ByteArray), .string (⟨#[60,98,62]⟩:ByteArray), .string (⟨#[34]⟩:ByteArray), .string (⟨#[38]⟩:ByteArray), .string (⟨#[194,160,122]⟩:ByteArray), .string (⟨#[49]⟩:ByteArray)]) (ok:=fun _=>True) (okp:=fun _=>True) ?hr ?hp (fun _ hk=>hk) trivial (Below.refl _ _) (Nat.le_refl _) (by simp) ?_;(case hd=>rfl);(case hg=>rfl);(case hr=>first|(go_simp;done)|(go_simp;rfl));(case hp=>exact(Reps.one (show Kd.M Kd.string _ _ _ (⟨#[]⟩:ByteArray) [.string (⟨#[]⟩:ByteArray)]from rfl) (Reps.one (show Kd.M Kd.string _ _ _ (⟨#[97]⟩:ByteArray) [.string (⟨#[97]⟩:ByteArray)]from rfl) (Reps.one (show Kd.M Kd.string _ _ _ (⟨#[120,32,121]⟩:ByteArray) [.string (⟨#[120,32,121]⟩:ByteArray)]from rfl) (Reps.one (show Kd.M Kd.string _ _ _ (⟨#[195,169]⟩:ByteArray) [.string (⟨#[195,169]⟩:ByteArray)]from rfl) (Reps.one (show Kd.M Kd.string _ _ _ (⟨#[60,98,62]⟩:ByteArray) [.string (⟨#[60,98,62]⟩:ByteArray)]from rfl) (Reps.one (show Kd.M Kd.string _ _ _ (⟨#[34]⟩:ByteArray) [.string (⟨#[34]⟩:ByteArray)]from rfl) (Reps.one (show Kd.M Kd.string _ _ _ (⟨#[38]⟩:ByteArray) [.string (⟨#[38]⟩:ByteArray)]from rfl) (Reps.one (show Kd.M Kd.string _ _ _ (⟨#[194,160,122]⟩:ByteArray) [.string (⟨#[194,160,122]⟩:ByteArray)]from rfl) (Reps.one (show Kd.M Kd.string _ _ _ (⟨#[49]⟩:ByteArray) [.string (⟨#[49]⟩:ByteArray)]from rfl) (Reps.none _ _)))))))))));intro v102 w3 ho4 hb hg_ hnew_;clear hg_ hnew_;(first|rw[←Ny101.out]at ho4|(simp only[Int.reduceToNat]at ho4;rw[←Ny101.out]at ho4));have n0_:=Ak (Kd.R_lower ho4 (keep_size (w:=w) (g:=g) (row:=none) (HK.out)));have n1_:=Ak (IsS81.below (HI0.out) hb);have n2_:=Ak (KeepBut.trans (HK.out) (KeepBut.of_below hb g none) (.inl rfl));have n3_:=Ak (below_step (by repeat(first|exact HB.out|apply below_alloc|apply pw_below_drewN|apply below_drew1|refine below_set ?_ (IsS81.ge HI0.out))) hb);clear HI0;clear HK;clear HB;have HO103:=n0_;have HI0:=n1_;have HK:=n2_;have HB:=n3_;clear n0_ n1_ n2_ n3_;clear hb ho4;obtain⟨Ao5,co5,eo5⟩:=Kd.R_slice HO103.out;subst eo5)|((with_reducible refine gate_callee (f:=97) rfl ?_);refine goesL_ (some 5) rfl rfl Tryz.func97 (by kernel_rfl) rfl #[.pointer (some ⟨g,0,none⟩), .slice Ao5 y101.length co5] rfl (by(try simp only[List.map_toArray,List.map_cons,List.map_nil]);first|done|rfl|(simp only[List.length_drop,List.length_take];rfl)) ?_;(with_reducible refine(spec_l1Pick.calls g s0_0 s0_1 s0_2 _ _ y101 t104 t105 t106 w0 _ ?side1 ?side2 ?side3 ?side4 ?side5 A2.out).mono ?_);(case side1=>repeat(first|(with_reducible first|exact HI0.out|apply IsS81.alloc|apply IsS81.drewN|apply IsS81.drew|apply IsS81.set_1|apply IsS81.set_2)|exact HI0.out));(case side2=>repeat(first|(with_reducible first|exact HB.out|apply below_alloc|apply pw_below_drewN|apply below_drew1|refine below_set ?_ (IsS81.ge HI0.out))|exact HB.out));(case side3=>repeat(first|exact(Kd.R_reads' HO103.out).2.2|(with_reducible refine Kd.C_alloc ?_ _)|(with_reducible refine Kd.C_drewN ?_ _)|(with_reducible refine Kd.C_drew ?_)));(case side4=>exact(Kd.R_reads' HO103.out).2.1);(case side5=>exact far_slice (IsS81.own_ne HI0.out HO103.out (by decide)));rintro e w6 ⟨rfl,hi,hb,hk⟩;refine⟨_,rfl, ?_⟩;have n0_:=Ak (Kd.R_mono (Kd.R_keep (IsS81.apart (show IsS81 w0 _ g s0_0 s0_1 s0_2 from HI0.out) HO103.out (by decide)) hk (fun _ h=>h.2)) (fun _ h=>h.1));have n1_:=Ak (KeepBut.trans (HK.out) hk (.inl rfl));have n2_:=Ak (hb);have n3_:=Ak (hi);clear HO103;clear HK;clear HB;clear HI0;have HO103:=n0_;have HK:=n1_;have HB:=n2_;have HI0:=n3_;clear n0_ n1_ n2_ n3_;(try clear hb);(try clear hb2);(try clear hk);(try clear hi)))
 go_ret;exact⟨by first|rfl|(simp [*]<;>rfl),HI0.out,by repeat(first|exact HB.out|apply below_alloc|apply pw_below_drewN|apply below_drew1|refine below_set ?_ (IsS81.ge HI0.out)),HK.out⟩
def spec_AttrOf.l0:Nat→List (S72)→ByteArray→Int→Option (ByteArray×Bool)
 |0,_,_,_=>none
 |k+1,x0,x1,x6=>if x6<(x0.length:Int)then(if 0≤x6 then(if((rd_T72 x0 x6).f0).toList=x1.toList then(some ((rd_T72 x0 x6).f1,true))else(spec_AttrOf.l0 k x0 x1 (wrap64 (x6+1))))else(none))else(some ((⟨#[]⟩:ByteArray),false))
def spec_AttrOf.f(k:Nat)(l0:List (S72))(a1:ByteArray):Option (ByteArray×Bool):=spec_AttrOf.l0 k l0 a1 0
theorem spec_AttrOf.mono_l: ∀k,(∀y0 y1 y2,LeO (spec_AttrOf.l0 k y0 y1 y2) (spec_AttrOf.l0 (k+1) y0 y1 y2))
 |0=>fun _ _ _ r h=>by simp [spec_AttrOf.l0]at h
 |k+1=>by
  have ih0:=spec_AttrOf.mono_l k
  ·intro y0 y1 y2;unfold spec_AttrOf.l0;repeat' first
   |(with_reducible exact ih0 _ _ _)
   |(with_reducible exact LeO.refl _)
   |(with_reducible exact LeO.none _)
   |(with_reducible refine LeO.ite ?_ ?_)
   |(with_reducible refine LeO.bind ?_ (fun _=> ?_))
   |exact ih0 _ _ _
   |exact LeO.none _
   |refine LeO.ite ?_ ?_
   |refine LeO.bind ?_ (fun _=> ?_)
theorem spec_AttrOf.mono: ∀a0 a1 k,LeO (spec_AttrOf.f k a0 a1) (spec_AttrOf.f (k+1) a0 a1):=by
 intro a0 a1 k;have ih0:=spec_AttrOf.mono_l k;unfold spec_AttrOf.f;repeat' first
  |(with_reducible exact ih0 _ _ _)
  |(with_reducible exact LeO.refl _)
  |(with_reducible exact LeO.none _)
  |(with_reducible refine LeO.ite ?_ ?_)
  |(with_reducible refine LeO.bind ?_ (fun _=> ?_))
  |exact ih0 _ _ _
  |exact LeO.none _
  |refine LeO.ite ?_ ?_
  |refine LeO.bind ?_ (fun _=> ?_)
theorem spec_AttrOf.calls(k:Nat)(A0:Option Addr)(c0:Nat)(l0:List (S72))(a1:ByteArray)(r1:ByteArray)(r2:Bool)(w:World)(hr0:Kd.C k72 w A0 l0.length l0)(hc0:l0.length≤c0)(h:spec_AttrOf.f k l0 a1=some (r1,r2)):
 Calls Tryz.prog 122 #[.slice A0 l0.length c0, .string a1] w fun e w'=>e= .returned (.tuple #[.string r1, .bool r2])∧Drawn0 w w':=by
 have HR0:=Ak hr0;have HC0:=Ak hc0;clear hr0 hc0;have H:(spec_AttrOf.l0 k l0 a1 0)=some (r1,r2):=h;clear h;have H':=Ak H;clear H;go_enter Tryz.func122,Tryz.ntmps122;go_wp2;go_loopg [6] k (fun kq v6 w'=> ∃(x6_1:Int),v6= .int .i64 x6_1∧Aside0 (spec_AttrOf.l0 kq l0 a1 x6_1=some (r1,r2))∧Aside0 (kq≤k)∧Drawn0 w w');case atStart=>exact⟨(0),(by first|rfl|(simp;done)|(simp [*];done)),H',⟨Nat.le_refl _⟩,by repeat(first|exact Drawn0.refl _|apply Drawn0.step)⟩
 case round=>
  clear H';try clear c1
  try clear p2
  obtain⟨x6_1,rfl,HA,HK1,⟨m1,rfl⟩⟩:=hrel;cases gk with
  |zero=>exact absurd HA.out (by simp [spec_AttrOf.l0])
  |succ k1=>
   have H:=HA.out;clear HA;simp only[spec_AttrOf.l0]at H;by_cases c3:x6_1<(l0.length:Int)
   ·rw[if_pos c3]at H;have c3b0:decide (x6_1<(l0.length:Int))=true:=decide_eq_true c3;clear c3;by_cases c4:0≤x6_1
    ·rw[if_pos c4]at H;have c4b0:decide (0≤x6_1)=true:=decide_eq_true c4;clear c4;by_cases c5:((rd_T72 l0 x6_1).f0).toList=a1.toList
     ·rw[if_pos c5]at H;have c5b0:(((rd_T72 l0 x6_1).f0).toList==a1.toList)=true:=beq_iff_eq.mpr c5;have c5b1:(((rd_T72 l0 x6_1).f0).toList !=a1.toList)=false:=bne_eq_false_iff_eq.mpr c5;clear c5;simp only[Option.some.injEq,Prod.mk.injEq]at H;obtain⟨rfl,rfl⟩:=H;have p101:0≤(x6_1:Int):=of_decide_eq_true (by assumption);have q101:x6_1<(l0.length:Int):=of_decide_eq_true (by assumption);obtain⟨ad101,e101,hx101_0,hx101_1⟩:=at_T72 HR0.out x6_1 p101 q101;cases e101;replace p101:=eq_true p101;replace q101:=eq_true q101;have p102:0≤(x6_1:Int):=of_decide_eq_true (by assumption);have q102:x6_1<(l0.length:Int):=of_decide_eq_true (by assumption);obtain⟨ad102,e102,hx102_0,hx102_1⟩:=at_T72 HR0.out x6_1 p102 q102;obtain rfl:ad101=ad102:=(by injection e102)
      replace p102:=eq_true p102;replace q102:=eq_true q102;go_wp2;go_ret2;exact⟨by first|rfl|(simp;done)|(simp [*];done),by repeat(first|exact Drawn0.refl _|apply Drawn0.step)⟩
     ·rw[if_neg c5]at H;have c5b0:(((rd_T72 l0 x6_1).f0).toList==a1.toList)=false:=beq_eq_false_iff_ne.mpr c5;have c5b1:(((rd_T72 l0 x6_1).f0).toList !=a1.toList)=true:=bne_iff_ne.mpr c5;have H':=Ak H;clear H;have p101:0≤(x6_1:Int):=of_decide_eq_true (by assumption);have q101:x6_1<(l0.length:Int):=of_decide_eq_true (by assumption);obtain⟨ad101,e101,hx101_0,hx101_1⟩:=at_T72 HR0.out x6_1 p101 q101;cases e101;replace p101:=eq_true p101;replace q101:=eq_true q101;go_wp2;go_roundg k1;case measure=>have:=HK1.out;omega
      case rel=>exact⟨(wrap64 (x6_1+1)),(by first|rfl|(simp;done)|(simp [*];done)),H',⟨by have:=HK1.out;omega⟩,by repeat(first|exact Drawn0.refl _|apply Drawn0.step)⟩
    ·rw[if_neg c4]at H;exact absurd H (by simp)
   ·rw[if_neg c3]at H;have c3b0:decide (x6_1<(l0.length:Int))=false:=decide_eq_false c3;clear c3;simp only[Option.some.injEq,Prod.mk.injEq]at H;obtain⟨rfl,rfl⟩:=H;go_wp2;go_ret2;exact⟨by first|rfl|(simp;done)|(simp [*];done),by repeat(first|exact Drawn0.refl _|apply Drawn0.step)⟩
def spec_AttrAdd.f(k:Nat)(l0:List (S72))(a1_0:ByteArray)(a1_1:ByteArray):Option ((List (S72))):=(some (([]:List (S72)):List (S72))).bind fun y102=>(if y102.length+l0.length<4398046511104 then((some (y102++l0:List (S72))).bind fun y105=>((spec_AttrOf.f k l0 a1_0).bind fun bt108=>(if bt108.2=true then(some y105)else(if(l0.length:Int)≥20 then(some y105)else((spec_l4Attr.f k a1_0 a1_1).bind fun t110=>(if t110=true then(if y105.length<4398046511104 then(some (y105++ [(⟨a1_0,a1_1⟩:S72)]))else(none))else(some y105)))))))else(none))
theorem spec_AttrAdd.mono: ∀a0 a1 a2 k,LeO (spec_AttrAdd.f k a0 a1 a2) (spec_AttrAdd.f (k+1) a0 a1 a2):=by
 intro a0 a1 a2 k;unfold spec_AttrAdd.f;repeat' first
  |(with_reducible exact spec_AttrOf.mono _ _ _)
  |(with_reducible exact spec_l4Attr.mono _ _ _)
  |(with_reducible exact LeO.refl _)
  |(with_reducible exact LeO.none _)
  |(with_reducible refine LeO.ite ?_ ?_)
  |(with_reducible refine LeO.bind ?_ (fun _=> ?_))
  |exact spec_AttrOf.mono _ _ _
  |exact spec_l4Attr.mono _ _ _
  |exact LeO.none _
  |refine LeO.ite ?_ ?_
  |refine LeO.bind ?_ (fun _=> ?_)
theorem spec_AttrAdd.calls(k:Nat)(A0:Option Addr)(c0:Nat)(l0:List (S72))(a1_0:ByteArray)(a1_1:ByteArray)(r:List (S72))(w:World)(hr0:Kd.C k72 w A0 l0.length l0)(hc0:l0.length≤c0)(h:spec_AttrAdd.f k l0 a1_0 a1_1=some r):
 Calls Tryz.prog 112 #[.slice A0 l0.length c0, .agg #[.string a1_0, .string a1_1]] w fun e w'=> ∃v0_:Value,e= .returned (v0_)∧Kd.R k72 72 w' w.heap.size (fun _=>True) v0_ r∧Below w.heap.size w w':=by
 have hu72:=Tryz.underlying72;have HR0:=Ak hr0;have HC0:=Ak hc0;clear hr0 hc0;have HB:=Ak (Below.refl w.heap.size w);have H:((some (([]:List (S72)):List (S72))).bind fun y102=>(if y102.length+l0.length<4398046511104 then((some (y102++l0:List (S72))).bind fun y105=>((spec_AttrOf.f k l0 a1_0).bind fun bt108=>(if bt108.2=true then(some y105)else(if(l0.length:Int)≥20 then(some y105)else((spec_l4Attr.f k a1_0 a1_1).bind fun t110=>(if t110=true then(if y105.length<4398046511104 then(some (y105++ [(⟨a1_0,a1_1⟩:S72)]))else(none))else(some y105)))))))else(none)))=some r:=h;clear h;obtain⟨y102,hy102⟩: ∃y_:List (S72),y_=(([]:List (S72))):=⟨_,rfl⟩
 replace H:(if y102.length+l0.length<4398046511104 then((some (y102++l0:List (S72))).bind fun y105=>((spec_AttrOf.f k l0 a1_0).bind fun bt108=>(if bt108.2=true then(some y105)else(if(l0.length:Int)≥20 then(some y105)else((spec_l4Attr.f k a1_0 a1_1).bind fun t110=>(if t110=true then(if y105.length<4398046511104 then(some (y105++ [(⟨a1_0,a1_1⟩:S72)]))else(none))else(some y105)))))))else(none))=some r:=by first|(rw[hy102];with_reducible exact H)|(have H2_:=(Option.bind_some _ _).symm.trans H;rw[hy102];with_reducible exact H2_)|(have H2_:=(Option.bind_some _ _).symm.trans H;with_reducible exact H2_)|with_reducible exact H|(rw[hy102];exact H)|exact H
 have Ny102:=Ak hy102;clear hy102;by_cases c3:y102.length+l0.length<4398046511104
 ·rw[if_pos c3]at H;have LMc3:=Ak c3;clear c3;obtain⟨y105,hy105⟩: ∃y_:List (S72),y_=(y102++l0):=⟨_,rfl⟩
  replace H:((spec_AttrOf.f k l0 a1_0).bind fun bt108=>(if bt108.2=true then(some y105)else(if(l0.length:Int)≥20 then(some y105)else((spec_l4Attr.f k a1_0 a1_1).bind fun t110=>(if t110=true then(if y105.length<4398046511104 then(some (y105++ [(⟨a1_0,a1_1⟩:S72)]))else(none))else(some y105))))))=some r:=by first|(rw[hy105];with_reducible exact H)|(have H2_:=(Option.bind_some _ _).symm.trans H;rw[hy105];with_reducible exact H2_)|(have H2_:=(Option.bind_some _ _).symm.trans H;with_reducible exact H2_)|with_reducible exact H|(rw[hy105];exact H)|exact H
  have Ny105:=Ak hy105;clear hy105;replace H:=Ob H;obtain⟨⟨t108,t109⟩,A40,H⟩:=H;replace H:(if t109=true then(some y105)else(if(l0.length:Int)≥20 then(some y105)else((spec_l4Attr.f k a1_0 a1_1).bind fun t110=>(if t110=true then(if y105.length<4398046511104 then(some (y105++ [(⟨a1_0,a1_1⟩:S72)]))else(none))else(some y105)))))=some r:=H;have A4:=Ak A40;clear A40;by_cases c5:t109=true
  ·subst c5;rw[if_pos rfl]at H;obtain rfl:=Oi H;go_enter Tryz.func112,Tryz.ntmps112;go_wp2_with (first|((with_reducible refine gate_dst (N:=3) rfl ?_);(try(refine gate_guard (by rfl) ?_;dsimp only));refine box_event ?hg (N:=3) ?hd (cs:= #[.string a1_0, .string a1_1]) (t:=72) ?hr ?_;(case hd=>rfl);(case hg=>rfl);(case hr=>go_simp);intro gb101 hg w6 hbox hb;have n0_:=Ak (below_step (HB.out) hb);have n1_:=Ak (hbox);have n2_:=Ak ((by rw[hg];exact(below_size (HB.out)):w.heap.size≤gb101));have n3_:=n2_;clear HB;have HB:=n0_;have BK101:=n1_;have GW101:=n2_;have GE101:=n3_;clear n0_ n1_ n2_ n3_;clear hb hbox hg)|((with_reducible refine gate_dst (N:=8) rfl ?_);(try(refine gate_guard (by rfl) ?_;dsimp only));refine Kd.R_lit k72 _ 72 ?hg (N:=8) ?hd (xs:=([]:List (S72))) (inner:= []) (ok:=fun _=>True) (okp:=fun _=>True) ?hr ?hp (fun _ hk=>hk) trivial (Below.refl _ _) (Nat.le_refl _) (by simp) ?_;(case hd=>rfl);(case hg=>rfl);(case hr=>go_simp);(case hp=>exact(Reps.none _ _));intro v103 w7 ho8 hb hg_ hnew_;clear hg_ hnew_;(first|rw[←Ny102.out]at ho8|(simp only[Int.reduceToNat]at ho8;rw[←Ny102.out]at ho8));have n0_:=Ak (Kd.R_lower (Kd.R_newB ho8 (g:=gb101) (o:= .cells #[.string a1_0, .string a1_1] 72 (0,0)) (by(with_reducible repeat(first|refine blk_drewN ?_ _|refine blk_drew ?_|refine blk_alloc ?_ _));exact BK101.out)) (below_size (by repeat(first|exact HB.out|apply below_alloc|apply pw_below_drewN|apply below_drew1|refine below_set ?_ GE101.out))));have n1_:=Ak (blk_below (g:=gb101) (o:= .cells #[.string a1_0, .string a1_1] 72 (0,0)) (by(with_reducible repeat(first|refine blk_drewN ?_ _|refine blk_drew ?_|refine blk_alloc ?_ _));exact BK101.out) hb);have n2_:=Ak (below_step (by repeat(first|exact HB.out|apply below_alloc|apply pw_below_drewN|apply below_drew1|refine below_set ?_ GE101.out)) hb);clear BK101;clear HB;have HO104:=n0_;have BK101:=n1_;have HB:=n2_;clear n0_ n1_ n2_;clear hb ho8)|((with_reducible refine gate_builtin (b:= .append) (xs:= #[.tmp 8, .tmp 9]) rfl ?_);(try(refine gate_guard (by rfl) ?_;dsimp only));at_builtin;refine Kd.R_append_rows k72 (w0:=w) w.heap.size rfl (.tmp 8) (.tmp 9) 38 72 (.agg #[(.string ⟨#[]⟩),(.string ⟨#[]⟩)]) 32 rfl Tryz.underlying38 info72 rfl (by decide) (by omega) v103 y102 l0 _ _ _ (fun k_=>k_≠gb101) (fun _=>False) rfl rfl ?aO ?aR (fun _ _ h=>h) (fun _ h=>h.elim) ?aF ?aB ?aS ?aL ?_;(case aR=>exact(Kd.C_below HR0.out HB.out));(case aB=>exact(by repeat(first|exact HB.out|apply below_alloc|apply pw_below_drewN|apply below_drew1|refine below_set ?_ GE101.out)));(case aF=>exact(fun k_ hk=>Kd.freshB (g:=gb101) (o:= .cells #[.string a1_0, .string a1_1] 72 (0,0)) (by(with_reducible repeat(first|refine blk_drewN ?_ _|refine blk_drew ?_|refine blk_alloc ?_ _));exact BK101.out) k_ hk));(case aO=>exact(by(with_reducible repeat(first|apply Kd.R_alloc|apply Kd.R_drewN|apply Kd.R_drew));exact Kd.R_mono HO104.out (fun _ hk=>hk.2)));(case aS=>exact(below_size (by repeat(first|exact HB.out|apply below_alloc|apply pw_below_drewN|apply below_drew1|refine below_set ?_ GE101.out))));(case aL=>have:=LMc3.out;omega);intro v106 w9 ho hb hg hat;rw[←Ny105.out]at ho;have n0_:=Ak (blk_grown (g:=gb101) (o:= .cells #[.string a1_0, .string a1_1] 72 (0,0)) (by(with_reducible repeat(first|refine blk_drewN ?_ _|refine blk_drew ?_|refine blk_alloc ?_ _));exact BK101.out) hg (Kd.R_away HO104.out (fun _ hk=>hk.2)));have n1_:=Ak (hb);have n2_:=Ak (ho);clear BK101;clear HB;clear HO104;have BK101:=n0_;have HB:=n1_;have HO107:=n2_;clear n0_ n1_ n2_;clear ho hb hg hat;have hcz10_0:=blk_cell BK101.out 0;have hcz10_1:=blk_cell BK101.out 1;have hfz10_0:=blk_frozen BK101.out 0;have hfz10_1:=blk_frozen BK101.out 1)|((with_reducible refine gate_callee (f:=122) rfl ?_);refine goesL_ (some 15) rfl rfl Tryz.func122 (by kernel_rfl) rfl #[.slice A0 l0.length c0, .string a1_0] rfl (by(try simp only[List.map_toArray,List.map_cons,List.map_nil]);first|done|rfl|(simp only[List.length_drop,List.length_take];rfl)) ?_;(with_reducible refine(spec_AttrOf.calls k _ _ l0 a1_0 t108 true _ ?side1 ?side2 A4.out).mono ?_);(case side1=>exact(Kd.C_below HR0.out HB.out));(case side2=>exact HC0.out);rintro e w' ⟨rfl,⟨nd,rfl⟩⟩;refine⟨_,rfl, ?_⟩))
   go_ret;exact⟨_,by first|rfl|(simp [*]<;>rfl),by(with_reducible repeat(first|apply Kd.R_alloc|apply Kd.R_drewN|apply Kd.R_drew));exact Kd.R_mono HO107.out (fun _ hk=>trivial),by repeat(first|exact HB.out|apply below_alloc|apply pw_below_drewN|apply below_drew1|refine below_set ?_ GE101.out)⟩
  ·replace c5:=Bool.eq_false_iff.mpr c5;subst c5;rw[if_neg (show ¬(false=true)by decide)]at H;by_cases c11:(l0.length:Int)≥20
   ·rw[if_pos c11]at H;have c11b0:decide (20≤(l0.length:Int))=true:=decide_eq_true c11;have c11b1:decide (20≤l0.length)=true:=decide_eq_true (by omega);clear c11;obtain rfl:=Oi H;go_enter Tryz.func112,Tryz.ntmps112;go_wp2_with (first|((with_reducible refine gate_dst (N:=3) rfl ?_);(try(refine gate_guard (by rfl) ?_;dsimp only));refine box_event ?hg (N:=3) ?hd (cs:= #[.string a1_0, .string a1_1]) (t:=72) ?hr ?_;(case hd=>rfl);(case hg=>rfl);(case hr=>go_simp);intro gb101 hg w12 hbox hb;have n0_:=Ak (below_step (HB.out) hb);have n1_:=Ak (hbox);have n2_:=Ak ((by rw[hg];exact(below_size (HB.out)):w.heap.size≤gb101));have n3_:=n2_;clear HB;have HB:=n0_;have BK101:=n1_;have GW101:=n2_;have GE101:=n3_;clear n0_ n1_ n2_ n3_;clear hb hbox hg)|((with_reducible refine gate_dst (N:=8) rfl ?_);(try(refine gate_guard (by rfl) ?_;dsimp only));refine Kd.R_lit k72 _ 72 ?hg (N:=8) ?hd (xs:=([]:List (S72))) (inner:= []) (ok:=fun _=>True) (okp:=fun _=>True) ?hr ?hp (fun _ hk=>hk) trivial (Below.refl _ _) (Nat.le_refl _) (by simp) ?_;(case hd=>rfl);(case hg=>rfl);(case hr=>go_simp);(case hp=>exact(Reps.none _ _));intro v103 w13 ho14 hb hg_ hnew_;clear hg_ hnew_;(first|rw[←Ny102.out]at ho14|(simp only[Int.reduceToNat]at ho14;rw[←Ny102.out]at ho14));have n0_:=Ak (Kd.R_lower (Kd.R_newB ho14 (g:=gb101) (o:= .cells #[.string a1_0, .string a1_1] 72 (0,0)) (by(with_reducible repeat(first|refine blk_drewN ?_ _|refine blk_drew ?_|refine blk_alloc ?_ _));exact BK101.out)) (below_size (by repeat(first|exact HB.out|apply below_alloc|apply pw_below_drewN|apply below_drew1|refine below_set ?_ GE101.out))));have n1_:=Ak (blk_below (g:=gb101) (o:= .cells #[.string a1_0, .string a1_1] 72 (0,0)) (by(with_reducible repeat(first|refine blk_drewN ?_ _|refine blk_drew ?_|refine blk_alloc ?_ _));exact BK101.out) hb);have n2_:=Ak (below_step (by repeat(first|exact HB.out|apply below_alloc|apply pw_below_drewN|apply below_drew1|refine below_set ?_ GE101.out)) hb);clear BK101;clear HB;have HO104:=n0_;have BK101:=n1_;have HB:=n2_;clear n0_ n1_ n2_;clear hb ho14)|((with_reducible refine gate_builtin (b:= .append) (xs:= #[.tmp 8, .tmp 9]) rfl ?_);(try(refine gate_guard (by rfl) ?_;dsimp only));at_builtin;refine Kd.R_append_rows k72 (w0:=w) w.heap.size rfl (.tmp 8) (.tmp 9) 38 72 (.agg #[(.string ⟨#[]⟩),(.string ⟨#[]⟩)]) 32 rfl Tryz.underlying38 info72 rfl (by decide) (by omega) v103 y102 l0 _ _ _ (fun k_=>k_≠gb101) (fun _=>False) rfl rfl ?aO ?aR (fun _ _ h=>h) (fun _ h=>h.elim) ?aF ?aB ?aS ?aL ?_;(case aR=>exact(Kd.C_below HR0.out HB.out));(case aB=>exact(by repeat(first|exact HB.out|apply below_alloc|apply pw_below_drewN|apply below_drew1|refine below_set ?_ GE101.out)));(case aF=>exact(fun k_ hk=>Kd.freshB (g:=gb101) (o:= .cells #[.string a1_0, .string a1_1] 72 (0,0)) (by(with_reducible repeat(first|refine blk_drewN ?_ _|refine blk_drew ?_|refine blk_alloc ?_ _));exact BK101.out) k_ hk));(case aO=>exact(by(with_reducible repeat(first|apply Kd.R_alloc|apply Kd.R_drewN|apply Kd.R_drew));exact Kd.R_mono HO104.out (fun _ hk=>hk.2)));(case aS=>exact(below_size (by repeat(first|exact HB.out|apply below_alloc|apply pw_below_drewN|apply below_drew1|refine below_set ?_ GE101.out))));(case aL=>have:=LMc3.out;omega);intro v106 w15 ho hb hg hat;rw[←Ny105.out]at ho;have n0_:=Ak (blk_grown (g:=gb101) (o:= .cells #[.string a1_0, .string a1_1] 72 (0,0)) (by(with_reducible repeat(first|refine blk_drewN ?_ _|refine blk_drew ?_|refine blk_alloc ?_ _));exact BK101.out) hg (Kd.R_away HO104.out (fun _ hk=>hk.2)));have n1_:=Ak (hb);have n2_:=Ak (ho);clear BK101;clear HB;clear HO104;have BK101:=n0_;have HB:=n1_;have HO107:=n2_;clear n0_ n1_ n2_;clear ho hb hg hat;have hcz16_0:=blk_cell BK101.out 0;have hcz16_1:=blk_cell BK101.out 1;have hfz16_0:=blk_frozen BK101.out 0;have hfz16_1:=blk_frozen BK101.out 1)|((with_reducible refine gate_callee (f:=122) rfl ?_);refine goesL_ (some 15) rfl rfl Tryz.func122 (by kernel_rfl) rfl #[.slice A0 l0.length c0, .string a1_0] rfl (by(try simp only[List.map_toArray,List.map_cons,List.map_nil]);first|done|rfl|(simp only[List.length_drop,List.length_take];rfl)) ?_;(with_reducible refine(spec_AttrOf.calls k _ _ l0 a1_0 t108 false _ ?side1 ?side2 A4.out).mono ?_);(case side1=>exact(Kd.C_below HR0.out HB.out));(case side2=>exact HC0.out);rintro e w' ⟨rfl,⟨nd,rfl⟩⟩;refine⟨_,rfl, ?_⟩))
    go_ret;exact⟨_,by first|rfl|(simp [*]<;>rfl),by(with_reducible repeat(first|apply Kd.R_alloc|apply Kd.R_drewN|apply Kd.R_drew));exact Kd.R_mono HO107.out (fun _ hk=>trivial),by repeat(first|exact HB.out|apply below_alloc|apply pw_below_drewN|apply below_drew1|refine below_set ?_ GE101.out)⟩
   ·rw[if_neg c11]at H;have c11b0:decide (20≤(l0.length:Int))=false:=decide_eq_false c11;have c11b1:decide (20≤l0.length)=false:=decide_eq_false (by omega);clear c11;replace H:=Ob H;obtain⟨t110,A170,H⟩:=H;replace H:(if t110=true then(if y105.length<4398046511104 then(some (y105++ [(⟨a1_0,a1_1⟩:S72)]))else(none))else(some y105))=some r:=H;have A17:=Ak A170;clear A170;by_cases c18:t110=true
    ·subst c18;rw[if_pos rfl]at H;by_cases c19:y105.length<4398046511104
     ·rw[if_pos c19]at H;have LMc19:=Ak c19;clear c19;obtain⟨y111,hy111⟩: ∃y_:List (S72),y_=(y105++ [(⟨a1_0,a1_1⟩:S72)]):=⟨_,rfl⟩
      replace H:(some y111)=some r:=by first|(rw[hy111];with_reducible exact H)|(have H2_:=(Option.bind_some _ _).symm.trans H;rw[hy111];with_reducible exact H2_)|(have H2_:=(Option.bind_some _ _).symm.trans H;with_reducible exact H2_)|with_reducible exact H|(rw[hy111];exact H)|exact H
      have Ny111:=Ak hy111;clear hy111;obtain rfl:=Oi H;go_enter Tryz.func112,Tryz.ntmps112;go_wp2_with (first|((with_reducible refine gate_dst (N:=3) rfl ?_);(try(refine gate_guard (by rfl) ?_;dsimp only));refine box_event ?hg (N:=3) ?hd (cs:= #[.string a1_0, .string a1_1]) (t:=72) ?hr ?_;(case hd=>rfl);(case hg=>rfl);(case hr=>go_simp);intro gb101 hg w20 hbox hb;have n0_:=Ak (below_step (HB.out) hb);have n1_:=Ak (hbox);have n2_:=Ak ((by rw[hg];exact(below_size (HB.out)):w.heap.size≤gb101));have n3_:=n2_;clear HB;have HB:=n0_;have BK101:=n1_;have GW101:=n2_;have GE101:=n3_;clear n0_ n1_ n2_ n3_;clear hb hbox hg)|((with_reducible refine gate_dst (N:=8) rfl ?_);(try(refine gate_guard (by rfl) ?_;dsimp only));refine Kd.R_lit k72 _ 72 ?hg (N:=8) ?hd (xs:=([]:List (S72))) (inner:= []) (ok:=fun _=>True) (okp:=fun _=>True) ?hr ?hp (fun _ hk=>hk) trivial (Below.refl _ _) (Nat.le_refl _) (by simp) ?_;(case hd=>rfl);(case hg=>rfl);(case hr=>go_simp);(case hp=>exact(Reps.none _ _));intro v103 w21 ho22 hb hg_ hnew_;clear hg_ hnew_;(first|rw[←Ny102.out]at ho22|(simp only[Int.reduceToNat]at ho22;rw[←Ny102.out]at ho22));have n0_:=Ak (Kd.R_lower (Kd.R_newB ho22 (g:=gb101) (o:= .cells #[.string a1_0, .string a1_1] 72 (0,0)) (by(with_reducible repeat(first|refine blk_drewN ?_ _|refine blk_drew ?_|refine blk_alloc ?_ _));exact BK101.out)) (below_size (by repeat(first|exact HB.out|apply below_alloc|apply pw_below_drewN|apply below_drew1|refine below_set ?_ GE101.out))));have n1_:=Ak (blk_below (g:=gb101) (o:= .cells #[.string a1_0, .string a1_1] 72 (0,0)) (by(with_reducible repeat(first|refine blk_drewN ?_ _|refine blk_drew ?_|refine blk_alloc ?_ _));exact BK101.out) hb);have n2_:=Ak (below_step (by repeat(first|exact HB.out|apply below_alloc|apply pw_below_drewN|apply below_drew1|refine below_set ?_ GE101.out)) hb);clear BK101;clear HB;have HO104:=n0_;have BK101:=n1_;have HB:=n2_;clear n0_ n1_ n2_;clear hb ho22)|((with_reducible refine gate_builtin (b:= .append) (xs:= #[.tmp 8, .tmp 9]) rfl ?_);(try(refine gate_guard (by rfl) ?_;dsimp only));at_builtin;refine Kd.R_append_rows k72 (w0:=w) w.heap.size rfl (.tmp 8) (.tmp 9) 38 72 (.agg #[(.string ⟨#[]⟩),(.string ⟨#[]⟩)]) 32 rfl Tryz.underlying38 info72 rfl (by decide) (by omega) v103 y102 l0 _ _ _ (fun k_=>k_≠gb101) (fun _=>False) rfl rfl ?aO ?aR (fun _ _ h=>h) (fun _ h=>h.elim) ?aF ?aB ?aS ?aL ?_;(case aR=>exact(Kd.C_below HR0.out HB.out));(case aB=>exact(by repeat(first|exact HB.out|apply below_alloc|apply pw_below_drewN|apply below_drew1|refine below_set ?_ GE101.out)));(case aF=>exact(fun k_ hk=>Kd.freshB (g:=gb101) (o:= .cells #[.string a1_0, .string a1_1] 72 (0,0)) (by(with_reducible repeat(first|refine blk_drewN ?_ _|refine blk_drew ?_|refine blk_alloc ?_ _));exact BK101.out) k_ hk));(case aO=>exact(by(with_reducible repeat(first|apply Kd.R_alloc|apply Kd.R_drewN|apply Kd.R_drew));exact Kd.R_mono HO104.out (fun _ hk=>hk.2)));(case aS=>exact(below_size (by repeat(first|exact HB.out|apply below_alloc|apply pw_below_drewN|apply below_drew1|refine below_set ?_ GE101.out))));(case aL=>have:=LMc3.out;omega);intro v106 w23 ho hb hg hat;rw[←Ny105.out]at ho;have n0_:=Ak (blk_grown (g:=gb101) (o:= .cells #[.string a1_0, .string a1_1] 72 (0,0)) (by(with_reducible repeat(first|refine blk_drewN ?_ _|refine blk_drew ?_|refine blk_alloc ?_ _));exact BK101.out) hg (Kd.R_away HO104.out (fun _ hk=>hk.2)));have n1_:=Ak (hb);have n2_:=Ak (ho);clear BK101;clear HB;clear HO104;have BK101:=n0_;have HB:=n1_;have HO107:=n2_;clear n0_ n1_ n2_;clear ho hb hg hat;have hcz24_0:=blk_cell BK101.out 0;have hcz24_1:=blk_cell BK101.out 1;have hfz24_0:=blk_frozen BK101.out 0;have hfz24_1:=blk_frozen BK101.out 1)|((with_reducible refine gate_callee (f:=122) rfl ?_);refine goesL_ (some 15) rfl rfl Tryz.func122 (by kernel_rfl) rfl #[.slice A0 l0.length c0, .string a1_0] rfl (by(try simp only[List.map_toArray,List.map_cons,List.map_nil]);first|done|rfl|(simp only[List.length_drop,List.length_take];rfl)) ?_;(with_reducible refine(spec_AttrOf.calls k _ _ l0 a1_0 t108 false _ ?side1 ?side2 A4.out).mono ?_);(case side1=>exact(Kd.C_below HR0.out HB.out));(case side2=>exact HC0.out);rintro e w' ⟨rfl,⟨nd,rfl⟩⟩;refine⟨_,rfl, ?_⟩)|(go_at_call 83;(with_reducible refine(spec_l4Attr.calls k a1_0 a1_1 true _ A17.out).mono ?_);rintro e w25 ⟨rfl,hb⟩;have n0_:=Ak (Kd.R_below (by(with_reducible repeat(first|apply Kd.R_alloc|apply Kd.R_drewN|apply Kd.R_drew));exact HO107.out) hb);have n1_:=Ak (blk_below (g:=gb101) (o:= .cells #[.string a1_0, .string a1_1] 72 (0,0)) (by(with_reducible repeat(first|refine blk_drewN ?_ _|refine blk_drew ?_|refine blk_alloc ?_ _));exact BK101.out) hb);have n2_:=Ak (below_step (by repeat(first|exact HB.out|apply below_alloc|apply pw_below_drewN|apply below_drew1|refine below_set ?_ GE101.out)) hb);clear HO107;clear BK101;clear HB;have HO107:=n0_;have BK101:=n1_;have HB:=n2_;clear n0_ n1_ n2_;(try clear hb);have hcz26_0:=blk_cell BK101.out 0;have hcz26_1:=blk_cell BK101.out 1;have hfz26_0:=blk_frozen BK101.out 0;have hfz26_1:=blk_frozen BK101.out 1)|((with_reducible refine gate_builtin (b:= .append) (xs:= #[.tmp 30, .tmp 32]) rfl ?_);(try(refine gate_guard (by rfl) ?_;dsimp only));at_builtin;refine Kd.R_append k72 (w0:=w) w.heap.size rfl (.tmp 30) (.tmp 32) 38 72 (.agg #[(.string ⟨#[]⟩),(.string ⟨#[]⟩)]) 32 rfl Tryz.underlying38 info72 rfl (by decide) (by omega) v106 y105 (⟨a1_0,a1_1⟩:S72) [.string a1_0, .string a1_1] (fun k_=>k_≠gb101) (fun _=>False) rfl rfl ?aP (fun _ hk=>hk.elim) ?aF ?aO ?aB ?aS ?aL ?_;(case aP=>exact k72_mkM _ _ _ (⟨a1_0,a1_1⟩:S72));(case aB=>exact(by repeat(first|exact HB.out|apply below_alloc|apply pw_below_drewN|apply below_drew1|refine below_set ?_ GE101.out)));(case aF=>exact(fun k_ hk=>Kd.freshB (g:=gb101) (o:= .cells #[.string a1_0, .string a1_1] 72 (0,0)) (by(with_reducible repeat(first|refine blk_drewN ?_ _|refine blk_drew ?_|refine blk_alloc ?_ _));exact BK101.out) k_ hk));(case aO=>exact(by(with_reducible repeat(first|apply Kd.R_alloc|apply Kd.R_drewN|apply Kd.R_drew));exact HO107.out));(case aS=>exact(below_size (by repeat(first|exact HB.out|apply below_alloc|apply pw_below_drewN|apply below_drew1|refine below_set ?_ GE101.out))));(case aL=>have:=LMc19.out;omega);intro v112 w27 ho hb hg hat;rw[←Ny111.out]at ho;have n0_:=Ak (blk_grown (g:=gb101) (o:= .cells #[.string a1_0, .string a1_1] 72 (0,0)) (by(with_reducible repeat(first|refine blk_drewN ?_ _|refine blk_drew ?_|refine blk_alloc ?_ _));exact BK101.out) hg (Kd.R_away HO107.out (fun _ hk=>hk)));have n1_:=Ak (hb);have n2_:=Ak (ho);clear BK101;clear HB;clear HO107;have BK101:=n0_;have HB:=n1_;have HO113:=n2_;clear n0_ n1_ n2_;clear ho hb hg hat))
      go_ret;exact⟨_,by first|rfl|(simp [*]<;>rfl),by(with_reducible repeat(first|apply Kd.R_alloc|apply Kd.R_drewN|apply Kd.R_drew));exact Kd.R_mono HO113.out (fun _ hk=>trivial),by repeat(first|exact HB.out|apply below_alloc|apply pw_below_drewN|apply below_drew1|refine below_set ?_ GE101.out)⟩
     ·rw[if_neg c19]at H;exact absurd H (by simp)
    ·replace c18:=Bool.eq_false_iff.mpr c18;subst c18;rw[if_neg (show ¬(false=true)by decide)]at H;obtain rfl:=Oi H;go_enter Tryz.func112,Tryz.ntmps112;go_wp2_with (first|((with_reducible refine gate_dst (N:=3) rfl ?_);(try(refine gate_guard (by rfl) ?_;dsimp only));refine box_event ?hg (N:=3) ?hd (cs:= #[.string a1_0, .string a1_1]) (t:=72) ?hr ?_;(case hd=>rfl);(case hg=>rfl);(case hr=>go_simp);intro gb101 hg w28 hbox hb;have n0_:=Ak (below_step (HB.out) hb);have n1_:=Ak (hbox);have n2_:=Ak ((by rw[hg];exact(below_size (HB.out)):w.heap.size≤gb101));have n3_:=n2_;clear HB;have HB:=n0_;have BK101:=n1_;have GW101:=n2_;have GE101:=n3_;clear n0_ n1_ n2_ n3_;clear hb hbox hg)|((with_reducible refine gate_dst (N:=8) rfl ?_);(try(refine gate_guard (by rfl) ?_;dsimp only));refine Kd.R_lit k72 _ 72 ?hg (N:=8) ?hd (xs:=([]:List (S72))) (inner:= []) (ok:=fun _=>True) (okp:=fun _=>True) ?hr ?hp (fun _ hk=>hk) trivial (Below.refl _ _) (Nat.le_refl _) (by simp) ?_;(case hd=>rfl);(case hg=>rfl);(case hr=>go_simp);(case hp=>exact(Reps.none _ _));intro v103 w29 ho30 hb hg_ hnew_;clear hg_ hnew_;(first|rw[←Ny102.out]at ho30|(simp only[Int.reduceToNat]at ho30;rw[←Ny102.out]at ho30));have n0_:=Ak (Kd.R_lower (Kd.R_newB ho30 (g:=gb101) (o:= .cells #[.string a1_0, .string a1_1] 72 (0,0)) (by(with_reducible repeat(first|refine blk_drewN ?_ _|refine blk_drew ?_|refine blk_alloc ?_ _));exact BK101.out)) (below_size (by repeat(first|exact HB.out|apply below_alloc|apply pw_below_drewN|apply below_drew1|refine below_set ?_ GE101.out))));have n1_:=Ak (blk_below (g:=gb101) (o:= .cells #[.string a1_0, .string a1_1] 72 (0,0)) (by(with_reducible repeat(first|refine blk_drewN ?_ _|refine blk_drew ?_|refine blk_alloc ?_ _));exact BK101.out) hb);have n2_:=Ak (below_step (by repeat(first|exact HB.out|apply below_alloc|apply pw_below_drewN|apply below_drew1|refine below_set ?_ GE101.out)) hb);clear BK101;clear HB;have HO104:=n0_;have BK101:=n1_;have HB:=n2_;clear n0_ n1_ n2_;clear hb ho30)|((with_reducible refine gate_builtin (b:= .append) (xs:= #[.tmp 8, .tmp 9]) rfl ?_);(try(refine gate_guard (by rfl) ?_;dsimp only));at_builtin;refine Kd.R_append_rows k72 (w0:=w) w.heap.size rfl (.tmp 8) (.tmp 9) 38 72 (.agg #[(.string ⟨#[]⟩),(.string ⟨#[]⟩)]) 32 rfl Tryz.underlying38 info72 rfl (by decide) (by omega) v103 y102 l0 _ _ _ (fun k_=>k_≠gb101) (fun _=>False) rfl rfl ?aO ?aR (fun _ _ h=>h) (fun _ h=>h.elim) ?aF ?aB ?aS ?aL ?_;(case aR=>exact(Kd.C_below HR0.out HB.out));(case aB=>exact(by repeat(first|exact HB.out|apply below_alloc|apply pw_below_drewN|apply below_drew1|refine below_set ?_ GE101.out)));(case aF=>exact(fun k_ hk=>Kd.freshB (g:=gb101) (o:= .cells #[.string a1_0, .string a1_1] 72 (0,0)) (by(with_reducible repeat(first|refine blk_drewN ?_ _|refine blk_drew ?_|refine blk_alloc ?_ _));exact BK101.out) k_ hk));(case aO=>exact(by(with_reducible repeat(first|apply Kd.R_alloc|apply Kd.R_drewN|apply Kd.R_drew));exact Kd.R_mono HO104.out (fun _ hk=>hk.2)));(case aS=>exact(below_size (by repeat(first|exact HB.out|apply below_alloc|apply pw_below_drewN|apply below_drew1|refine below_set ?_ GE101.out))));(case aL=>have:=LMc3.out;omega);intro v106 w31 ho hb hg hat;rw[←Ny105.out]at ho;have n0_:=Ak (blk_grown (g:=gb101) (o:= .cells #[.string a1_0, .string a1_1] 72 (0,0)) (by(with_reducible repeat(first|refine blk_drewN ?_ _|refine blk_drew ?_|refine blk_alloc ?_ _));exact BK101.out) hg (Kd.R_away HO104.out (fun _ hk=>hk.2)));have n1_:=Ak (hb);have n2_:=Ak (ho);clear BK101;clear HB;clear HO104;have BK101:=n0_;have HB:=n1_;have HO107:=n2_;clear n0_ n1_ n2_;clear ho hb hg hat;have hcz32_0:=blk_cell BK101.out 0;have hcz32_1:=blk_cell BK101.out 1;have hfz32_0:=blk_frozen BK101.out 0;have hfz32_1:=blk_frozen BK101.out 1)|((with_reducible refine gate_callee (f:=122) rfl ?_);refine goesL_ (some 15) rfl rfl Tryz.func122 (by kernel_rfl) rfl #[.slice A0 l0.length c0, .string a1_0] rfl (by(try simp only[List.map_toArray,List.map_cons,List.map_nil]);first|done|rfl|(simp only[List.length_drop,List.length_take];rfl)) ?_;(with_reducible refine(spec_AttrOf.calls k _ _ l0 a1_0 t108 false _ ?side1 ?side2 A4.out).mono ?_);(case side1=>exact(Kd.C_below HR0.out HB.out));(case side2=>exact HC0.out);rintro e w' ⟨rfl,⟨nd,rfl⟩⟩;refine⟨_,rfl, ?_⟩)|(go_at_call 83;(with_reducible refine(spec_l4Attr.calls k a1_0 a1_1 false _ A17.out).mono ?_);rintro e w33 ⟨rfl,hb⟩;have n0_:=Ak (Kd.R_below (by(with_reducible repeat(first|apply Kd.R_alloc|apply Kd.R_drewN|apply Kd.R_drew));exact HO107.out) hb);have n1_:=Ak (blk_below (g:=gb101) (o:= .cells #[.string a1_0, .string a1_1] 72 (0,0)) (by(with_reducible repeat(first|refine blk_drewN ?_ _|refine blk_drew ?_|refine blk_alloc ?_ _));exact BK101.out) hb);have n2_:=Ak (below_step (by repeat(first|exact HB.out|apply below_alloc|apply pw_below_drewN|apply below_drew1|refine below_set ?_ GE101.out)) hb);clear HO107;clear BK101;clear HB;have HO107:=n0_;have BK101:=n1_;have HB:=n2_;clear n0_ n1_ n2_;(try clear hb)))
     go_ret;exact⟨_,by first|rfl|(simp [*]<;>rfl),by(with_reducible repeat(first|apply Kd.R_alloc|apply Kd.R_drewN|apply Kd.R_drew));exact Kd.R_mono HO107.out (fun _ hk=>trivial),by repeat(first|exact HB.out|apply below_alloc|apply pw_below_drewN|apply below_drew1|refine below_set ?_ GE101.out)⟩
 ·rw[if_neg c3]at H;exact absurd H (by simp)
mutual
def spec_l4DrawAttrs.l0:Nat→List (S72)→Int→List Int→Int→Int→Option ((List (S72))×Int×Int)
 |0,_,_,_,_,_=>none
 |k+1,x3,x4,x1000,x1001,x1002=>(spec_l1Below.f x1000 x1001 x1002 4).bind fun bt104=>(if x4<bt104.1 then((spec_l1Pick.f x1000 bt104.2.1 bt104.2.2 (([(⟨#[105,100]⟩:ByteArray),(⟨#[99,108,97,115,115]⟩:ByteArray),(⟨#[120]⟩:ByteArray),(⟨#[61,121]⟩:ByteArray),(⟨#[195,169]⟩:ByteArray)]:List ByteArray))).bind fun bt110=>((spec_l4DrawText.f x1000 bt110.2.1 bt110.2.2).bind fun bt113=>((spec_AttrAdd.f k x3 bt110.1 bt113.1).bind fun t116=>(spec_l4DrawAttrs.l0 k t116 (wrap64 (x4+1)) x1000 bt113.2.1 bt113.2.2))))else((spec_l1Below.f x1000 bt104.2.1 bt104.2.2 20).bind fun bt119=>(if bt119.1=0 then((some (([(⟨(⟨#[105,100]⟩:ByteArray),(⟨#[]⟩:ByteArray)⟩:S72),(⟨(⟨#[105,100]⟩:ByteArray),(⟨#[]⟩:ByteArray)⟩:S72)]:List (S72)):List (S72))).bind fun y122=>(if x3.length+y122.length<4398046511104 then(some ((x3++y122),bt119.2.1,bt119.2.2))else(none)))else(if bt119.1=1 then(spec_l4DrawAttrs.l1 k x3 0 x1000 bt119.2.1 bt119.2.2)else(if bt119.1=2 then((spec_l1Below.f x1000 bt119.2.1 bt119.2.2 2).bind fun bt134=>(if 0≤(wrap64 (3000+bt134.1))then(if(wrap64 (3000+bt134.1):Int).toNat≤281474976710656 then(if x3.length<4398046511104 then(some ((x3++ [(⟨(⟨#[118]⟩:ByteArray),strOfNums (List.replicate (wrap64 (3000+bt134.1):Int).toNat 0)⟩:S72)]),bt134.2.1,bt134.2.2))else(none))else(none))else(none)))else(if bt119.1=3 then(if x3.length<4398046511104 then(some ((x3++ [(⟨(⟨#[117]⟩:ByteArray),(⟨#[255]⟩:ByteArray)⟩:S72)]),bt119.2.1,bt119.2.2))else(none))else(some (x3,bt119.2.1,bt119.2.2))))))))
def spec_l4DrawAttrs.l1:Nat→List (S72)→Int→List Int→Int→Int→Option ((List (S72))×Int×Int)
 |0,_,_,_,_,_=>none
 |k+1,x3,x5,x1000,x1001,x1002=>if x5<21 then(if x3.length<4398046511104 then(spec_l4DrawAttrs.l1 k (x3++ [(⟨strOfNums (([(wrap64 (97+x5)) % 256]:List Int)),(⟨#[]⟩:ByteArray)⟩:S72)]) (wrap64 (x5+1)) x1000 x1001 x1002)else(none))else(some (x3,x1001,x1002))
end
def spec_l4DrawAttrs.f(k:Nat)(s0_0:List Int)(s0_1:Int)(s0_2:Int):Option ((List (S72))×Int×Int):=spec_l4DrawAttrs.l0 k (([]:List (S72))) 0 s0_0 s0_1 s0_2
theorem spec_l4DrawAttrs.mono_l: ∀k,(∀y0 y1 y2 y3 y4,LeO (spec_l4DrawAttrs.l0 k y0 y1 y2 y3 y4) (spec_l4DrawAttrs.l0 (k+1) y0 y1 y2 y3 y4))∧(∀y0 y1 y2 y3 y4,LeO (spec_l4DrawAttrs.l1 k y0 y1 y2 y3 y4) (spec_l4DrawAttrs.l1 (k+1) y0 y1 y2 y3 y4))
 |0=>⟨fun _ _ _ _ _ r h=>by simp [spec_l4DrawAttrs.l0]at h,fun _ _ _ _ _ r h=>by simp [spec_l4DrawAttrs.l1]at h⟩
 |k+1=>by
  obtain⟨ih0,ih1⟩:=spec_l4DrawAttrs.mono_l k;refine⟨?_, ?_⟩
  ·intro y0 y1 y2 y3 y4;unfold spec_l4DrawAttrs.l0;repeat' first
   |(with_reducible exact ih0 _ _ _ _ _)
   |(with_reducible exact ih1 _ _ _ _ _)
   |(with_reducible exact spec_AttrAdd.mono _ _ _ _)
   |(with_reducible exact LeO.refl _)
   |(with_reducible exact LeO.none _)
   |(with_reducible refine LeO.ite ?_ ?_)
   |(with_reducible refine LeO.bind ?_ (fun _=> ?_))
   |exact ih0 _ _ _ _ _
   |exact ih1 _ _ _ _ _
   |exact spec_AttrAdd.mono _ _ _ _
   |exact LeO.none _
   |refine LeO.ite ?_ ?_
   |refine LeO.bind ?_ (fun _=> ?_)
  ·intro y0 y1 y2 y3 y4;unfold spec_l4DrawAttrs.l1;repeat' first
   |(with_reducible exact ih0 _ _ _ _ _)
   |(with_reducible exact ih1 _ _ _ _ _)
   |(with_reducible exact spec_AttrAdd.mono _ _ _ _)
   |(with_reducible exact LeO.refl _)
   |(with_reducible exact LeO.none _)
   |(with_reducible refine LeO.ite ?_ ?_)
   |(with_reducible refine LeO.bind ?_ (fun _=> ?_))
   |exact ih0 _ _ _ _ _
   |exact ih1 _ _ _ _ _
   |exact spec_AttrAdd.mono _ _ _ _
   |exact LeO.none _
   |refine LeO.ite ?_ ?_
   |refine LeO.bind ?_ (fun _=> ?_)
theorem spec_l4DrawAttrs.mono: ∀a0 a1 a2 k,LeO (spec_l4DrawAttrs.f k a0 a1 a2) (spec_l4DrawAttrs.f (k+1) a0 a1 a2):=by
 intro a0 a1 a2 k;obtain⟨ih0,ih1⟩:=spec_l4DrawAttrs.mono_l k;unfold spec_l4DrawAttrs.f;repeat' first
  |(with_reducible exact ih0 _ _ _ _ _)
  |(with_reducible exact ih1 _ _ _ _ _)
  |(with_reducible exact spec_AttrAdd.mono _ _ _ _)
  |(with_reducible exact LeO.refl _)
  |(with_reducible exact LeO.none _)
  |(with_reducible refine LeO.ite ?_ ?_)
  |(with_reducible refine LeO.bind ?_ (fun _=> ?_))
  |exact ih0 _ _ _ _ _
  |exact ih1 _ _ _ _ _
  |exact spec_AttrAdd.mono _ _ _ _
  |exact LeO.none _
  |refine LeO.ite ?_ ?_
  |refine LeO.bind ?_ (fun _=> ?_)
theorem spec_l4DrawAttrs.calls(k:Nat)(g:Nat)(s0_0:List Int)(s0_1:Int)(s0_2:Int)(r1:List (S72))(r2:Int)(r3:Int)(w0 w:World)(hI:IsS81 w0 w g s0_0 s0_1 s0_2)(hB:Below w0.heap.size w0 w)(h:spec_l4DrawAttrs.f k s0_0 s0_1 s0_2=some (r1,r2,r3)):
 Calls Tryz.prog 98 #[.pointer (some ⟨g,0,none⟩)] w fun e w'=> ∃v0_:Value,e= .returned (v0_)∧Kd.R k72 72 w' w.heap.size (fun _=>True) v0_ r1∧IsS81 w0 w' g s0_0 r2 r3∧Below w0.heap.size w0 w'∧KeepBut w w' g none:=by
 have hu72:=Tryz.underlying72;have HI0:=Ak hI;have HK:=Ak (KeepBut.refl w g none);have HL:=Ak hB.size;clear hI;have HW0:=Ak hB.size;have HB:=Ak hB;clear hB;have H:(spec_l4DrawAttrs.l0 k (([]:List (S72))) 0 s0_0 s0_1 s0_2)=some (r1,r2,r3):=h;clear h;obtain⟨y101,hy101⟩: ∃y_:List (S72),y_=(([]:List (S72))):=⟨_,rfl⟩
 replace H:(spec_l4DrawAttrs.l0 k y101 0 s0_0 s0_1 s0_2)=some (r1,r2,r3):=by first|(rw[hy101];with_reducible exact H)|(have H2_:=(Option.bind_some _ _).symm.trans H;rw[hy101];with_reducible exact H2_)|(have H2_:=(Option.bind_some _ _).symm.trans H;with_reducible exact H2_)|with_reducible exact H|(rw[hy101];exact H)|exact H
 have Ny101:=Ak hy101;clear hy101;have H':=Ak H;clear H;go_enter Tryz.func98,Tryz.ntmps98;go_wp2_with (first|((with_reducible refine gate_dst (N:=6) rfl ?_);refine Kd.R_lit k72 _ 72 ?hg (N:=6) ?hd (xs:=([]:List (S72))) (inner:= []) (ok:=fun _=>True) (okp:=fun _=>True) ?hr ?hp (fun _ hk=>hk) trivial (Below.refl _ _) (Nat.le_refl _) (by simp) ?_;(case hd=>rfl);(case hg=>rfl);(case hr=>go_simp);(case hp=>exact(Reps.none _ _));intro v102 w2 ho3 hb hg_ hnew_;clear hg_ hnew_;(first|rw[←Ny101.out]at ho3|(simp only[Int.reduceToNat]at ho3;rw[←Ny101.out]at ho3));have n0_:=Ak (Kd.R_lower ho3 (keep_size (w:=w) (g:=g) (row:=none) (HK.out)));have n1_:=Ak (IsS81.below (HI0.out) hb);have n2_:=Ak (KeepBut.trans (HK.out) (KeepBut.of_below hb g none) (.inl rfl));have n3_:=Ak (below_step (by repeat(first|exact HB.out|apply below_alloc|apply pw_below_drewN|apply below_drew1|refine below_set ?_ (IsS81.ge HI0.out))) hb);clear HI0;clear HK;clear HB;have HO103:=n0_;have HI0:=n1_;have HK:=n2_;have HB:=n3_;clear n0_ n1_ n2_ n3_;clear hb ho3));go_loopg [3,4] k (fun kq v3 v4 w'=> ∃(x3_1:List (S72)) (x4_1:Int) (x1001_1:Int) (x1002_1:Int),v4= .int .i64 x4_1∧Aside0 (spec_l4DrawAttrs.l0 kq x3_1 x4_1 s0_0 x1001_1 x1002_1=some (r1,r2,r3))∧Aside0 (kq≤k)∧Aside0 (Kd.R k72 72 w' w.heap.size (fun _=>True) v3 x3_1)∧Aside0 (IsS81 w0 w' g s0_0 x1001_1 x1002_1)∧Aside0 (KeepBut w w' g none)∧Aside0 (Below w0.heap.size w0 w'));case atStart=>exact⟨(y101),(0),(s0_1),(s0_2),(by first|rfl|(simp;done)|(simp [*];done)),H',⟨Nat.le_refl _⟩,⟨by(with_reducible repeat(first|apply Kd.R_alloc|apply Kd.R_drewN|apply Kd.R_drew));exact HO103.out⟩,⟨HI0.out⟩,⟨HK.out⟩,⟨by repeat(first|exact HB.out|apply below_alloc|apply pw_below_drewN|apply below_drew1|refine below_set ?_ (IsS81.ge HI0.out))⟩⟩
 case round=>
  clear H';try clear p2
  obtain⟨x3_1,x4_1,x1001_1,x1002_1,rfl,HA,HK1,HO_3,HI0,HK,HB⟩:=hrel;cases gk with
  |zero=>exact absurd HA.out (by simp [spec_l4DrawAttrs.l0])
  |succ k1=>
   have H:=HA.out;clear HA;simp only[spec_l4DrawAttrs.l0]at H;replace H:=Ob H;obtain⟨⟨t104,t105,t106⟩,A40,H⟩:=H;replace H:(if x4_1<t104 then((spec_l1Pick.f s0_0 t105 t106 (([(⟨#[105,100]⟩:ByteArray),(⟨#[99,108,97,115,115]⟩:ByteArray),(⟨#[120]⟩:ByteArray),(⟨#[61,121]⟩:ByteArray),(⟨#[195,169]⟩:ByteArray)]:List ByteArray))).bind fun bt110=>((spec_l4DrawText.f s0_0 bt110.2.1 bt110.2.2).bind fun bt113=>((spec_AttrAdd.f k1 x3_1 bt110.1 bt113.1).bind fun t116=>(spec_l4DrawAttrs.l0 k1 t116 (wrap64 (x4_1+1)) s0_0 bt113.2.1 bt113.2.2))))else((spec_l1Below.f s0_0 t105 t106 20).bind fun bt119=>(if bt119.1=0 then((some (([(⟨(⟨#[105,100]⟩:ByteArray),(⟨#[]⟩:ByteArray)⟩:S72),(⟨(⟨#[105,100]⟩:ByteArray),(⟨#[]⟩:ByteArray)⟩:S72)]:List (S72)):List (S72))).bind fun y122=>(if x3_1.length+y122.length<4398046511104 then(some ((x3_1++y122),bt119.2.1,bt119.2.2))else(none)))else(if bt119.1=1 then(spec_l4DrawAttrs.l1 k1 x3_1 0 s0_0 bt119.2.1 bt119.2.2)else(if bt119.1=2 then((spec_l1Below.f s0_0 bt119.2.1 bt119.2.2 2).bind fun bt134=>(if 0≤(wrap64 (3000+bt134.1))then(if(wrap64 (3000+bt134.1):Int).toNat≤281474976710656 then(if x3_1.length<4398046511104 then(some ((x3_1++ [(⟨(⟨#[118]⟩:ByteArray),strOfNums (List.replicate (wrap64 (3000+bt134.1):Int).toNat 0)⟩:S72)]),bt134.2.1,bt134.2.2))else(none))else(none))else(none)))else(if bt119.1=3 then(if x3_1.length<4398046511104 then(some ((x3_1++ [(⟨(⟨#[117]⟩:ByteArray),(⟨#[255]⟩:ByteArray)⟩:S72)]),bt119.2.1,bt119.2.2))else(none))else(some (x3_1,bt119.2.1,bt119.2.2))))))))=some (r1,r2,r3):=H;have A4:=Ak A40;clear A40;by_cases c5:x4_1<t104
   ·rw[if_pos c5]at H;have c5b0:decide (x4_1<t104)=true:=decide_eq_true c5;clear c5;obtain⟨y107,hy107⟩: ∃y_:List ByteArray,y_=(([(⟨#[105,100]⟩:ByteArray),(⟨#[99,108,97,115,115]⟩:ByteArray),(⟨#[120]⟩:ByteArray),(⟨#[61,121]⟩:ByteArray),(⟨#[195,169]⟩:ByteArray)]:List ByteArray)):=⟨_,rfl⟩
    replace H:((spec_l1Pick.f s0_0 t105 t106 y107).bind fun bt110=>((spec_l4DrawText.f s0_0 bt110.2.1 bt110.2.2).bind fun bt113=>((spec_AttrAdd.f k1 x3_1 bt110.1 bt113.1).bind fun t116=>(spec_l4DrawAttrs.l0 k1 t116 (wrap64 (x4_1+1)) s0_0 bt113.2.1 bt113.2.2))))=some (r1,r2,r3):=by first|(rw[hy107];with_reducible exact H)|(have H2_:=(Option.bind_some _ _).symm.trans H;rw[hy107];with_reducible exact H2_)|(have H2_:=(Option.bind_some _ _).symm.trans H;with_reducible exact H2_)|with_reducible exact H|(rw[hy107];exact H)|exact H
    have Ny107:=Ak hy107;clear hy107;replace H:=Ob H;obtain⟨⟨t110,t111,t112⟩,A60,H⟩:=H;replace H:((spec_l4DrawText.f s0_0 t111 t112).bind fun bt113=>((spec_AttrAdd.f k1 x3_1 t110 bt113.1).bind fun t116=>(spec_l4DrawAttrs.l0 k1 t116 (wrap64 (x4_1+1)) s0_0 bt113.2.1 bt113.2.2)))=some (r1,r2,r3):=H;have A6:=Ak A60;clear A60;replace H:=Ob H;obtain⟨⟨t113,t114,t115⟩,A70,H⟩:=H;replace H:((spec_AttrAdd.f k1 x3_1 t110 t113).bind fun t116=>(spec_l4DrawAttrs.l0 k1 t116 (wrap64 (x4_1+1)) s0_0 t114 t115))=some (r1,r2,r3):=H;have A7:=Ak A70;clear A70;replace H:=Ob H;obtain⟨t116,A80,H⟩:=H;replace H:(spec_l4DrawAttrs.l0 k1 t116 (wrap64 (x4_1+1)) s0_0 t114 t115)=some (r1,r2,r3):=H;have A8:=Ak A80;clear A80;have H':=Ak H;clear H;go_wp2_with (first|((with_reducible refine gate_callee (f:=46) rfl ?_);refine goesL_ (some 9) rfl rfl Tryz.func46 (by kernel_rfl) rfl #[.pointer (some ⟨g,0,none⟩), .int .i64 4] rfl (by(try simp only[List.map_toArray,List.map_cons,List.map_nil]);first|done|rfl|(simp only[List.length_drop,List.length_take];rfl)) ?_;(with_reducible refine(spec_l1Below.calls g s0_0 x1001_1 x1002_1 4 t104 t105 t106 w0 _ ?side1 ?side2 A4.out).mono ?_);(case side1=>repeat(first|(with_reducible first|exact HI0.out|apply IsS81.alloc|apply IsS81.drewN|apply IsS81.drew|apply IsS81.set_1|apply IsS81.set_2)|exact HI0.out));(case side2=>repeat(first|(with_reducible first|exact HB.out|apply below_alloc|apply pw_below_drewN|apply below_drew1|refine below_set ?_ (IsS81.ge HI0.out))|exact HB.out));rintro e w9 ⟨rfl,hi,hb,hk⟩;refine⟨_,rfl, ?_⟩;have n0_:=Ak (Kd.R_mono (Kd.R_keep (IsS81.apart (show IsS81 w0 _ g s0_0 x1001_1 x1002_1 from HI0.out) HO_3.out (by decide)) hk (fun _ h=>h.2)) (fun _ h=>h.1));have n1_:=Ak (KeepBut.trans (HK.out) hk (.inl rfl));have n2_:=Ak (hb);have n3_:=Ak (hi);clear HO_3;clear HK;clear HB;clear HI0;have HO_3:=n0_;have HK:=n1_;have HB:=n2_;have HI0:=n3_;clear n0_ n1_ n2_ n3_;(try clear hb))|((with_reducible refine gate_dst (N:=15) rfl ?_);refine Kd.R_lit Kd.string _ 9 ?hg (N:=15) ?hd (xs:=([(⟨#[105,100]⟩:ByteArray),(⟨#[99,108,97,115,115]⟩:ByteArray),(⟨#[120]⟩:ByteArray),(⟨#[61,121]⟩:ByteArray),(⟨#[195,169]⟩:ByteArray)]:List ByteArray)) (inner:= [.string (⟨#[105,100]⟩:ByteArray), .string (⟨#[99,108,97,115,115]⟩:ByteArray), .string (⟨#[120]⟩:ByteArray), .string (⟨#[61,121]⟩:ByteArray), .string (⟨#[195,169]⟩:ByteArray)]) (ok:=fun _=>True) (okp:=fun _=>True) ?hr ?hp (fun _ hk=>hk) trivial (Below.refl _ _) (Nat.le_refl _) (by simp) ?_;(case hd=>rfl);(case hg=>rfl);(case hr=>go_simp);(case hp=>exact(Reps.one (show Kd.M Kd.string _ _ _ (⟨#[105,100]⟩:ByteArray) [.string (⟨#[105,100]⟩:ByteArray)]from rfl) (Reps.one (show Kd.M Kd.string _ _ _ (⟨#[99,108,97,115,115]⟩:ByteArray) [.string (⟨#[99,108,97,115,115]⟩:ByteArray)]from rfl) (Reps.one (show Kd.M Kd.string _ _ _ (⟨#[120]⟩:ByteArray) [.string (⟨#[120]⟩:ByteArray)]from rfl) (Reps.one (show Kd.M Kd.string _ _ _ (⟨#[61,121]⟩:ByteArray) [.string (⟨#[61,121]⟩:ByteArray)]from rfl) (Reps.one (show Kd.M Kd.string _ _ _ (⟨#[195,169]⟩:ByteArray) [.string (⟨#[195,169]⟩:ByteArray)]from rfl) (Reps.none _ _)))))));intro v108 w10 ho11 hb hg_ hnew_;clear hg_ hnew_;(first|rw[←Ny107.out]at ho11|(simp only[Int.reduceToNat]at ho11;rw[←Ny107.out]at ho11));have n0_:=Ak (Kd.R_below HO_3.out hb);have n1_:=Ak (Kd.R_lower ho11 (keep_size (w:=w) (g:=g) (row:=none) (HK.out)));have n2_:=Ak (IsS81.below (HI0.out) hb);have n3_:=Ak (KeepBut.trans (HK.out) (KeepBut.of_below hb g none) (.inl rfl));have n4_:=Ak (below_step (by repeat(first|exact HB.out|apply below_alloc|apply pw_below_drewN|apply below_drew1|refine below_set ?_ (IsS81.ge HI0.out))) hb);clear HO_3;clear HI0;clear HK;clear HB;have HO_3:=n0_;have HO109:=n1_;have HI0:=n2_;have HK:=n3_;have HB:=n4_;clear n0_ n1_ n2_ n3_ n4_;clear hb ho11;obtain⟨Ao12,co12,eo12⟩:=Kd.R_slice HO109.out;subst eo12)|((with_reducible refine gate_callee (f:=97) rfl ?_);refine goesL_ (some 16) rfl rfl Tryz.func97 (by kernel_rfl) rfl #[.pointer (some ⟨g,0,none⟩), .slice Ao12 y107.length co12] rfl (by(try simp only[List.map_toArray,List.map_cons,List.map_nil]);first|done|rfl|(simp only[List.length_drop,List.length_take];rfl)) ?_;(with_reducible refine(spec_l1Pick.calls g s0_0 t105 t106 _ _ y107 t110 t111 t112 w0 _ ?side1 ?side2 ?side3 ?side4 ?side5 A6.out).mono ?_);(case side1=>repeat(first|(with_reducible first|exact HI0.out|apply IsS81.alloc|apply IsS81.drewN|apply IsS81.drew|apply IsS81.set_1|apply IsS81.set_2)|exact HI0.out));(case side2=>repeat(first|(with_reducible first|exact HB.out|apply below_alloc|apply pw_below_drewN|apply below_drew1|refine below_set ?_ (IsS81.ge HI0.out))|exact HB.out));(case side3=>repeat(first|exact(Kd.R_reads' HO109.out).2.2|(with_reducible refine Kd.C_alloc ?_ _)|(with_reducible refine Kd.C_drewN ?_ _)|(with_reducible refine Kd.C_drew ?_)));(case side4=>exact(Kd.R_reads' HO109.out).2.1);(case side5=>exact far_slice (IsS81.own_ne HI0.out HO109.out (by decide)));rintro e w13 ⟨rfl,hi,hb,hk⟩;refine⟨_,rfl, ?_⟩;have n0_:=Ak (Kd.R_mono (Kd.R_keep (IsS81.apart (show IsS81 w0 _ g s0_0 t105 t106 from HI0.out) HO_3.out (by decide)) hk (fun _ h=>h.2)) (fun _ h=>h.1));have n1_:=Ak (Kd.R_mono (Kd.R_keep (IsS81.apart (show IsS81 w0 _ g s0_0 t105 t106 from HI0.out) HO109.out (by decide)) hk (fun _ h=>h.2)) (fun _ h=>h.1));have n2_:=Ak (KeepBut.trans (HK.out) hk (.inl rfl));have n3_:=Ak (hb);have n4_:=Ak (hi);clear HO_3;clear HO109;clear HK;clear HB;clear HI0;have HO_3:=n0_;have HO109:=n1_;have HK:=n2_;have HB:=n3_;have HI0:=n4_;clear n0_ n1_ n2_ n3_ n4_;(try clear hb))|((with_reducible refine gate_callee (f:=99) rfl ?_);refine goesL_ (some 18) rfl rfl Tryz.func99 (by kernel_rfl) rfl #[.pointer (some ⟨g,0,none⟩)] rfl (by(try simp only[List.map_toArray,List.map_cons,List.map_nil]);first|done|rfl|(simp only[List.length_drop,List.length_take];rfl)) ?_;(with_reducible refine(spec_l4DrawText.calls g s0_0 t111 t112 t113 t114 t115 w0 _ ?side1 ?side2 A7.out).mono ?_);(case side1=>repeat(first|(with_reducible first|exact HI0.out|apply IsS81.alloc|apply IsS81.drewN|apply IsS81.drew|apply IsS81.set_1|apply IsS81.set_2)|exact HI0.out));(case side2=>repeat(first|(with_reducible first|exact HB.out|apply below_alloc|apply pw_below_drewN|apply below_drew1|refine below_set ?_ (IsS81.ge HI0.out))|exact HB.out));rintro e w14 ⟨rfl,hi,hb,hk⟩;refine⟨_,rfl, ?_⟩;have n0_:=Ak (Kd.R_mono (Kd.R_keep (IsS81.apart (show IsS81 w0 _ g s0_0 t111 t112 from HI0.out) HO_3.out (by decide)) hk (fun _ h=>h.2)) (fun _ h=>h.1));have n1_:=Ak (Kd.R_mono (Kd.R_keep (IsS81.apart (show IsS81 w0 _ g s0_0 t111 t112 from HI0.out) HO109.out (by decide)) hk (fun _ h=>h.2)) (fun _ h=>h.1));have n2_:=Ak (KeepBut.trans (HK.out) hk (.inl rfl));have n3_:=Ak (hb);have n4_:=Ak (hi);clear HO_3;clear HO109;clear HK;clear HB;clear HI0;have HO_3:=n0_;have HO109:=n1_;have HK:=n2_;have HB:=n3_;have HI0:=n4_;clear n0_ n1_ n2_ n3_ n4_;(try clear hb);obtain⟨Ao15,co15,eo15⟩:=Kd.R_slice HO_3.out;subst eo15)|((with_reducible refine gate_callee (f:=112) rfl ?_);refine goesL_ (some 20) rfl rfl Tryz.func112 (by kernel_rfl) rfl #[.slice Ao15 x3_1.length co15, .agg #[.string t110, .string t113]] rfl (by(try simp only[List.map_toArray,List.map_cons,List.map_nil]);first|done|rfl|(simp only[List.length_drop,List.length_take];rfl)) ?_;(with_reducible refine(spec_AttrAdd.calls k1 _ _ x3_1 t110 t113 t116 _ ?side1 ?side2 A8.out).mono ?_);(case side1=>repeat(first|exact(Kd.R_reads' HO_3.out).2.2|(with_reducible refine Kd.C_alloc ?_ _)|(with_reducible refine Kd.C_drewN ?_ _)|(with_reducible refine Kd.C_drew ?_)));(case side2=>exact(Kd.R_reads' HO_3.out).2.1);rintro e w16 ⟨v117,rfl,ho0,hb⟩;refine⟨_,rfl, ?_⟩;have n0_:=Ak (Kd.R_elder' HO_3.out (Kd.R_base ho0) hb);have n1_:=Ak (Kd.R_below HO109.out hb);have n2_:=Ak (Kd.R_lower (Kd.R_new' ho0 (Kd.R_lt HO_3.out)) (keep_size (w:=w) (g:=g) (row:=none) (HK.out)));have n3_:=Ak (IsS81.below (HI0.out) hb);have n4_:=Ak (KeepBut.trans (HK.out) (KeepBut.of_below hb g none) (.inl rfl));have n5_:=Ak (below_step (by repeat(first|exact HB.out|apply below_alloc|apply pw_below_drewN|apply below_drew1|refine below_set ?_ (IsS81.ge HI0.out))) hb);clear HO_3;clear HO109;clear HI0;clear HK;clear HB;have HO_3:=n0_;have HO109:=n1_;have HO118:=n2_;have HI0:=n3_;have HK:=n4_;have HB:=n5_;clear n0_ n1_ n2_ n3_ n4_ n5_;(try clear hb);(try clear ho0)))
    go_roundg k1;case measure=>have:=HK1.out;omega
    case rel=>exact⟨(t116),(wrap64 (x4_1+1)),(t114),(t115),(by first|rfl|(simp;done)|(simp [*];done)),H',⟨by have:=HK1.out;omega⟩,⟨by(with_reducible repeat(first|apply Kd.R_alloc|apply Kd.R_drewN|apply Kd.R_drew));exact Kd.R_mono HO118.out (fun _ hk=>trivial)⟩,⟨HI0.out⟩,⟨HK.out⟩,⟨by repeat(first|exact HB.out|apply below_alloc|apply pw_below_drewN|apply below_drew1|refine below_set ?_ (IsS81.ge HI0.out))⟩⟩
   ·rw[if_neg c5]at H;have c5b0:decide (x4_1<t104)=false:=decide_eq_false c5;clear c5;replace H:=Ob H;obtain⟨⟨t119,t120,t121⟩,A170,H⟩:=H;replace H:(if t119=0 then((some (([(⟨(⟨#[105,100]⟩:ByteArray),(⟨#[]⟩:ByteArray)⟩:S72),(⟨(⟨#[105,100]⟩:ByteArray),(⟨#[]⟩:ByteArray)⟩:S72)]:List (S72)):List (S72))).bind fun y122=>(if x3_1.length+y122.length<4398046511104 then(some ((x3_1++y122),t120,t121))else(none)))else(if t119=1 then(spec_l4DrawAttrs.l1 k1 x3_1 0 s0_0 t120 t121)else(if t119=2 then((spec_l1Below.f s0_0 t120 t121 2).bind fun bt134=>(if 0≤(wrap64 (3000+bt134.1))then(if(wrap64 (3000+bt134.1):Int).toNat≤281474976710656 then(if x3_1.length<4398046511104 then(some ((x3_1++ [(⟨(⟨#[118]⟩:ByteArray),strOfNums (List.replicate (wrap64 (3000+bt134.1):Int).toNat 0)⟩:S72)]),bt134.2.1,bt134.2.2))else(none))else(none))else(none)))else(if t119=3 then(if x3_1.length<4398046511104 then(some ((x3_1++ [(⟨(⟨#[117]⟩:ByteArray),(⟨#[255]⟩:ByteArray)⟩:S72)]),t120,t121))else(none))else(some (x3_1,t120,t121))))))=some (r1,r2,r3):=H;have A17:=Ak A170;clear A170;by_cases c18:t119=0
    ·rw[if_pos c18]at H;have c18b0:(t119==0)=true:=beq_iff_eq.mpr c18;have c18b1:(t119 !=0)=false:=bne_eq_false_iff_eq.mpr c18;clear c18;obtain⟨y122,hy122⟩: ∃y_:List (S72),y_=(([(⟨(⟨#[105,100]⟩:ByteArray),(⟨#[]⟩:ByteArray)⟩:S72),(⟨(⟨#[105,100]⟩:ByteArray),(⟨#[]⟩:ByteArray)⟩:S72)]:List (S72))):=⟨_,rfl⟩
     replace H:(if x3_1.length+y122.length<4398046511104 then(some ((x3_1++y122),t120,t121))else(none))=some (r1,r2,r3):=by first|(rw[hy122];with_reducible exact H)|(have H2_:=(Option.bind_some _ _).symm.trans H;rw[hy122];with_reducible exact H2_)|(have H2_:=(Option.bind_some _ _).symm.trans H;with_reducible exact H2_)|with_reducible exact H|(rw[hy122];exact H)|exact H
     have Ny122:=Ak hy122;clear hy122;by_cases c19:x3_1.length+y122.length<4398046511104
     ·rw[if_pos c19]at H;have LMc19:=Ak c19;clear c19;obtain⟨y125,hy125⟩: ∃y_:List (S72),y_=(x3_1++y122):=⟨_,rfl⟩
      replace H:(some (y125,t120,t121))=some (r1,r2,r3):=by first|(rw[hy125];with_reducible exact H)|(have H2_:=(Option.bind_some _ _).symm.trans H;rw[hy125];with_reducible exact H2_)|(have H2_:=(Option.bind_some _ _).symm.trans H;with_reducible exact H2_)|with_reducible exact H|(rw[hy125];exact H)|exact H
      have Ny125:=Ak hy125;clear hy125;simp only[Option.some.injEq,Prod.mk.injEq]at H;obtain⟨rfl,rfl,rfl⟩:=H;go_wp2_with (first|((with_reducible refine gate_callee (f:=46) rfl ?_);refine goesL_ (some 9) rfl rfl Tryz.func46 (by kernel_rfl) rfl #[.pointer (some ⟨g,0,none⟩), .int .i64 4] rfl (by(try simp only[List.map_toArray,List.map_cons,List.map_nil]);first|done|rfl|(simp only[List.length_drop,List.length_take];rfl)) ?_;(with_reducible refine(spec_l1Below.calls g s0_0 x1001_1 x1002_1 4 t104 t105 t106 w0 _ ?side1 ?side2 A4.out).mono ?_);(case side1=>repeat(first|(with_reducible first|exact HI0.out|apply IsS81.alloc|apply IsS81.drewN|apply IsS81.drew|apply IsS81.set_1|apply IsS81.set_2)|exact HI0.out));(case side2=>repeat(first|(with_reducible first|exact HB.out|apply below_alloc|apply pw_below_drewN|apply below_drew1|refine below_set ?_ (IsS81.ge HI0.out))|exact HB.out));rintro e w20 ⟨rfl,hi,hb,hk⟩;refine⟨_,rfl, ?_⟩;have n0_:=Ak (Kd.R_mono (Kd.R_keep (IsS81.apart (show IsS81 w0 _ g s0_0 x1001_1 x1002_1 from HI0.out) HO_3.out (by decide)) hk (fun _ h=>h.2)) (fun _ h=>h.1));have n1_:=Ak (KeepBut.trans (HK.out) hk (.inl rfl));have n2_:=Ak (hb);have n3_:=Ak (hi);clear HO_3;clear HK;clear HB;clear HI0;have HO_3:=n0_;have HK:=n1_;have HB:=n2_;have HI0:=n3_;clear n0_ n1_ n2_ n3_;(try clear hb))|((with_reducible refine gate_callee (f:=46) rfl ?_);refine goesL_ (some 22) rfl rfl Tryz.func46 (by kernel_rfl) rfl #[.pointer (some ⟨g,0,none⟩), .int .i64 20] rfl (by(try simp only[List.map_toArray,List.map_cons,List.map_nil]);first|done|rfl|(simp only[List.length_drop,List.length_take];rfl)) ?_;(with_reducible refine(spec_l1Below.calls g s0_0 t105 t106 20 t119 t120 t121 w0 _ ?side1 ?side2 A17.out).mono ?_);(case side1=>repeat(first|(with_reducible first|exact HI0.out|apply IsS81.alloc|apply IsS81.drewN|apply IsS81.drew|apply IsS81.set_1|apply IsS81.set_2)|exact HI0.out));(case side2=>repeat(first|(with_reducible first|exact HB.out|apply below_alloc|apply pw_below_drewN|apply below_drew1|refine below_set ?_ (IsS81.ge HI0.out))|exact HB.out));rintro e w21 ⟨rfl,hi,hb,hk⟩;refine⟨_,rfl, ?_⟩;have n0_:=Ak (Kd.R_mono (Kd.R_keep (IsS81.apart (show IsS81 w0 _ g s0_0 t105 t106 from HI0.out) HO_3.out (by decide)) hk (fun _ h=>h.2)) (fun _ h=>h.1));have n1_:=Ak (KeepBut.trans (HK.out) hk (.inl rfl));have n2_:=Ak (hb);have n3_:=Ak (hi);clear HO_3;clear HK;clear HB;clear HI0;have HO_3:=n0_;have HK:=n1_;have HB:=n2_;have HI0:=n3_;clear n0_ n1_ n2_ n3_;(try clear hb))|((with_reducible refine gate_dst (N:=28) rfl ?_);refine Kd.R_lit k72 _ 72 ?hg (N:=28) ?hd (xs:=([(⟨(⟨#[105,100]⟩:ByteArray),(⟨#[]⟩:ByteArray)⟩:S72),(⟨(⟨#[105,100]⟩:ByteArray),(⟨#[]⟩:ByteArray)⟩:S72)]:List (S72))) (inner:= [.string (⟨#[105,100]⟩:ByteArray), .string (⟨#[]⟩:ByteArray), .string (⟨#[105,100]⟩:ByteArray), .string (⟨#[]⟩:ByteArray)]) (ok:=fun _=>True) (okp:=fun _=>True) ?hr ?hp (fun _ hk=>hk) trivial (Below.refl _ _) (Nat.le_refl _) (by simp) ?_;(case hd=>rfl);(case hg=>rfl);(case hr=>go_simp);(case hp=>exact(Reps.c2 (show Kd.M k72 _ _ _ (⟨(⟨#[105,100]⟩:ByteArray),(⟨#[]⟩:ByteArray)⟩:S72) [.string (⟨#[105,100]⟩:ByteArray), .string (⟨#[]⟩:ByteArray)]from(k72_mkM _ _ _ (⟨(⟨#[105,100]⟩:ByteArray),(⟨#[]⟩:ByteArray)⟩:S72))) (Reps.c2 (show Kd.M k72 _ _ _ (⟨(⟨#[105,100]⟩:ByteArray),(⟨#[]⟩:ByteArray)⟩:S72) [.string (⟨#[105,100]⟩:ByteArray), .string (⟨#[]⟩:ByteArray)]from(k72_mkM _ _ _ (⟨(⟨#[105,100]⟩:ByteArray),(⟨#[]⟩:ByteArray)⟩:S72))) (Reps.none _ _))));intro v123 w22 ho23 hb hg_ hnew_;clear hg_ hnew_;(first|rw[←Ny122.out]at ho23|(simp only[Int.reduceToNat]at ho23;rw[←Ny122.out]at ho23));have n0_:=Ak (Kd.R_elder' HO_3.out (Kd.R_base ho23) hb);have n1_:=Ak (Kd.R_lower (Kd.R_new' ho23 (Kd.R_lt HO_3.out)) (keep_size (w:=w) (g:=g) (row:=none) (HK.out)));have n2_:=Ak (IsS81.below (HI0.out) hb);have n3_:=Ak (KeepBut.trans (HK.out) (KeepBut.of_below hb g none) (.inl rfl));have n4_:=Ak (below_step (by repeat(first|exact HB.out|apply below_alloc|apply pw_below_drewN|apply below_drew1|refine below_set ?_ (IsS81.ge HI0.out))) hb);clear HO_3;clear HI0;clear HK;clear HB;have HO_3:=n0_;have HO124:=n1_;have HI0:=n2_;have HK:=n3_;have HB:=n4_;clear n0_ n1_ n2_ n3_ n4_;clear hb ho23;obtain⟨Ao25,co25,eo25⟩:=Kd.R_slice HO124.out;subst eo25)|((with_reducible refine gate_builtin (b:= .append) (xs:= #[.tmp 25, .tmp 28]) rfl ?_);at_builtin;refine Kd.R_append_rows k72 w.heap.size rfl (.tmp 25) (.tmp 28) 38 72 (.agg #[(.string ⟨#[]⟩),(.string ⟨#[]⟩)]) 32 rfl Tryz.underlying38 info72 rfl (by decide) (by omega) u3 x3_1 y122 _ _ _ (fun k_=>some k_≠(.slice Ao25 y122.length co25:Value).ownBlock) (fun _=>False) rfl rfl ?aO ?aR (fun _ _ h=>h) (fun _ h=>h.elim) ?aF (Below.refl _ _) ?aS ?aL ?_;(case aR=>repeat(first|exact(Kd.R_reads' HO124.out).2.2|(with_reducible refine Kd.C_alloc ?_ _)|(with_reducible refine Kd.C_drewN ?_ _)|(with_reducible refine Kd.C_drew ?_)));(case aF=>exact(fun k_ hk=>Kd.fresh' (Kd.R_lt HO124.out) k_ hk));(case aO=>exact(by(with_reducible repeat(first|apply Kd.R_alloc|apply Kd.R_drewN|apply Kd.R_drew));exact Kd.R_mono HO_3.out (fun _ hk=>hk.2)));(case aS=>exact(keep_size (w:=w) (g:=g) (row:=none) (HK.out)));(case aL=>have:=LMc19.out;omega);intro v126 w24 ho hb hg hat;rw[←Ny125.out]at ho;have n0_:=Ak (IsS81.grown (HI0.out) hg (IsS81.own_ne HI0.out HO_3.out (by decide)));have n1_:=Ak (Kd.R_after (ok:=(fun _=>True)) HO124.out hg hat);have n2_:=Ak (below_weaken (by repeat(first|exact HB.out|apply below_alloc|apply pw_below_drewN|apply below_drew1|refine below_set ?_ (IsS81.ge HI0.out))) HL.out hb);have n3_:=Ak (KeepBut.trans (HK.out) (KeepBut.of_grown hg g) (Kd.R_base2 HO_3.out));have n4_:=Ak (ho);clear HI0;clear HO124;clear HB;clear HK;clear HO_3;have HI0:=n0_;have HO124:=n1_;have HB:=n2_;have HK:=n3_;have HO127:=n4_;clear n0_ n1_ n2_ n3_ n4_;clear ho hb hg hat))
      go_ret;exact⟨_,by first|rfl|(simp [*]<;>rfl),by(with_reducible repeat(first|apply Kd.R_alloc|apply Kd.R_drewN|apply Kd.R_drew));exact Kd.R_mono HO127.out (fun _ hk=>trivial),HI0.out,by repeat(first|exact HB.out|apply below_alloc|apply pw_below_drewN|apply below_drew1|refine below_set ?_ (IsS81.ge HI0.out)),HK.out⟩
     ·rw[if_neg c19]at H;exact absurd H (by simp)
    ·rw[if_neg c18]at H;have c18b0:(t119==0)=false:=beq_eq_false_iff_ne.mpr c18;have c18b1:(t119 !=0)=true:=bne_iff_ne.mpr c18;by_cases c26:t119=1
     ·rw[if_pos c26]at H;have c26b0:(t119==1)=true:=beq_iff_eq.mpr c26;have c26b1:(t119 !=1)=false:=bne_eq_false_iff_eq.mpr c26;clear c26;have H':=Ak H;clear H;go_wp2_with (first|((with_reducible refine gate_callee (f:=46) rfl ?_);refine goesL_ (some 9) rfl rfl Tryz.func46 (by kernel_rfl) rfl #[.pointer (some ⟨g,0,none⟩), .int .i64 4] rfl (by(try simp only[List.map_toArray,List.map_cons,List.map_nil]);first|done|rfl|(simp only[List.length_drop,List.length_take];rfl)) ?_;(with_reducible refine(spec_l1Below.calls g s0_0 x1001_1 x1002_1 4 t104 t105 t106 w0 _ ?side1 ?side2 A4.out).mono ?_);(case side1=>repeat(first|(with_reducible first|exact HI0.out|apply IsS81.alloc|apply IsS81.drewN|apply IsS81.drew|apply IsS81.set_1|apply IsS81.set_2)|exact HI0.out));(case side2=>repeat(first|(with_reducible first|exact HB.out|apply below_alloc|apply pw_below_drewN|apply below_drew1|refine below_set ?_ (IsS81.ge HI0.out))|exact HB.out));rintro e w27 ⟨rfl,hi,hb,hk⟩;refine⟨_,rfl, ?_⟩;have n0_:=Ak (Kd.R_mono (Kd.R_keep (IsS81.apart (show IsS81 w0 _ g s0_0 x1001_1 x1002_1 from HI0.out) HO_3.out (by decide)) hk (fun _ h=>h.2)) (fun _ h=>h.1));have n1_:=Ak (KeepBut.trans (HK.out) hk (.inl rfl));have n2_:=Ak (hb);have n3_:=Ak (hi);clear HO_3;clear HK;clear HB;clear HI0;have HO_3:=n0_;have HK:=n1_;have HB:=n2_;have HI0:=n3_;clear n0_ n1_ n2_ n3_;(try clear hb))|((with_reducible refine gate_callee (f:=46) rfl ?_);refine goesL_ (some 22) rfl rfl Tryz.func46 (by kernel_rfl) rfl #[.pointer (some ⟨g,0,none⟩), .int .i64 20] rfl (by(try simp only[List.map_toArray,List.map_cons,List.map_nil]);first|done|rfl|(simp only[List.length_drop,List.length_take];rfl)) ?_;(with_reducible refine(spec_l1Below.calls g s0_0 t105 t106 20 t119 t120 t121 w0 _ ?side1 ?side2 A17.out).mono ?_);(case side1=>repeat(first|(with_reducible first|exact HI0.out|apply IsS81.alloc|apply IsS81.drewN|apply IsS81.drew|apply IsS81.set_1|apply IsS81.set_2)|exact HI0.out));(case side2=>repeat(first|(with_reducible first|exact HB.out|apply below_alloc|apply pw_below_drewN|apply below_drew1|refine below_set ?_ (IsS81.ge HI0.out))|exact HB.out));rintro e w28 ⟨rfl,hi,hb,hk⟩;refine⟨_,rfl, ?_⟩;have n0_:=Ak (Kd.R_mono (Kd.R_keep (IsS81.apart (show IsS81 w0 _ g s0_0 t105 t106 from HI0.out) HO_3.out (by decide)) hk (fun _ h=>h.2)) (fun _ h=>h.1));have n1_:=Ak (KeepBut.trans (HK.out) hk (.inl rfl));have n2_:=Ak (hb);have n3_:=Ak (hi);clear HO_3;clear HK;clear HB;clear HI0;have HO_3:=n0_;have HK:=n1_;have HB:=n2_;have HI0:=n3_;clear n0_ n1_ n2_ n3_;(try clear hb)));go_loopg [3,5] k1 (fun kq v3 v5 w'=> ∃(x3_2:List (S72)) (x5_2:Int),v5= .int .i64 x5_2∧Aside0 (spec_l4DrawAttrs.l1 kq x3_2 x5_2 s0_0 t120 t121=some (r1,r2,r3))∧Aside0 (kq≤k1)∧Aside0 (Kd.R k72 72 w' w.heap.size (fun _=>True) v3 x3_2)∧Aside0 (IsS81 w0 w' g s0_0 t120 t121)∧Aside0 (KeepBut w w' g none)∧Aside0 (Below w0.heap.size w0 w'))
      case atStart=>exact⟨(x3_1),(0),(by first|rfl|(simp;done)|(simp [*];done)),H',⟨Nat.le_refl _⟩,⟨by(with_reducible repeat(first|apply Kd.R_alloc|apply Kd.R_drewN|apply Kd.R_drew));exact HO_3.out⟩,⟨HI0.out⟩,⟨HK.out⟩,⟨by repeat(first|exact HB.out|apply below_alloc|apply pw_below_drewN|apply below_drew1|refine below_set ?_ (IsS81.ge HI0.out))⟩⟩
      case round=>
       clear H';try clear c1
       try clear c2
       try clear p2
       try clear c4
       try clear c5
       try clear c5b0
       try clear p6
       try clear c9
       try clear c11
       try clear c18
       try clear c18b0
       try clear c18b1
       try clear c19
       try clear c26
       try clear c26b0
       try clear c26b1
       try clear p2
       obtain⟨x3_2,x5_2,rfl,HA,HK2,HO_3,HI0,HK,HB⟩:=hrel;cases gk with
       |zero=>exact absurd HA.out (by simp [spec_l4DrawAttrs.l1])
       |succ k2=>
        have H:=HA.out;clear HA;simp only[spec_l4DrawAttrs.l1]at H;by_cases c29:x5_2<21
        ·rw[if_pos c29]at H;have c29b0:decide (x5_2<21)=true:=decide_eq_true c29;clear c29;obtain⟨y128,hy128⟩: ∃y_:List Int,y_=(([(wrap64 (97+x5_2)) % 256]:List Int)):=⟨_,rfl⟩
         replace H:(if x3_2.length<4398046511104 then(spec_l4DrawAttrs.l1 k2 (x3_2++ [(⟨strOfNums y128,(⟨#[]⟩:ByteArray)⟩:S72)]) (wrap64 (x5_2+1)) s0_0 t120 t121)else(none))=some (r1,r2,r3):=by first|(rw[hy128];with_reducible exact H)|(have H2_:=(Option.bind_some _ _).symm.trans H;rw[hy128];with_reducible exact H2_)|(have H2_:=(Option.bind_some _ _).symm.trans H;with_reducible exact H2_)|with_reducible exact H|(rw[hy128];exact H)|exact H
         have Ny128:=Ak hy128;clear hy128;by_cases c30:x3_2.length<4398046511104
         ·rw[if_pos c30]at H;have LMc30:=Ak c30;clear c30;obtain⟨y131,hy131⟩: ∃y_:List (S72),y_=(x3_2++ [(⟨strOfNums y128,(⟨#[]⟩:ByteArray)⟩:S72)]):=⟨_,rfl⟩
          replace H:(spec_l4DrawAttrs.l1 k2 y131 (wrap64 (x5_2+1)) s0_0 t120 t121)=some (r1,r2,r3):=by first|(rw[hy131];with_reducible exact H)|(have H2_:=(Option.bind_some _ _).symm.trans H;rw[hy131];with_reducible exact H2_)|(have H2_:=(Option.bind_some _ _).symm.trans H;with_reducible exact H2_)|with_reducible exact H|(rw[hy131];exact H)|exact H
          have Ny131:=Ak hy131;clear hy131;have H':=Ak H;clear H;go_wp2_with (first|((with_reducible refine gate_dst (N:=40) rfl ?_);refine Kd.R_lit (Kd.int .u8) _ 5 ?hg (N:=40) ?hd (xs:=([(wrap64 (97+x5_2)) % 256]:List Int)) (inner:= [.int .u8 ((wrap64 (97+x5_2)) % 256)]) (ok:=fun _=>True) (okp:=fun _=>True) ?hr ?hp (fun _ hk=>hk) trivial (Below.refl _ _) (Nat.le_refl _) (by simp) ?_;(case hd=>rfl);(case hg=>rfl);(case hr=>go_simp);(case hp=>exact(Reps.one (show Kd.M (Kd.int .u8) _ _ _ ((wrap64 (97+x5_2)) % 256) [.int .u8 ((wrap64 (97+x5_2)) % 256)]from rfl) (Reps.none _ _)));intro v129 w31 ho32 hb hg_ hnew_;clear hg_ hnew_;(first|rw[←Ny128.out]at ho32|(simp only[Int.reduceToNat]at ho32;rw[←Ny128.out]at ho32));have n0_:=Ak (Kd.R_below HO_3.out hb);have n1_:=Ak (Kd.R_lower ho32 (keep_size (w:=w) (g:=g) (row:=none) (HK.out)));have n2_:=Ak (IsS81.below (HI0.out) hb);have n3_:=Ak (KeepBut.trans (HK.out) (KeepBut.of_below hb g none) (.inl rfl));have n4_:=Ak (below_step (by repeat(first|exact HB.out|apply below_alloc|apply pw_below_drewN|apply below_drew1|refine below_set ?_ (IsS81.ge HI0.out))) hb);clear HO_3;clear HI0;clear HK;clear HB;have HO_3:=n0_;have HO130:=n1_;have HI0:=n2_;have HK:=n3_;have HB:=n4_;clear n0_ n1_ n2_ n3_ n4_;clear hb ho32;have hcv33:=own_string (P:=Tryz.prog) Tryz.underlying33 Tryz.underlying5 Tryz.underlying9 (Kd.own_of_R HO130.out))|((with_reducible refine gate_builtin (b:= .append) (xs:= #[.tmp 36, .tmp 43]) rfl ?_);at_builtin;refine Kd.R_append k72 w.heap.size rfl (.tmp 36) (.tmp 43) 38 72 (.agg #[(.string ⟨#[]⟩),(.string ⟨#[]⟩)]) 32 rfl Tryz.underlying38 info72 rfl (by decide) (by omega) u3 x3_2 (⟨strOfNums y128,(⟨#[]⟩:ByteArray)⟩:S72) [.string (strOfNums y128), .string (⟨#[]⟩:ByteArray)] (fun _=>True) (fun _=>False) rfl rfl ?aP (fun _ hk=>hk.elim) ?aF ?aO (Below.refl _ _) ?aS ?aL ?_;(case aP=>exact k72_mkM _ _ _ (⟨strOfNums y128,(⟨#[]⟩:ByteArray)⟩:S72));(case aF=>exact(fun _ _=>trivial));(case aO=>exact HO_3.out);(case aS=>exact(keep_size (w:=w) (g:=g) (row:=none) (HK.out)));(case aL=>have:=LMc30.out;omega);intro v132 w34 ho hb hg hat;rw[←Ny131.out]at ho;have n0_:=Ak (IsS81.grown (HI0.out) hg (IsS81.own_ne HI0.out HO_3.out (by decide)));have n1_:=Ak (Kd.R_over' HO130.out (Kd.R_typed HO_3.out) (by decide) hg);have n2_:=Ak (below_weaken (by repeat(first|exact HB.out|apply below_alloc|apply pw_below_drewN|apply below_drew1|refine below_set ?_ (IsS81.ge HI0.out))) HL.out hb);have n3_:=Ak (KeepBut.trans (HK.out) (KeepBut.of_grown hg g) (Kd.R_base2 HO_3.out));have n4_:=Ak (ho);clear HI0;clear HO130;clear HB;clear HK;clear HO_3;have HI0:=n0_;have HO130:=n1_;have HB:=n2_;have HK:=n3_;have HO133:=n4_;clear n0_ n1_ n2_ n3_ n4_;clear ho hb hg hat));go_roundg k2;case measure=>have:=HK1.out;have:=HK2.out;omega
          case rel=>exact⟨(y131),(wrap64 (x5_2+1)),(by first|rfl|(simp;done)|(simp [*];done)),H',⟨by have:=HK1.out;have:=HK2.out;omega⟩,⟨by(with_reducible repeat(first|apply Kd.R_alloc|apply Kd.R_drewN|apply Kd.R_drew));exact HO133.out⟩,⟨HI0.out⟩,⟨HK.out⟩,⟨by repeat(first|exact HB.out|apply below_alloc|apply pw_below_drewN|apply below_drew1|refine below_set ?_ (IsS81.ge HI0.out))⟩⟩
         ·rw[if_neg c30]at H;exact absurd H (by simp)
        ·rw[if_neg c29]at H;have c29b0:decide (x5_2<21)=false:=decide_eq_false c29;clear c29;simp only[Option.some.injEq,Prod.mk.injEq]at H;obtain⟨rfl,rfl,rfl⟩:=H;go_wp2;go_ret;exact⟨_,by first|rfl|(simp [*]<;>rfl),by(with_reducible repeat(first|apply Kd.R_alloc|apply Kd.R_drewN|apply Kd.R_drew));exact HO_3.out,HI0.out,by repeat(first|exact HB.out|apply below_alloc|apply pw_below_drewN|apply below_drew1|refine below_set ?_ (IsS81.ge HI0.out)),HK.out⟩
     ·rw[if_neg c26]at H;have c26b0:(t119==1)=false:=beq_eq_false_iff_ne.mpr c26;have c26b1:(t119 !=1)=true:=bne_iff_ne.mpr c26;by_cases c35:t119=2
      ·rw[if_pos c35]at H;have c35b0:(t119==2)=true:=beq_iff_eq.mpr c35;have c35b1:(t119 !=2)=false:=bne_eq_false_iff_eq.mpr c35;clear c35;replace H:=Ob H;obtain⟨⟨t134,t135,t136⟩,A360,H⟩:=H;replace H:(if 0≤(wrap64 (3000+t134))then(if(wrap64 (3000+t134):Int).toNat≤281474976710656 then(if x3_1.length<4398046511104 then(some ((x3_1++ [(⟨(⟨#[118]⟩:ByteArray),strOfNums (List.replicate (wrap64 (3000+t134):Int).toNat 0)⟩:S72)]),t135,t136))else(none))else(none))else(none))=some (r1,r2,r3):=H;have A36:=Ak A360;clear A360;obtain⟨ji37,hji37⟩: ∃j_:Int,(wrap64 (3000+t134))=j_:=⟨_,rfl⟩
       replace H:(if 0≤(ji37)then(if(ji37:Int).toNat≤281474976710656 then(if x3_1.length<4398046511104 then(some ((x3_1++ [(⟨(⟨#[118]⟩:ByteArray),strOfNums (List.replicate (ji37:Int).toNat 0)⟩:S72)]),t135,t136))else(none))else(none))else(none))=some (r1,r2,r3):=by first|(rw[hji37]at H;exact H)|(simp only[hji37]at H⊢;exact H)
       (try rw[hji37]at A4);(try rw[hji37]at A17);(try rw[hji37]at A36);have hji37w:(IntKind.i64.wrap (3000+t134))=ji37:=(i64_w _).trans hji37;by_cases c38:0≤(ji37)
       ·rw[if_pos c38]at H;have c38b0:=eq_true c38;have c38b1:decide (0≤(ji37))=true:=decide_eq_true c38;clear c38;by_cases c39:(ji37:Int).toNat≤281474976710656
        ·rw[if_pos c39]at H;have c39b0:=eq_true c39;have c39b1:decide ((ji37:Int).toNat≤281474976710656)=true:=decide_eq_true c39;clear c39;obtain⟨y137,hy137⟩: ∃y_:List Int,y_=(List.replicate (ji37:Int).toNat 0):=⟨_,rfl⟩
         replace H:(if x3_1.length<4398046511104 then(some ((x3_1++ [(⟨(⟨#[118]⟩:ByteArray),strOfNums y137⟩:S72)]),t135,t136))else(none))=some (r1,r2,r3):=by first|(rw[hy137];with_reducible exact H)|(have H2_:=(Option.bind_some _ _).symm.trans H;rw[hy137];with_reducible exact H2_)|(have H2_:=(Option.bind_some _ _).symm.trans H;with_reducible exact H2_)|with_reducible exact H|(rw[hy137];exact H)|exact H
         have Ny137:=Ak hy137;clear hy137;by_cases c40:x3_1.length<4398046511104
         ·rw[if_pos c40]at H;have LMc40:=Ak c40;clear c40;obtain⟨y140,hy140⟩: ∃y_:List (S72),y_=(x3_1++ [(⟨(⟨#[118]⟩:ByteArray),strOfNums y137⟩:S72)]):=⟨_,rfl⟩
          replace H:(some (y140,t135,t136))=some (r1,r2,r3):=by first|(rw[hy140];with_reducible exact H)|(have H2_:=(Option.bind_some _ _).symm.trans H;rw[hy140];with_reducible exact H2_)|(have H2_:=(Option.bind_some _ _).symm.trans H;with_reducible exact H2_)|with_reducible exact H|(rw[hy140];exact H)|exact H
          have Ny140:=Ak hy140;clear hy140;simp only[Option.some.injEq,Prod.mk.injEq]at H;obtain⟨rfl,rfl,rfl⟩:=H;go_wp2_with (first|((with_reducible refine gate_callee (f:=46) rfl ?_);refine goesL_ (some 9) rfl rfl Tryz.func46 (by kernel_rfl) rfl #[.pointer (some ⟨g,0,none⟩), .int .i64 4] rfl (by(try simp only[List.map_toArray,List.map_cons,List.map_nil]);first|done|rfl|(simp only[List.length_drop,List.length_take];rfl)) ?_;(with_reducible refine(spec_l1Below.calls g s0_0 x1001_1 x1002_1 4 t104 t105 t106 w0 _ ?side1 ?side2 A4.out).mono ?_);(case side1=>repeat(first|(with_reducible first|exact HI0.out|apply IsS81.alloc|apply IsS81.drewN|apply IsS81.drew|apply IsS81.set_1|apply IsS81.set_2)|exact HI0.out));(case side2=>repeat(first|(with_reducible first|exact HB.out|apply below_alloc|apply pw_below_drewN|apply below_drew1|refine below_set ?_ (IsS81.ge HI0.out))|exact HB.out));rintro e w41 ⟨rfl,hi,hb,hk⟩;refine⟨_,rfl, ?_⟩;have n0_:=Ak (Kd.R_mono (Kd.R_keep (IsS81.apart (show IsS81 w0 _ g s0_0 x1001_1 x1002_1 from HI0.out) HO_3.out (by decide)) hk (fun _ h=>h.2)) (fun _ h=>h.1));have n1_:=Ak (KeepBut.trans (HK.out) hk (.inl rfl));have n2_:=Ak (hb);have n3_:=Ak (hi);clear HO_3;clear HK;clear HB;clear HI0;have HO_3:=n0_;have HK:=n1_;have HB:=n2_;have HI0:=n3_;clear n0_ n1_ n2_ n3_;(try clear hb))|((with_reducible refine gate_callee (f:=46) rfl ?_);refine goesL_ (some 22) rfl rfl Tryz.func46 (by kernel_rfl) rfl #[.pointer (some ⟨g,0,none⟩), .int .i64 20] rfl (by(try simp only[List.map_toArray,List.map_cons,List.map_nil]);first|done|rfl|(simp only[List.length_drop,List.length_take];rfl)) ?_;(with_reducible refine(spec_l1Below.calls g s0_0 t105 t106 20 t119 t120 t121 w0 _ ?side1 ?side2 A17.out).mono ?_);(case side1=>repeat(first|(with_reducible first|exact HI0.out|apply IsS81.alloc|apply IsS81.drewN|apply IsS81.drew|apply IsS81.set_1|apply IsS81.set_2)|exact HI0.out));(case side2=>repeat(first|(with_reducible first|exact HB.out|apply below_alloc|apply pw_below_drewN|apply below_drew1|refine below_set ?_ (IsS81.ge HI0.out))|exact HB.out));rintro e w42 ⟨rfl,hi,hb,hk⟩;refine⟨_,rfl, ?_⟩;have n0_:=Ak (Kd.R_mono (Kd.R_keep (IsS81.apart (show IsS81 w0 _ g s0_0 t105 t106 from HI0.out) HO_3.out (by decide)) hk (fun _ h=>h.2)) (fun _ h=>h.1));have n1_:=Ak (KeepBut.trans (HK.out) hk (.inl rfl));have n2_:=Ak (hb);have n3_:=Ak (hi);clear HO_3;clear HK;clear HB;clear HI0;have HO_3:=n0_;have HK:=n1_;have HB:=n2_;have HI0:=n3_;clear n0_ n1_ n2_ n3_;(try clear hb))|((with_reducible refine gate_callee (f:=46) rfl ?_);refine goesL_ (some 49) rfl rfl Tryz.func46 (by kernel_rfl) rfl #[.pointer (some ⟨g,0,none⟩), .int .i64 2] rfl (by(try simp only[List.map_toArray,List.map_cons,List.map_nil]);first|done|rfl|(simp only[List.length_drop,List.length_take];rfl)) ?_;(with_reducible refine(spec_l1Below.calls g s0_0 t120 t121 2 t134 t135 t136 w0 _ ?side1 ?side2 A36.out).mono ?_);(case side1=>repeat(first|(with_reducible first|exact HI0.out|apply IsS81.alloc|apply IsS81.drewN|apply IsS81.drew|apply IsS81.set_1|apply IsS81.set_2)|exact HI0.out));(case side2=>repeat(first|(with_reducible first|exact HB.out|apply below_alloc|apply pw_below_drewN|apply below_drew1|refine below_set ?_ (IsS81.ge HI0.out))|exact HB.out));rintro e w43 ⟨rfl,hi,hb,hk⟩;refine⟨_,rfl, ?_⟩;have n0_:=Ak (Kd.R_mono (Kd.R_keep (IsS81.apart (show IsS81 w0 _ g s0_0 t120 t121 from HI0.out) HO_3.out (by decide)) hk (fun _ h=>h.2)) (fun _ h=>h.1));have n1_:=Ak (KeepBut.trans (HK.out) hk (.inl rfl));have n2_:=Ak (hb);have n3_:=Ak (hi);clear HO_3;clear HK;clear HB;clear HI0;have HO_3:=n0_;have HK:=n1_;have HB:=n2_;have HI0:=n3_;clear n0_ n1_ n2_ n3_;(try clear hb))|((with_reducible refine gate_dst (N:=51) rfl ?_);refine Kd.R_make (Kd.int .u8) _ 5 rfl (N:=51) rfl 33 _ _ rfl ji37 rfl rfl Tryz.underlying33 (.int .u8 0) 1 info5 rfl (by decide) (by omega) 0 (ok:=fun _=>True) (okp:=fun _=>True) rfl (fun _ hk=>hk) trivial (of_decide_eq_true (by assumption)) (Nat.le_trans (Nat.mul_le_mul_right _ (of_decide_eq_true (by assumption):ji37.toNat≤281474976710656)) (by omega)) (Below.refl _ _) (Nat.le_refl _) ?_;intro v138 w44 ho45 hb hg_ hnew_;clear hg_ hnew_;(first|rw[←Ny137.out]at ho45|(simp only[Int.reduceToNat]at ho45;rw[←Ny137.out]at ho45));have n0_:=Ak (Kd.R_below HO_3.out hb);have n1_:=Ak (Kd.R_lower ho45 (keep_size (w:=w) (g:=g) (row:=none) (HK.out)));have n2_:=Ak (IsS81.below (HI0.out) hb);have n3_:=Ak (KeepBut.trans (HK.out) (KeepBut.of_below hb g none) (.inl rfl));have n4_:=Ak (below_step (by repeat(first|exact HB.out|apply below_alloc|apply pw_below_drewN|apply below_drew1|refine below_set ?_ (IsS81.ge HI0.out))) hb);clear HO_3;clear HI0;clear HK;clear HB;have HO_3:=n0_;have HO139:=n1_;have HI0:=n2_;have HK:=n3_;have HB:=n4_;clear n0_ n1_ n2_ n3_ n4_;clear hb ho45;have hcv46:=own_string (P:=Tryz.prog) Tryz.underlying33 Tryz.underlying5 Tryz.underlying9 (Kd.own_of_R HO139.out))|((with_reducible refine gate_builtin (b:= .append) (xs:= #[.tmp 47, .tmp 54]) rfl ?_);at_builtin;refine Kd.R_append k72 w.heap.size rfl (.tmp 47) (.tmp 54) 38 72 (.agg #[(.string ⟨#[]⟩),(.string ⟨#[]⟩)]) 32 rfl Tryz.underlying38 info72 rfl (by decide) (by omega) u3 x3_1 (⟨(⟨#[118]⟩:ByteArray),strOfNums y137⟩:S72) [.string (⟨#[118]⟩:ByteArray), .string (strOfNums y137)] (fun _=>True) (fun _=>False) rfl rfl ?aP (fun _ hk=>hk.elim) ?aF ?aO (Below.refl _ _) ?aS ?aL ?_;(case aP=>exact k72_mkM _ _ _ (⟨(⟨#[118]⟩:ByteArray),strOfNums y137⟩:S72));(case aF=>exact(fun _ _=>trivial));(case aO=>exact HO_3.out);(case aS=>exact(keep_size (w:=w) (g:=g) (row:=none) (HK.out)));(case aL=>have:=LMc40.out;omega);intro v141 w47 ho hb hg hat;rw[←Ny140.out]at ho;have n0_:=Ak (IsS81.grown (HI0.out) hg (IsS81.own_ne HI0.out HO_3.out (by decide)));have n1_:=Ak (Kd.R_over' HO139.out (Kd.R_typed HO_3.out) (by decide) hg);have n2_:=Ak (below_weaken (by repeat(first|exact HB.out|apply below_alloc|apply pw_below_drewN|apply below_drew1|refine below_set ?_ (IsS81.ge HI0.out))) HL.out hb);have n3_:=Ak (KeepBut.trans (HK.out) (KeepBut.of_grown hg g) (Kd.R_base2 HO_3.out));have n4_:=Ak (ho);clear HI0;clear HO139;clear HB;clear HK;clear HO_3;have HI0:=n0_;have HO139:=n1_;have HB:=n2_;have HK:=n3_;have HO142:=n4_;clear n0_ n1_ n2_ n3_ n4_;clear ho hb hg hat))
          go_ret;exact⟨_,by first|rfl|(simp [errW_none,errW_some]<;>rfl)|(simp only[←hji37];first|rfl|(simp [errW_none,errW_some]<;>rfl))|(simp [*,errW_none,errW_some]<;>rfl),by(with_reducible repeat(first|apply Kd.R_alloc|apply Kd.R_drewN|apply Kd.R_drew));exact HO142.out,HI0.out,by repeat(first|exact HB.out|apply below_alloc|apply pw_below_drewN|apply below_drew1|refine below_set ?_ (IsS81.ge HI0.out)),HK.out⟩
         ·rw[if_neg c40]at H;exact absurd H (by simp)
        ·rw[if_neg c39]at H;exact absurd H (by simp)
       ·rw[if_neg c38]at H;exact absurd H (by simp)
      ·rw[if_neg c35]at H;have c35b0:(t119==2)=false:=beq_eq_false_iff_ne.mpr c35;have c35b1:(t119 !=2)=true:=bne_iff_ne.mpr c35;by_cases c48:t119=3
       ·rw[if_pos c48]at H;have c48b0:(t119==3)=true:=beq_iff_eq.mpr c48;have c48b1:(t119 !=3)=false:=bne_eq_false_iff_eq.mpr c48;clear c48;by_cases c49:x3_1.length<4398046511104
        ·rw[if_pos c49]at H;have LMc49:=Ak c49;clear c49;obtain⟨y143,hy143⟩: ∃y_:List (S72),y_=(x3_1++ [(⟨(⟨#[117]⟩:ByteArray),(⟨#[255]⟩:ByteArray)⟩:S72)]):=⟨_,rfl⟩
         replace H:(some (y143,t120,t121))=some (r1,r2,r3):=by first|(rw[hy143];with_reducible exact H)|(have H2_:=(Option.bind_some _ _).symm.trans H;rw[hy143];with_reducible exact H2_)|(have H2_:=(Option.bind_some _ _).symm.trans H;with_reducible exact H2_)|with_reducible exact H|(rw[hy143];exact H)|exact H
         have Ny143:=Ak hy143;clear hy143;simp only[Option.some.injEq,Prod.mk.injEq]at H;obtain⟨rfl,rfl,rfl⟩:=H;go_wp2_with (first|((with_reducible refine gate_callee (f:=46) rfl ?_);refine goesL_ (some 9) rfl rfl Tryz.func46 (by kernel_rfl) rfl #[.pointer (some ⟨g,0,none⟩), .int .i64 4] rfl (by(try simp only[List.map_toArray,List.map_cons,List.map_nil]);first|done|rfl|(simp only[List.length_drop,List.length_take];rfl)) ?_;(with_reducible refine(spec_l1Below.calls g s0_0 x1001_1 x1002_1 4 t104 t105 t106 w0 _ ?side1 ?side2 A4.out).mono ?_);(case side1=>repeat(first|(with_reducible first|exact HI0.out|apply IsS81.alloc|apply IsS81.drewN|apply IsS81.drew|apply IsS81.set_1|apply IsS81.set_2)|exact HI0.out));(case side2=>repeat(first|(with_reducible first|exact HB.out|apply below_alloc|apply pw_below_drewN|apply below_drew1|refine below_set ?_ (IsS81.ge HI0.out))|exact HB.out));rintro e w50 ⟨rfl,hi,hb,hk⟩;refine⟨_,rfl, ?_⟩;have n0_:=Ak (Kd.R_mono (Kd.R_keep (IsS81.apart (show IsS81 w0 _ g s0_0 x1001_1 x1002_1 from HI0.out) HO_3.out (by decide)) hk (fun _ h=>h.2)) (fun _ h=>h.1));have n1_:=Ak (KeepBut.trans (HK.out) hk (.inl rfl));have n2_:=Ak (hb);have n3_:=Ak (hi);clear HO_3;clear HK;clear HB;clear HI0;have HO_3:=n0_;have HK:=n1_;have HB:=n2_;have HI0:=n3_;clear n0_ n1_ n2_ n3_;(try clear hb))|((with_reducible refine gate_callee (f:=46) rfl ?_);refine goesL_ (some 22) rfl rfl Tryz.func46 (by kernel_rfl) rfl #[.pointer (some ⟨g,0,none⟩), .int .i64 20] rfl (by(try simp only[List.map_toArray,List.map_cons,List.map_nil]);first|done|rfl|(simp only[List.length_drop,List.length_take];rfl)) ?_;(with_reducible refine(spec_l1Below.calls g s0_0 t105 t106 20 t119 t120 t121 w0 _ ?side1 ?side2 A17.out).mono ?_);(case side1=>repeat(first|(with_reducible first|exact HI0.out|apply IsS81.alloc|apply IsS81.drewN|apply IsS81.drew|apply IsS81.set_1|apply IsS81.set_2)|exact HI0.out));(case side2=>repeat(first|(with_reducible first|exact HB.out|apply below_alloc|apply pw_below_drewN|apply below_drew1|refine below_set ?_ (IsS81.ge HI0.out))|exact HB.out));rintro e w51 ⟨rfl,hi,hb,hk⟩;refine⟨_,rfl, ?_⟩;have n0_:=Ak (Kd.R_mono (Kd.R_keep (IsS81.apart (show IsS81 w0 _ g s0_0 t105 t106 from HI0.out) HO_3.out (by decide)) hk (fun _ h=>h.2)) (fun _ h=>h.1));have n1_:=Ak (KeepBut.trans (HK.out) hk (.inl rfl));have n2_:=Ak (hb);have n3_:=Ak (hi);clear HO_3;clear HK;clear HB;clear HI0;have HO_3:=n0_;have HK:=n1_;have HB:=n2_;have HI0:=n3_;clear n0_ n1_ n2_ n3_;(try clear hb))|((with_reducible refine gate_builtin (b:= .append) (xs:= #[.tmp 58, .tmp 60]) rfl ?_);at_builtin;refine Kd.R_append k72 w.heap.size rfl (.tmp 58) (.tmp 60) 38 72 (.agg #[(.string ⟨#[]⟩),(.string ⟨#[]⟩)]) 32 rfl Tryz.underlying38 info72 rfl (by decide) (by omega) u3 x3_1 (⟨(⟨#[117]⟩:ByteArray),(⟨#[255]⟩:ByteArray)⟩:S72) [.string (⟨#[117]⟩:ByteArray), .string (⟨#[255]⟩:ByteArray)] (fun _=>True) (fun _=>False) rfl rfl ?aP (fun _ hk=>hk.elim) ?aF ?aO (Below.refl _ _) ?aS ?aL ?_;(case aP=>exact k72_mkM _ _ _ (⟨(⟨#[117]⟩:ByteArray),(⟨#[255]⟩:ByteArray)⟩:S72));(case aF=>exact(fun _ _=>trivial));(case aO=>exact HO_3.out);(case aS=>exact(keep_size (w:=w) (g:=g) (row:=none) (HK.out)));(case aL=>have:=LMc49.out;omega);intro v144 w52 ho hb hg hat;rw[←Ny143.out]at ho;have n0_:=Ak (IsS81.grown (HI0.out) hg (IsS81.own_ne HI0.out HO_3.out (by decide)));have n1_:=Ak (below_weaken (by repeat(first|exact HB.out|apply below_alloc|apply pw_below_drewN|apply below_drew1|refine below_set ?_ (IsS81.ge HI0.out))) HL.out hb);have n2_:=Ak (KeepBut.trans (HK.out) (KeepBut.of_grown hg g) (Kd.R_base2 HO_3.out));have n3_:=Ak (ho);clear HI0;clear HB;clear HK;clear HO_3;have HI0:=n0_;have HB:=n1_;have HK:=n2_;have HO145:=n3_;clear n0_ n1_ n2_ n3_;clear ho hb hg hat))
         go_ret;exact⟨_,by first|rfl|(simp [*]<;>rfl),by(with_reducible repeat(first|apply Kd.R_alloc|apply Kd.R_drewN|apply Kd.R_drew));exact HO145.out,HI0.out,by repeat(first|exact HB.out|apply below_alloc|apply pw_below_drewN|apply below_drew1|refine below_set ?_ (IsS81.ge HI0.out)),HK.out⟩
        ·rw[if_neg c49]at H;exact absurd H (by simp)
       ·rw[if_neg c48]at H;have c48b0:(t119==3)=false:=beq_eq_false_iff_ne.mpr c48;have c48b1:(t119 !=3)=true:=bne_iff_ne.mpr c48;simp only[Option.some.injEq,Prod.mk.injEq]at H;obtain⟨rfl,rfl,rfl⟩:=H;go_wp2_with (first|((with_reducible refine gate_callee (f:=46) rfl ?_);refine goesL_ (some 9) rfl rfl Tryz.func46 (by kernel_rfl) rfl #[.pointer (some ⟨g,0,none⟩), .int .i64 4] rfl (by(try simp only[List.map_toArray,List.map_cons,List.map_nil]);first|done|rfl|(simp only[List.length_drop,List.length_take];rfl)) ?_;(with_reducible refine(spec_l1Below.calls g s0_0 x1001_1 x1002_1 4 t104 t105 t106 w0 _ ?side1 ?side2 A4.out).mono ?_);(case side1=>repeat(first|(with_reducible first|exact HI0.out|apply IsS81.alloc|apply IsS81.drewN|apply IsS81.drew|apply IsS81.set_1|apply IsS81.set_2)|exact HI0.out));(case side2=>repeat(first|(with_reducible first|exact HB.out|apply below_alloc|apply pw_below_drewN|apply below_drew1|refine below_set ?_ (IsS81.ge HI0.out))|exact HB.out));rintro e w53 ⟨rfl,hi,hb,hk⟩;refine⟨_,rfl, ?_⟩;have n0_:=Ak (Kd.R_mono (Kd.R_keep (IsS81.apart (show IsS81 w0 _ g s0_0 x1001_1 x1002_1 from HI0.out) HO_3.out (by decide)) hk (fun _ h=>h.2)) (fun _ h=>h.1));have n1_:=Ak (KeepBut.trans (HK.out) hk (.inl rfl));have n2_:=Ak (hb);have n3_:=Ak (hi);clear HO_3;clear HK;clear HB;clear HI0;have HO_3:=n0_;have HK:=n1_;have HB:=n2_;have HI0:=n3_;clear n0_ n1_ n2_ n3_;(try clear hb))|((with_reducible refine gate_callee (f:=46) rfl ?_);refine goesL_ (some 22) rfl rfl Tryz.func46 (by kernel_rfl) rfl #[.pointer (some ⟨g,0,none⟩), .int .i64 20] rfl (by(try simp only[List.map_toArray,List.map_cons,List.map_nil]);first|done|rfl|(simp only[List.length_drop,List.length_take];rfl)) ?_;(with_reducible refine(spec_l1Below.calls g s0_0 t105 t106 20 t119 t120 t121 w0 _ ?side1 ?side2 A17.out).mono ?_);(case side1=>repeat(first|(with_reducible first|exact HI0.out|apply IsS81.alloc|apply IsS81.drewN|apply IsS81.drew|apply IsS81.set_1|apply IsS81.set_2)|exact HI0.out));(case side2=>repeat(first|(with_reducible first|exact HB.out|apply below_alloc|apply pw_below_drewN|apply below_drew1|refine below_set ?_ (IsS81.ge HI0.out))|exact HB.out));rintro e w54 ⟨rfl,hi,hb,hk⟩;refine⟨_,rfl, ?_⟩;have n0_:=Ak (Kd.R_mono (Kd.R_keep (IsS81.apart (show IsS81 w0 _ g s0_0 t105 t106 from HI0.out) HO_3.out (by decide)) hk (fun _ h=>h.2)) (fun _ h=>h.1));have n1_:=Ak (KeepBut.trans (HK.out) hk (.inl rfl));have n2_:=Ak (hb);have n3_:=Ak (hi);clear HO_3;clear HK;clear HB;clear HI0;have HO_3:=n0_;have HK:=n1_;have HB:=n2_;have HI0:=n3_;clear n0_ n1_ n2_ n3_;(try clear hb)));go_ret;exact⟨_,by first|rfl|(simp [*]<;>rfl),by(with_reducible repeat(first|apply Kd.R_alloc|apply Kd.R_drewN|apply Kd.R_drew));exact HO_3.out,HI0.out,by repeat(first|exact HB.out|apply below_alloc|apply pw_below_drewN|apply below_drew1|refine below_set ?_ (IsS81.ge HI0.out)),HK.out⟩
theorem NodW.over{w W:World}{gb:Nat}{a0 a1 a2 a3 a4 a5:Value}{x:S41}{v2 v5:Value}(hblk:W.heap[gb]? =some (.cells #[a0,a1,a2,a3,a4,a5] 41 (0,0)))(q2:Kd.R k72 72 W w.heap.size (fun k=>k≠gb) v2 x.f2)(q5:Kd.R (Kd.int .i64) 3 W w.heap.size (fun k=>k≠gb) v5 x.f5)(low:Below w.heap.size w W)(hge:w.heap.size≤gb):NodW w (fillN W gb x v2 v5) gb x v2 v5:=by
 have f2: ∀k,k≠gb→k≠gb:=fun _ h=>h
 refine⟨fillN_blk x v2 v5 hblk, ?_, ?_,fillN_below x v2 v5 low hge,hge⟩
 ·exact Kd.R_far (p:=⟨gb,5,none⟩) (Kd.R_far (p:=⟨gb,4,none⟩) (Kd.R_far (p:=⟨gb,3,none⟩) (Kd.R_far (p:=⟨gb,2,none⟩) (Kd.R_far (p:=⟨gb,1,none⟩) (Kd.R_far (p:=⟨gb,0,none⟩) q2 f2 _) f2 _) f2 _) f2 _) f2 _) f2 _
 ·exact Kd.R_far (p:=⟨gb,5,none⟩) (Kd.R_far (p:=⟨gb,4,none⟩) (Kd.R_far (p:=⟨gb,3,none⟩) (Kd.R_far (p:=⟨gb,2,none⟩) (Kd.R_far (p:=⟨gb,1,none⟩) (Kd.R_far (p:=⟨gb,0,none⟩) q5 f2 _) f2 _) f2 _) f2 _) f2 _) f2 _
section
variable {P:Program} {ops:Array Oper} {md:Region.Mode} {Q:Exit→Act→World→Prop} {S:World→Prop}
def lastWaits(md:Region.Mode)(ops:Array Oper)(n i:Nat):Bool:=((ops[n]?).map fun o=>o.after.any fun e=>Region.binds md e && e.on==i).getD false
theorem lastWaits_spec{n i:Nat}(h:lastWaits md ops n i=true): ∃o,ops[n]? =some o∧ ∃e∈o.after,Region.binds md e=true∧e.on=i:=by
 unfold lastWaits at h;cases hn:ops[n]? with
 |none=>rw[hn]at h;cases h
 |some o=>
  rw[hn]at h;simp only[Option.map_some,Option.getD_some]at h;obtain⟨e,he,hb⟩:=Array.any_eq_true'.1 h;simp only[Bool.and_eq_true,beq_iff_eq]at hb;exact⟨o,rfl,e,he,hb.1,hb.2⟩
theorem getD_un{listed:Array Bool}{i:Nat}(h:listed.getD i true=false):listed.getD i false=false:=by
 rcases Nat.lt_or_ge i listed.size with h'|h'
 ·simp [h']at h⊢;exact h
 ·simp [Array.getElem?_eq_none h']at h
def wpAnyN(P:Program)(md:Region.Mode)(ops:Array Oper)(Q:Exit→Act→World→Prop)(S:World→Prop)(n:Nat):Nat→Array Bool→Act→World→Prop
 |0,listed,a,w=>Region.ready md ops listed= []∧Q .normal a w
 |fuel+1,listed,a,w=>
  (Region.ready md ops listed= []→Q .normal a w)∧
  ∀i∈Region.ready md ops listed,wpOp P ops Q i (fun a' w'=>(i≠n→S w')∧wpAnyN P md ops Q S n fuel (listed.setIfInBounds i true) a' w') a w
theorem wpAny_of_N{n:Nat}: ∀(fuel:Nat) (listed:Array Bool) (a:Act) (w:World),wpAnyN P md ops Q S n fuel listed a w→wpAny P md ops Q fuel listed a w
 |0,_,_,_,h=>h
 |fuel+1,_,_,_,h=>⟨h.1,fun i hi=>wpOp_mono (fun a' w' h'=>wpAny_of_N fuel _ a' w' h'.2) (h.2 i hi)⟩
theorem wpAnyN_first{i n:Nat}{oi:Oper}{v:Value}(hi:ops[i]? =some oi)(hsel: ∀(j:Nat) (o:Oper) cs b,ops[j]? =some o→o.op≠ .select cs b)
 (hQ: ∀c a w,Q (.panic c) (a.put oi.dst v) w→Q (.panic c) a w)(hwn:lastWaits md ops n i=true):
 ∀(fuel:Nat) (listed:Array Bool) (a:Act) (w:World),
  (∀j oj,ops[j]? =some oj→j≠i→listed.getD j true=false→(∀e∈oj.after,Region.binds md e=true→e.on≠i)→oi.apart ops oj=true)→
  i∈Region.ready md ops listed→YieldsIf P ops S oi v a→S w→
  wpAnyN P md ops Q S n fuel (listed.setIfInBounds i true) (a.put oi.dst v) w→wpAnyN P md ops Q S n (fuel+1) listed a w:=by
 intro fuel;induction fuel with
 |zero=>
  intro listed a w _ hr hy hS H;refine⟨fun h=>(by rw[h]at hr;cases hr),fun j hj=> ?_⟩;by_cases hji:j=i
  ·subst hji;exact hy.wpOp hi hS ⟨fun _=>hS,H⟩
  ·have:=ready_mono hj hji;rw[H.1]at this;cases this
 |succ fuel ih=>
  intro listed a w hfree hr hy hS H;refine⟨fun h=>(by rw[h]at hr;cases hr),fun j hj=> ?_⟩;by_cases hji:j=i
  ·subst hji;exact hy.wpOp hi hS ⟨fun _=>hS,H⟩
  ·have h1:=H.2 j (ready_mono hj hji);obtain⟨hjun,oj,hoj,hall⟩:=mem_ready.1 hj;have hnot: ∀e∈oj.after,Region.binds md e=true→e.on≠i:=fun e he hb heq=>by
    have h1:=hall e he hb;have h0:=(mem_ready.1 hr).1;rw[heq,getD_un h0]at h1;cases h1
   have hjn:j≠n:=fun e=>by
    subst e;obtain⟨oj',ho',e',he',hb',hon⟩:=lastWaits_spec hwn;have:oj'=oj:=Oi (ho'.symm.trans hoj);subst this;exact hnot e' he' hb' hon
   have h2:=wpOp_putIf hoj (hfree j oj hoj hji hjun hnot) (fun cs b=>hsel i oi cs b hi) (fun cs b=>hsel j oj cs b hoj) hQ hy h1;have hfree': ∀k ok,ops[k]? =some ok→k≠i→(listed.setIfInBounds j true).getD k true=false→
    (∀e∈ok.after,Region.binds md e=true→e.on≠i)→oi.apart ops ok=true:=fun k ok hk hki hun hno=>by
    refine hfree k ok hk hki ?_ hno;by_cases hjk:j=k
    ·subst hjk;exact hjun
    ·rw[getD_set_ne true hjk]at hun;exact hun
   refine wpOp_mono (fun a' w' h3=>⟨h3.2.1,ih (listed.setIfInBounds j true) a' w' hfree' (ready_mono hr (Ne.symm hji)) h3.1 (h3.2.1 hjn) ?_⟩) h2;rw[Array.setIfInBounds_comm _ _ hji];exact h3.2.2
theorem wpAnyN_take{i n:Nat}{oi:Oper}{v:Value}{fuel:Nat}{listed:Array Bool}{a:Act}{w:World}(hi:ops[i]? =some oi)
 (hs:Region.noSelect ops=true)(hf:Region.free md ops listed i=true)(hr:(Region.ready md ops listed).contains i=true)(hwn:lastWaits md ops n i=true)
 (hQ: ∀c a w,Q (.panic c) (a.put oi.dst v) w→Q (.panic c) a w)(hy:YieldsIf P ops S oi v a)(hS:S w)
 (h:wpAnyN P md ops Q S n fuel (listed.setIfInBounds i true) (a.put oi.dst v) w):wpAnyN P md ops Q S n (fuel+1) listed a w:=
 wpAnyN_first hi (Region.noSelect_spec hs) hQ hwn fuel listed a w (Region.free_spec hi hf) (by simpa using hr) hy hS h
theorem wpAnyN_one{i n:Nat}{o:Oper}{fuel:Nat}{listed:Array Bool}{a:Act}{w:World}(hr:Region.ready md ops listed= [i])(ho:ops[i]? =some o)
 (h: ∀K':Act→World→Prop,Shut (∀a w,S w→(S w→wpAnyN P md ops Q S n fuel (listed.setIfInBounds i true) a w)→K' a w)→if Region.wanted o (yielded ops a.tmps)=true then Oper.wp P o a w K' Q else K' (a.put o.dst undef) w):wpAnyN P md ops Q S n (fuel+1) listed a w:=
 ⟨fun h0=>absurd (hr ▸ h0) (by simp),fun j hj=>by
  rw[hr]at hj;obtain rfl:=List.mem_singleton.1 hj;exact wpOp_step ho (fun K' hK=>h K' (fun a w hS hW=>hK a w ⟨fun _=>hS,hW hS⟩))⟩
theorem wpAnyN_last{n:Nat}{o:Oper}{fuel:Nat}{listed:Array Bool}{a:Act}{w:World}(hr:Region.ready md ops listed= [n])(hd:Region.ready md ops (listed.setIfInBounds n true)= [])(ho:ops[n]? =some o)
 (h: ∀K':Act→World→Prop,Shut (∀a w,Q .normal a w→K' a w)→if Region.wanted o (yielded ops a.tmps)=true then Oper.wp P o a w K' Q else K' (a.put o.dst undef) w):wpAnyN P md ops Q S n (fuel+1) listed a w:=
 ⟨fun h0=>absurd (hr ▸ h0) (by simp),fun j hj=>by
  rw[hr]at hj;obtain rfl:=List.mem_singleton.1 hj;refine wpOp_step ho (fun K' hK=>h K' (fun a w hq=>hK a w ⟨fun e=>absurd rfl e, ?_⟩));cases fuel with
  |zero=>exact⟨hd,hq⟩
  |succ f=>exact⟨fun _=>hq,by rw[hd];simp⟩⟩
theorem wp_region_N{n id:Nat}{a:Act}{w:World}(hm:P.follows .mixedOrders=true)(hS:S w.drew)
 (h:S w.drew→wpAnyN P .any ops Q S n ops.size (Array.replicate ops.size false) a w.drew):(Code.region id ops true).wp P Q a w:=
 wp_region_any hm (wpAny_of_N _ _ _ _ (h hS))
theorem wpAnyN_two{i j n:Nat}{oi oj:Oper}{fuel:Nat}{listed:Array Bool}{a:Act}{w:World}(hr:Region.ready md ops listed= [i,j])(hi:ops[i]? =some oi)(hj:ops[j]? =some oj)
 (h1: ∀K':Act→World→Prop,Shut (∀a w,S w→(S w→wpAnyN P md ops Q S n fuel (listed.setIfInBounds i true) a w)→K' a w)→if Region.wanted oi (yielded ops a.tmps)=true then Oper.wp P oi a w K' Q else K' (a.put oi.dst undef) w)
 (h2: ∀K':Act→World→Prop,Shut (∀a w,S w→(S w→wpAnyN P md ops Q S n fuel (listed.setIfInBounds j true) a w)→K' a w)→if Region.wanted oj (yielded ops a.tmps)=true then Oper.wp P oj a w K' Q else K' (a.put oj.dst undef) w):wpAnyN P md ops Q S n (fuel+1) listed a w:=
 ⟨fun h0=>absurd (hr ▸ h0) (by simp),fun x hx=>by
  rw[hr]at hx;rcases List.mem_cons.1 hx with rfl|hx
  ·exact wpOp_step hi (fun K' hK=>h1 K' (fun a w hS hW=>hK a w ⟨fun _=>hS,hW hS⟩))
  ·obtain rfl:=List.mem_singleton.1 hx;exact wpOp_step hj (fun K' hK=>h2 K' (fun a w hS hW=>hK a w ⟨fun _=>hS,hW hS⟩))⟩
def putAll(a:Act)(l:List (Nat×Value)):Act:=l.foldl (fun a x=>a.put (some x.1) x.2) a
def JoinQ(R:Act→World→Prop):Exit→Act→World→Prop
 | .normal,a,w=>R a w
 |_,_,_=>False
theorem region_join{σ:Type}(puts:σ→List (Nat×Value))(F:σ→World→Prop){id:Nat}{b:Bool}{a:Act}{w:World}
 (h1:(Code.region id ops b).wp P (JoinQ (fun a' w'=> ∃s,a'=putAll a (puts s)∧F s w')) a w)(h2: ∀s w',F s w'→Q .normal (putAll a (puts s)) w'):(Code.region id ops b).wp P Q a w:=
 Code.wp_mono (fun e a' w' h=>by
  cases e<;>first|(obtain⟨s,rfl,hF⟩:=h;exact h2 s w' hF)|exact(h:False).elim) h1
theorem alloc_named{R:Nat→World→Prop}{W:World}{cs:Array Value}{t:Nat}(h: ∀g w',(g=W.heap.size∧W.heap.size≤g)→w'.heap[g]? =some (.cells cs t (0,0))→Below W.heap.size W w'→R g w'):R W.heap.size (W.alloc (.cells cs t)):=
 h _ _ ⟨rfl,Nat.le_refl _⟩ (blk_new W (.cells cs t)) (below_alloc (Below.refl W.heap.size W) (.cells cs t))
end
theorem ElemW.parent{W:World}{base g n cap:Nat}{ok oki:Nat→Prop}{xs:List S41}{i:Int}{x:S41}{v2 v5:Value}(h:ElemW W base ok g n cap xs i oki x v2 v5)(y:Int):
 Kd.S k41 41 (W.setCell ⟨g,i.toNat*6+4,none⟩ (.int .i64 y)) base ok (.slice (some ⟨g,0,none⟩) n cap) (xs.set i.toNat ⟨x.f0,x.f1,x.f2,x.f3,y,x.f5⟩):=by
 obtain⟨g1,_⟩:=Kd.H_seg h.hole h.h0 h.h1 (seg:= [.int .i64 y]) (j:=4) (show 4+1≤6 by omega) (fun q hq=>by rw[List.mem_singleton.1 hq];rfl);exact Kd.H_back (w:=W.setCell ⟨g,i.toNat*6+4,none⟩ (.int .i64 y)) g1 (k41_mkM _ _ oki ⟨x.f0,x.f1,x.f2,x.f3,y,x.f5⟩ (Kd.R_far (p:=⟨g,i.toNat*6+4,none⟩) h.r2 h.ne _) (Kd.R_far (p:=⟨g,i.toNat*6+4,none⟩) h.r5 h.ne _)) (fun _ hk=>hk)
structure HngW(w0 w W:World)(P_:Nat→Prop)(gt gr g n cap:Nat)(xs:List S41):Prop where
 bt:W.heap[gt]? =some (.cells #[.slice (some ⟨g,0,none⟩) n cap] 29 (0,0))
 br:W.heap[gr]? =some (.cells #[.slice none 0 0] 29 (0,0))
 s:Kd.S k41 41 W w0.heap.size (fun k=>(P_ k∧k<w.heap.size)∨(w.heap.size≤k∧k≠gt∧k≠gr)) (.slice (some ⟨g,0,none⟩) n cap) xs
 low:Below w0.heap.size w0 W
 kept:Kept w W P_
 gt_:w.heap.size≤gt
 gr_:w.heap.size≤gr
 ge0:w0.heap.size≤w.heap.size
section
variable {w0 w W W2:World} {P_:Nat→Prop} {gt gr g n cap:Nat} {xs:List S41}
theorem HngW.below(h:HngW w0 w W P_ gt gr g n cap xs)(hb:Below W.heap.size W W2):HngW w0 w W2 P_ gt gr g n cap xs:=⟨blk_below h.bt hb,blk_below h.br hb,Kd.S_below h.s hb,below_step h.low hb,h.kept.below hb,h.gt_,h.gr_,h.ge0⟩
theorem HngW.okg(h:HngW w0 w W P_ gt gr g n cap xs):((P_ g∧g<w.heap.size)∨w.heap.size≤g)∧g≠gt∧g≠gr:=by
 have:=(Kd.S_R h.s).1 g rfl;rcases this with h1|h1
 ·exact⟨.inl h1,by have:=h.gt_;omega,by have:=h.gr_;omega⟩
 ·exact⟨.inr h1.1,h1.2⟩
theorem HngW.len(h:HngW w0 w W P_ gt gr g n cap xs):n=xs.length:=(Kd.S_reads' h.s).1
theorem HngW.cell(h:HngW w0 w W P_ gt gr g n cap xs):W.cell? ⟨gt,0,none⟩=some (.slice (some ⟨g,0,none⟩) n cap):=(blk_cell h.bt 0).trans rfl
theorem HngW.free(h:HngW w0 w W P_ gt gr g n cap xs)(j:Nat):W.frozen? ⟨g,j,none⟩=false:=by
 obtain⟨cells,hc⟩:=Kd.R_typed (Kd.S_R h.s) g rfl;exact blk_frozen hc j
theorem HngW.set(h:HngW w0 w W P_ gt gr g n cap xs){ys:List S41}{p:Nat}{u:Value}(hS:Kd.S k41 41 (W.setCell ⟨g,p,none⟩ u) w0.heap.size (fun k=>(P_ k∧k<w.heap.size)∨(w.heap.size≤k∧k≠gt∧k≠gr)) (.slice (some ⟨g,0,none⟩) n cap) ys):HngW w0 w (W.setCell ⟨g,p,none⟩ u) P_ gt gr g n cap ys:=
 ⟨blk_far (p:=⟨g,p,none⟩) h.bt (Ne.symm h.okg.2.1) _,blk_far (p:=⟨g,p,none⟩) h.br (Ne.symm h.okg.2.2) _,hS,below_set h.low (Kd.S_base h.s g rfl),h.kept.setCell (p:=⟨g,p,none⟩) (h.okg.1.elim (fun h_=> .inl h_.1) .inr) _,h.gt_,h.gr_,h.ge0⟩
theorem HngW.par(h:HngW w0 w W P_ gt gr g n cap xs)(i y:Int)(h0:0≤i)(h1:i<n):HngW w0 w (W.setCell ⟨g,i.toNat*6+4,none⟩ (.int .i64 y)) P_ gt gr g n cap (xs.set i.toNat ⟨(rd_T41 xs i).f0,(rd_T41 xs i).f1,(rd_T41 xs i).f2,(rd_T41 xs i).f3,y,(rd_T41 xs i).f5⟩):=by
 obtain⟨oki,v2,v5,E⟩:=ElemW.of h.s i h0 h1;exact h.set (E.parent y)
theorem HngW.kid(h:HngW w0 w W P_ gt gr g n cap xs)(i:Int)(h0:0≤i)(h1:i<n){v:Value}{ys:List Int}(hb:Below W.heap.size W W2)(hr:Kd.R (Kd.int .i64) 3 W2 W.heap.size (fun _=>True) v ys):HngW w0 w (W2.setCell ⟨g,i.toNat*6+5,none⟩ v) P_ gt gr g n cap (xs.set i.toNat ⟨(rd_T41 xs i).f0,(rd_T41 xs i).f1,(rd_T41 xs i).f2,(rd_T41 xs i).f3,(rd_T41 xs i).f4,ys⟩):=by
 obtain⟨oki,v2,v5,E⟩:=ElemW.of h.s i h0 h1;have hgt:=blk_lt h.bt;have hgr:=blk_lt h.br;refine(h.below hb).set (E.kids (Kd.R_lower (Kd.R_mono (Kd.R_bound hr) (fun k hk=>E.new k (.inr ⟨Nat.le_trans h.kept.1 hk.2.1,by have:=hk.2.1;omega,by have:=hk.2.1;omega⟩) hk.2.1)) h.low.size) (Kept.of_below hb _))
theorem HngW.elem(h:HngW w0 w W P_ gt gr g n cap xs)(i:Int)(h0:0≤i)(h1:i<n):W.cell? ⟨g,i.toNat*6+4,none⟩=some (.int .i64 (rd_T41 xs i).f4)∧ ∃A c,W.cell? ⟨g,i.toNat*6+5,none⟩=some (.slice A (rd_T41 xs i).f5.length c)∧(rd_T41 xs i).f5.length≤c∧(Kd.int .i64).C W A (rd_T41 xs i).f5.length (rd_T41 xs i).f5:=by
 obtain⟨oki,v2,v5,E⟩:=ElemW.of h.s i h0 h1;obtain⟨A,c,rfl,hl,hc⟩:=Kd.R_reads E.r5;exact⟨E.cell 4 _ rfl,A,c,E.cell 5 _ rfl,hl,hc⟩
theorem HngW.start{gt gr:Nat}{A:Option Addr}(hS:Kd.S k41 41 w w0.heap.size P_ (.slice (some ⟨g,0,none⟩) n cap) xs)(hB:Below w0.heap.size w0 w)(hb:Below w.heap.size w W)(bt:W.heap[gt]? =some (.cells #[.slice (some ⟨g,0,none⟩) n cap] 29 (0,0)))(br:W.heap[gr]? =some (.cells #[.slice none 0 0] 29 (0,0)))(h1:w.heap.size≤gt)(h2:w.heap.size≤gr):HngW w0 w W P_ gt gr g n cap xs:=
 ⟨bt,br,Kd.S_below (Kd.S_mono (Kd.S_bound hS) (fun k hk=> .inl ⟨hk.1,hk.2.2.1⟩)) hb,below_step hB hb,Kept.of_below hb _,h1,h2,hB.size⟩
theorem HngW.call(h:HngW w0 w W P_ gt gr g n cap xs){ys:List S41}(hl:ys.length=xs.length)(hS:Kd.S k41 41 W2 w0.heap.size (fun k=>((P_ k∧k<w.heap.size)∨(w.heap.size≤k∧k≠gt∧k≠gr))∨W.heap.size≤k) (.slice (some ⟨g,0,none⟩) ys.length cap) ys)(hb:Below w0.heap.size w0 W2)(hk:Kept W W2 (fun k=>(P_ k∧k<w.heap.size)∨(w.heap.size≤k∧k≠gt∧k≠gr))):HngW w0 w W2 P_ gt gr g ys.length cap ys:=by
 have hgt:=blk_lt h.bt;have hgr:=blk_lt h.br;have e:n=ys.length:=h.len.trans hl.symm;subst e;exact⟨blk_kept h.bt hk (fun h_=>by have:=h.gt_;omega),blk_kept h.br hk (fun h_=>by have:=h.gr_;omega),Kd.S_mono hS (fun k hk_=>hk_.elim id (fun h_=> .inr ⟨Nat.le_trans h.kept.1 h_,by omega,by omega⟩)),hb,h.kept.then_ hk (fun k hk_=>hk_.elim (fun h_=> .inl h_.1) (fun h_=> .inr h_.1)),h.gt_,h.gr_,h.ge0⟩
theorem HngW.same(h:HngW w0 w W P_ gt gr g n cap xs):HngW w0 w (W.setCell ⟨gt,0,none⟩ (.slice (some ⟨g,0,none⟩) n cap)) P_ gt gr g n cap xs:=by
 by_cases e:gr=gt
 ·have h1:=h.bt;rw[←e,h.br]at h1;injection h1 with h1;injection h1 with h1;simp at h1
 ·exact⟨blk_set h.bt 0 _,blk_far (p:=⟨gt,0,none⟩) h.br e _,Kd.S_mono (Kd.S_far (p:=⟨gt,0,none⟩) (Kd.S_types h.s h.bt (by decide)) (fun _ hk=>hk.2) _) (fun _ hk=>hk.1),below_set h.low (Nat.le_trans h.ge0 h.gt_),h.kept.setCell (p:=⟨gt,0,none⟩) (.inr h.gt_) _,h.gt_,h.gr_,h.ge0⟩
theorem HngW.done(h:HngW w0 w W P_ gt gr g n cap xs)(u:Value):Kd.S k41 41 (W.setCell ⟨gr,0,none⟩ u) w0.heap.size (fun k=>P_ k∨w.heap.size≤k) (.slice (some ⟨g,0,none⟩) n cap) xs∧Below w0.heap.size w0 (W.setCell ⟨gr,0,none⟩ u)∧Kept w (W.setCell ⟨gr,0,none⟩ u) P_:=
 ⟨Kd.S_mono (Kd.S_far (p:=⟨gr,0,none⟩) (Kd.S_types h.s h.br (by decide)) (fun _ hk=>hk.2) _) (fun k hk=>hk.1.elim (fun h_=> .inl h_.1) (fun h_=> .inr h_.1)),below_set h.low (Nat.le_trans h.ge0 h.gr_),h.kept.setCell (p:=⟨gr,0,none⟩) (.inr h.gr_) _⟩
end
end Go.Proofs.YtlnmmcipioagaaaGreatDoor.X
