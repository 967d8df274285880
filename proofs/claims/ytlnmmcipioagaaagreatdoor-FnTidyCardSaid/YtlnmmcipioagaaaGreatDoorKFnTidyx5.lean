/- What the Go functions that FnTidy reaches compute, and that their walks come to just that (written by a program of this project over the kit's print). Conditions: as each states. -/
import Derived.RegionTactic
import Derived.Shelf.Abstract
import Derived.Deep.RegionWith
import Derived.Test.YtlnmmcipioagaaaGreatDoorKFnTidyx4
set_option maxHeartbeats 64000000
set_option maxRecDepth 100000
namespace Go.Proofs.YtlnmmcipioagaaaGreatDoor.X
open Go.RowKit Go.Proofs.YtlnmmcipioagaaaGreatDoorW.PrintWords Go.Proofs.YtlnmmcipioagaaaGreatDoorW.PrintLast Go.Proofs.YtlnmmcipioagaaaGreatDoorW.PrintMore
attribute [local go_sem] max2_int min2_int max_two min_two max_three min_three max_four min_four
set_option linter.unusedVariables false
set_option linter.unusedSimpArgs false
def impl_Tree_tidy.l0:Nat→Int→List Int→List Int→Option (List Int)
 |0,_,_,_=>none
 |k+1,j,order,s=>if j<(order.length:Int)then(if 0≤j then(if 0≤rd order j then(if rd order j<(s.length:Int)then impl_Tree_tidy.l0 k (wrap64 (j+1)) order (s.set (rd order j).toNat j)else none)else none)else none)else some s
mutual
def impl_Tree_tidy.l1:Nat→Int→List Int→List Int→List S41→List S41→Option (List S41)
 |0,_,_,_,_,_=>none
 |k+1,j,order,s,xs,outs=>if j<(order.length:Int)then(if 0≤j then(if 0≤rd order j then(if rd order j<(xs.length:Int)then((impl_copyNode.f (rd_T41 xs (rd order j)).f0 (rd_T41 xs (rd order j)).f1 (rd_T41 xs (rd order j)).f2 (rd_T41 xs (rd order j)).f3 (rd_T41 xs (rd order j)).f4 (rd_T41 xs (rd order j)).f5).bind fun b=>impl_Tree_tidy.l2 k 0 j order s xs outs ⟨b.1,b.2.1,b.2.2.1,b.2.2.2.1,b.2.2.2.2.1,b.2.2.2.2.2⟩)else none)else none)else none)else some outs
def impl_Tree_tidy.l2:Nat→Int→Int→List Int→List Int→List S41→List S41→S41→Option (List S41)
 |0,_,_,_,_,_,_,_=>none
 |k+1,i,j,order,s,xs,outs,x=>if i<(x.f5.length:Int)then(if 0≤i then(if 0≤rd x.f5 i then(if rd x.f5 i<(s.length:Int)then impl_Tree_tidy.l2 k (wrap64 (i+1)) j order s xs outs ⟨x.f0,x.f1,x.f2,x.f3,x.f4,x.f5.set i.toNat (rd s (rd x.f5 i))⟩else none)else none)else none)else(if outs.length<1000000 then(if j=0 then impl_Tree_tidy.l1 k (wrap64 (j+1)) order s xs (outs++ [⟨x.f0,x.f1,x.f2,x.f3, -1,x.f5⟩])else(if 0≤x.f4 then(if x.f4<(s.length:Int)then impl_Tree_tidy.l1 k (wrap64 (j+1)) order s xs (outs++ [⟨x.f0,x.f1,x.f2,x.f3,rd s x.f4,x.f5⟩])else none)else none))else none)
end
def impl_Tree_tidy.f(k:Nat)(xs:List S41):Option (List S41):=(impl_Tree_below.f k xs 0).bind fun order=>if 0<order.length then(if 0<xs.length then(if xs.length≤1000000 then((impl_Tree_tidy.l0 k 0 order (List.replicate xs.length 0)).bind fun s=>impl_Tree_tidy.l1 k 0 order s xs [])else none)else none)else none
theorem impl_Tree_tidy.mono_0: ∀k,(∀y0 y1 y2,LeO (impl_Tree_tidy.l0 k y0 y1 y2) (impl_Tree_tidy.l0 (k+1) y0 y1 y2))
 |0=>fun _ _ _ r h=>by simp [impl_Tree_tidy.l0]at h
 |k+1=>by
  have ih:=impl_Tree_tidy.mono_0 k;intro y0 y1 y2;rw[impl_Tree_tidy.l0,impl_Tree_tidy.l0];exact LeO.ite (LeO.ite (LeO.ite (LeO.ite (ih _ _ _) (LeO.refl _)) (LeO.refl _)) (LeO.refl _)) (LeO.refl _)
theorem impl_Tree_tidy.mono_l: ∀k,(∀y0 y1 y2 y3 y4,LeO (impl_Tree_tidy.l1 k y0 y1 y2 y3 y4) (impl_Tree_tidy.l1 (k+1) y0 y1 y2 y3 y4))∧(∀y0 y1 y2 y3 y4 y5 y6,LeO (impl_Tree_tidy.l2 k y0 y1 y2 y3 y4 y5 y6) (impl_Tree_tidy.l2 (k+1) y0 y1 y2 y3 y4 y5 y6))
 |0=>⟨fun _ _ _ _ _ r h=>by simp [impl_Tree_tidy.l1]at h,fun _ _ _ _ _ _ _ r h=>by simp [impl_Tree_tidy.l2]at h⟩
 |k+1=>by
  obtain⟨ih1,ih2⟩:=impl_Tree_tidy.mono_l k;constructor
  ·intro y0 y1 y2 y3 y4;rw[impl_Tree_tidy.l1,impl_Tree_tidy.l1];exact LeO.ite (LeO.ite (LeO.ite (LeO.ite (LeO.bind (LeO.refl _) (fun _=>ih2 _ _ _ _ _ _ _)) (LeO.refl _)) (LeO.refl _)) (LeO.refl _)) (LeO.refl _)
  ·intro y0 y1 y2 y3 y4 y5 y6;rw[impl_Tree_tidy.l2,impl_Tree_tidy.l2];exact LeO.ite (LeO.ite (LeO.ite (LeO.ite (ih2 _ _ _ _ _ _ _) (LeO.refl _)) (LeO.refl _)) (LeO.refl _)) (LeO.ite (LeO.ite (ih1 _ _ _ _ _) (LeO.ite (LeO.ite (ih1 _ _ _ _ _) (LeO.refl _)) (LeO.refl _))) (LeO.refl _))
theorem impl_Tree_tidy.mono: ∀a0 k,LeO (impl_Tree_tidy.f k a0) (impl_Tree_tidy.f (k+1) a0):=fun a0 k=>LeO.bind (impl_Tree_below.mono _ _ _) (fun _=>LeO.ite (LeO.ite (LeO.ite (LeO.bind (impl_Tree_tidy.mono_0 k _ _ _) (fun _=>(impl_Tree_tidy.mono_l k).1 _ _ _ _ _)) (LeO.refl _)) (LeO.refl _)) (LeO.refl _))
theorem impl_Tree_tidy.calls(k:Nat)(g:Nat)(xs:List S41)(r:List S41)(w0 w:World)(hI:IsS29 w0 w g xs)(hB:Below w0.heap.size w0 w)(h:impl_Tree_tidy.f k xs=some r):
 Calls Tryz.prog 26 #[.pointer (some ⟨g,0,none⟩)] w fun e w'=> ∃v0_:Value,e= .returned (.agg #[v0_])∧Kd.S k41 41 w' w.heap.size (fun _=>True) v0_ r∧IsS29 w0 w' g xs∧Below w0.heap.size w0 w'∧KeepBut w w' g none:=by
 unfold impl_Tree_tidy.f at h;obtain⟨order,A1,h⟩:=Ob h;by_cases ho:0<order.length
 ·rw[if_pos ho]at h;by_cases hx1:0<xs.length
  ·rw[if_pos hx1]at h;by_cases hx2:xs.length≤1000000
   ·rw[if_pos hx2]at h;obtain⟨s0,AL,AH⟩:=Ob h;replace A1:=Ak A1;replace AL:=Ak AL;replace AH:=Ak AH;have HO:=Ak ho;have HX1:=Ak hx1;have HX2':=Ak hx2;have HGW:=Ak (show g<w.heap.size by obtain⟨_,_,hb,_⟩:=hI;exact blk_lt hb);clear h ho hx1 hx2;have HI:=Ak hI;have HB:=Ak hB;have HB0:=Ak hB;clear hI hB;go_enter Tryz.func26,Tryz.ntmps26;go_wp2_with (first
     |((with_reducible refine gate_dst (N:=2) rfl ?_);refine box_event ?hg (N:=2) ?hd (cs:= #[.slice none 0 0]) (t:=29) ?hr ?_;(case hd=>rfl);(case hg=>rfl);(case hr=>first|(go_simp;done)|(go_simp;rfl));intro g2 hg w1 hbox hb;have HI1:=Ak (IsS29.below HI.out hb);have HB1:=Ak (below_step HB.out hb);have HW1:=Ak hb;have HX:=Ak hbox;have HG2:=Ak (Nat.le_of_eq hg.symm);have HNE:=Ak (show g2≠g by have:=HGW.out;omega);clear hbox hb hg HI HB)
     |(go_at_call 34;(with_reducible refine(impl_Tree_below.calls k g xs 0 order w0 _ HI1.out HB1.out A1.out).mono ?_);rintro e w2 ⟨vo,rfl,hr,hi,hb,hk⟩;have HX2:=Ak (hk.blk HX.out HNE.out (by simp));have HB2:=Ak hb;have HKB:=Ak hk;have HI2:=Ak hi;obtain⟨A,c,hgb,hge,hC⟩:=hi;have hcg:=cellS29_0 hgb;have HCG:=Ak hcg;have HC:=Ak (Kd.C_below hC hb);obtain⟨go,co,evo,_,_,_⟩:=Kd.R_form hr HO.out;subst evo;have HR:=Ak (Kd.R_reads' hr).2.2;clear hr hb hk HX hgb hge hC)
     |((with_reducible refine gate_dst (N:=20) rfl ?_);refine Kd.R_make (w0:=w2) (Kd.int .i64) w2.heap.size 3 rfl (N:=20) rfl 39 _ _ rfl (xs.length:Int) rfl rfl Tryz.underlying39 (.int .i64 0) 8 info3 rfl (by decide) (by omega) 0 (ok:=fun _=>True) (okp:=fun _=>True) rfl (fun _ hk=>hk) trivial (by omega) (by have:=HX2'.out;omega) (Below.refl _ _) (Nat.le_refl _) ?_;intro vs w3 ho hb hg_ hnew_;clear hg_ hnew_;rw[Int.toNat_natCast]at ho;obtain⟨gs,cap,ev,hrow⟩:=RowW.of ho hb (by have:=HX1.out;rw[List.length_replicate];exact this);rw[List.length_replicate]at ev hrow;subst ev;have HS:=Ak hrow;clear ho hb hrow))
    go_loopg [23] k (fun kq v23 w'=> ∃(j:Int) (s:List Int),v23= .int .i64 j∧Aside0 (impl_Tree_tidy.l0 kq j order s=some s0)∧Aside0 (kq≤k)∧Aside0 (RowW w2 w' gs xs.length cap s));case atStart=>exact⟨0,_,rfl,AL,⟨Nat.le_refl _⟩,HS⟩
    case round=>
     clear AL HS hcg;obtain⟨j,s,rfl,HA,HK,HS⟩:=hrel;cases gk with
     |zero=>exact absurd HA.out (by simp [impl_Tree_tidy.l0])
     |succ k1=>
      have H:=HA.out;clear HA;simp only[impl_Tree_tidy.l0]at H;by_cases c1:j<(order.length:Int)
      ·rw[if_pos c1]at H;by_cases c2:0≤j
       ·rw[if_pos c2]at H;by_cases c3:0≤rd order j
        ·rw[if_pos c3]at H;by_cases c4:rd order j<(s.length:Int)
         ·rw[if_pos c4]at H;have HA:=Ak H;clear H;have c4':rd order j<(xs.length:Int):=by have:=HS.out.len;omega
          clear c4;have c1b:decide (j<(order.length:Int))=true:=decide_eq_true c1;obtain⟨ak,e2,hy0⟩:=Kd.at_int HR.out j c2 c1;injection e2 with e2
          subst e2;replace hy0:=pw_cell_below HS.out.low hy0;rw[add_plain]at hy0;obtain⟨hs,hsf⟩:=HS.out.at_ (rd order j) c3 c4';replace c1:=eq_true c1;replace c2:=eq_true c2;replace c3:=eq_true c3;replace c4':=eq_true c4';go_wp2;go_roundg k1;case measure=>have:=HK.out;omega
          case rel=>exact⟨_,_,rfl,HA,⟨by have:=HK.out;omega⟩,⟨HS.out.put (rd order j) j⟩⟩
         ·rw[if_neg c4]at H;cases H
        ·rw[if_neg c3]at H;cases H
       ·rw[if_neg c2]at H;cases H
      ·rw[if_neg c1]at H;obtain rfl:=Oi H;clear H;have c1b:decide (j<(order.length:Int))=false:=decide_eq_false c1;clear c1;have HS5:=Ak (HS.out);have HC5:=Ak (Kd.C_below HC.out HS.out.low);have HR5:=Ak (Kd.C_below HR.out HS.out.low);have HP5:=Ak (Kd.R_reads' HS.out.row).2.2;have HX5:=Ak (blk_below HX2.out HS.out.low);have HI5:=Ak (IsS29.below HI2.out HS.out.low);have hcg5:=pw_cell_below HS.out.low HCG.out;have HCG5:=Ak hcg5;clear HS;generalize hwr:wr=w5 at HS5 HC5 HR5 HP5 HX5 HI5 hcg5 HCG5⊢;clear hwr;have hlen:=HS5.out.len;go_wp2_with (first|((with_reducible refine gate_dst (N:=7) rfl ?_);refine box_event ?hg (N:=7) ?hd (cs:= #[.slice none 0 0]) (t:=29) ?hr ?_;(case hd=>rfl);(case hg=>rfl);(case hr=>first|(go_simp;done)|(go_simp;rfl));intro gq hg w6 hbox hb;have HQ:=Ak (show OutW w5 w6 gq (.slice none 0 0) []from⟨hbox,Kd.S_nil _ _ _ _ _,hb,Nat.le_of_eq hg.symm⟩);clear hbox hb hg));have HLEN:=Ak hlen;clear hlen;go_loopg [35] k (fun kq v35 w'=> ∃(j:Int) (outs:List S41) (vo:Value),v35= .int .i64 j∧Aside0 (impl_Tree_tidy.l1 kq j order s xs outs=some r)∧Aside0 (kq≤k)∧Aside0 (OutW w5 w' gq vo outs));case atStart=>exact⟨0,_,_,rfl,AH,⟨Nat.le_refl _⟩,HQ⟩
       case round=>
        clear HQ hcg5;obtain⟨j,outs,vo,rfl,HA,HKJ,HQ⟩:=hrel;cases gk with
        |zero=>exact absurd HA.out (by simp [impl_Tree_tidy.l1])
        |succ k2=>
         have H:=HA.out;clear HA;simp only[impl_Tree_tidy.l1]at H;have hcg:=pw_cell_below HQ.out.low HCG5.out;by_cases c1:j<(order.length:Int)
         ·rw[if_pos c1]at H;by_cases c2:0≤j
          ·rw[if_pos c2]at H;by_cases c3:0≤rd order j
           ·rw[if_pos c3]at H;by_cases c4:rd order j<(xs.length:Int)
            ·rw[if_pos c4]at H;obtain⟨⟨b0,b1,b2,b3,b4,b5⟩,AC,H⟩:=Ob H;replace AC:=Ak AC;have HA:=Ak H;clear H;have c1b:decide (j<(order.length:Int))=true:=decide_eq_true c1;obtain⟨ak,e2,hy0⟩:=Kd.at_int HR5.out j c2 c1;injection e2 with e2
             subst e2;replace hy0:=pw_cell_below HQ.out.low hy0;rw[add_plain]at hy0;obtain⟨ad,A_2,c_2,A_5,c_5,e1,hx0,hx1,hx2,hx3,hx4,hx5,hl2,hi2,hl5,hi5⟩:=at_T41 HC5.out (rd order j) c3 c4;subst e1;replace hx0:=pw_cell_below HQ.out.low hx0;replace hx1:=pw_cell_below HQ.out.low hx1;replace hx2:=pw_cell_below HQ.out.low hx2;replace hx3:=pw_cell_below HQ.out.low hx3;replace hx4:=pw_cell_below HQ.out.low hx4;replace hx5:=pw_cell_below HQ.out.low hx5;have HI2':=Ak (Kd.C_below hi2 HQ.out.low);have HI5':=Ak (Kd.C_below hi5 HQ.out.low);have HL2:=Ak hl2;have HL5:=Ak hl5;clear hl2 hi2 hl5 hi5;replace c1:=eq_true c1;replace c2:=eq_true c2;replace c3:=eq_true c3;replace c4:=eq_true c4;generalize hwB:wr=wB at HQ hcg hy0 hx0 hx1 hx2 hx3 hx4 hx5 HI2' HI5'⊢;clear hwB;go_upto_region 13 with(first|(go_at_call 47;(with_reducible refine(impl_copyNode.calls _ _ _ _ _ _ _ _ _ _ b0 b1 b2 b3 b4 b5 _ HI2'.out HL2.out HI5'.out HL5.out AC.out).mono ?_);rintro e w7 ⟨v2,v5,rfl,hr2,hr5,hb⟩;obtain⟨B2,d2,rfl⟩:=Kd.R_slice hr2;obtain⟨B5,d5,rfl⟩:=Kd.R_slice hr5;have HR2:=Ak hr2;have HR5:=Ak hr5;have HB7:=Ak hb;clear hr2 hr5 hb)|((with_reducible refine gate_dst (N:=10) rfl ?_);refine box_event ?hg (N:=10) ?hd (cs:= #[.int .i64 0, .string (⟨#[]⟩:ByteArray), .slice none 0 0, .string (⟨#[]⟩:ByteArray), .int .i64 0, .slice none 0 0]) (t:=41) ?hr ?_;(case hd=>rfl);(case hg=>rfl);(case hr=>first|(go_simp;done)|(go_simp;rfl));intro gb hg w8 hbox hb;have HND:=Ak (NodW.new (x:=⟨b0,b1,b2,b3,b4,b5⟩) HR2.out HR5.out HB7.out hb hg hbox);have hz0:=blk_cell hbox 0;have hz1:=blk_cell hbox 1;have hz2:=blk_cell hbox 2;have hz3:=blk_cell hbox 3;have hz4:=blk_cell hbox 4;have hz5:=blk_cell hbox 5;have hf:=blk_frozen hbox;clear hbox hb hg))
             show Code.wp _ _ _ _ (fillN w8 gb ⟨b0,b1,b2,b3,b4,b5⟩ (.slice B2 b2.length d2) (.slice B5 b5.length d5))
             generalize fillN w8 gb ⟨b0,b1,b2,b3,b4,b5⟩ (.slice B2 b2.length d2) (.slice B5 b5.length d5)=wD at HND⊢;clear hx0 hx1 hx2 hx3 hx4 hx5 hy0 hcg;obtain⟨hq0,hq1,hq2,hq3,hq4,hq5⟩:=HND.out.cells;clear hz0 hz1 hz2 hz3 hz4 hz5 hf;go_wp2;go_loopg [51] k2 (fun kq v51 w'=> ∃(i:Int) (ks:List Int),v51= .int .i64 i∧Aside0 (impl_Tree_tidy.l2 kq i j order s xs outs ⟨b0,b1,b2,b3,b4,ks⟩=some r)∧Aside0 (kq≤k2)∧Aside0 (ks.length=b5.length)∧Aside0 (NodW wB w' gb ⟨b0,b1,b2,b3,b4,ks⟩ (.slice B2 b2.length d2) (.slice B5 b5.length d5)));case atStart=>exact⟨0,_,rfl,HA,⟨Nat.le_refl _⟩,⟨rfl⟩,HND⟩
             case round=>
              clear HA HND hq0 hq1 hq2 hq3 hq4 hq5;obtain⟨i,ks,rfl,HA,HK3,HLK,HND⟩:=hrel;cases gk with
              |zero=>exact absurd HA.out (by simp [impl_Tree_tidy.l2])
              |succ k3=>
               have H:=HA.out;clear HA;simp only[impl_Tree_tidy.l2]at H;obtain⟨hq0,hq1,hq2,hq3,hq4,hq5⟩:=HND.out.cells;have HLOW:=Ak (below_step HQ.out.low HND.out.low);by_cases c5:i<(ks.length:Int)
               ·rw[if_pos c5]at H;by_cases c6:0≤i
                ·rw[if_pos c6]at H;by_cases c7:0≤rd ks i
                 ·rw[if_pos c7]at H;by_cases c8:rd ks i<(s.length:Int)
                  ·rw[if_pos c8]at H;have HA:=Ak H;clear H;have c5l:i<(b5.length:Int):=by have:=HLK.out;omega
                   have c5b:decide (i<(b5.length:Int))=true:=decide_eq_true c5l;obtain⟨gk,cap5,ev5,_,_,_⟩:=Kd.R_form HND.out.r5 (by show 0<ks.length;omega);injection ev5 with ea5 en5 ec5;clear en5;subst ea5;subst ec5;obtain⟨hk0,hkf⟩:=Kd.R_celln 0 HND.out.r5 i c6 c5l;replace hk0:wr.cell? ⟨gk,i.toNat,none⟩=some (.int .i64 (rd ks i)):=hk0;obtain⟨as_,e9,hs0⟩:=Kd.at_int HP5.out (rd ks i) c7 c8;injection e9 with e9;subst e9;replace hs0:=pw_cell_below HLOW.out hs0;rw[add_plain]at hs0;have c8x:rd ks i<(xs.length:Int):=by have:=HLEN.out;omega
                   clear c5;replace c8:=eq_true c8;replace c5l:=eq_true c5l;replace c6:=eq_true c6;replace c7:=eq_true c7;replace c8x:=eq_true c8x;go_wp2;go_region;all_goals go_wp2
                   go_roundg k3;case measure=>have:=HK.out;have:=HKJ.out;have:=HK3.out;omega
                   case rel=>exact⟨_,_,rfl,HA,⟨by have:=HK3.out;omega⟩,⟨by rw[List.length_set];exact HLK.out⟩,⟨NodW.drewN (NodW.kid HND.out i (rd s (rd ks i))) 1⟩⟩
                  ·rw[if_neg c8]at H;cases H
                 ·rw[if_neg c7]at H;cases H
                ·rw[if_neg c6]at H;cases H
               ·rw[if_neg c5]at H;have c5b:decide (i<(b5.length:Int))=false:=decide_eq_false (by have:=HLK.out;omega);clear c5;have HE:=Ak H;clear H;by_cases cN:outs.length<1000000
                ·have HLN:=Ak cN;by_cases cj:j=0
                 ·have H:=HE.out;rw[if_pos cN,if_pos cj]at H;have HA:=Ak H;clear H HE cN;have cjb:(j==0)=true:=beq_iff_eq.mpr cj;clear cj;have hfb:=blk_frozen HND.out.blk;go_upto_region 21 with(fail);have HNE2:=Ak (NodW.par HND.out (-1));generalize wr.setCell ⟨gb,4,none⟩ (.int .i64 (-1))=wE at HNE2⊢;clear hq0 hq1 hq2 hq3 hq4 hq5 hfb;obtain⟨hq0,hq1,hq2,hq3,hq4,hq5⟩:=HNE2.out.cells;have hqo:=pw_cell_below HNE2.out.low HQ.out.cell;go_wp2_with (first|((with_reducible refine gate_builtin (b:= .append) (xs:= #[.tmp 75, .tmp 77]) rfl ?_);at_builtin;refine Kd.S_append (w0:=w5) k41 w5.heap.size rfl (.tmp 75) (.tmp 77) 27 41 (.agg #[(.int .i64 0),(.string ⟨#[]⟩),(.slice none 0 0),(.string ⟨#[]⟩),(.int .i64 0),(.slice none 0 0)]) 96 rfl Tryz.underlying27 info41 rfl (by decide) (by omega) vo outs _ _ (fun k_=>k_≠gq) (fun k_=>wB.heap.size≤k_∧k_<wE.heap.size) rfl rfl (NodW.elem HNE2.out HQ.out.low) (HQ.out.okp) (fun k_ hk=>by have:=HQ.out.lt;have:=HNE2.out.low.size;omega) (HQ.out.apart HNE2.out.low) (below_step HQ.out.low HNE2.out.low) (below_step HQ.out.low HNE2.out.low).size (by have:=HLN.out;omega) ?_;intro v1 w9 hS hlow hgw hat;obtain⟨A1,c1',ev1⟩:=Kd.S_slice hS;rw[List.length_append,List.length_singleton]at ev1;subst ev1;have HQ2:=Ak (HQ.out.put HNE2.out.low hS hlow hgw);have hcq2:=(blk_cell (blk_grown (blk_below HQ.out.blk HNE2.out.low) hgw (fun e_=>(HQ.out.row|>Kd.S_R).1 gq e_.symm rfl)) 0).trans (show(#[vo]:Array Value)[0]? =some vo from rfl);have hfq2:=blk_frozen (blk_grown (blk_below HQ.out.blk HNE2.out.low) hgw (fun e_=>(HQ.out.row|>Kd.S_R).1 gq e_.symm rfl));clear hS hlow hgw hat));go_roundg k3;case measure=>have:=HK.out;have:=HKJ.out;have:=HK3.out;omega
                  case rel=>exact⟨_,_,_,rfl,HA,⟨by have:=HKJ.out;have:=HK3.out;omega⟩,HQ2⟩
                 ·have H:=HE.out;rw[if_pos cN,if_neg cj]at H;by_cases cp0:0≤b4
                  ·rw[if_pos cp0]at H;by_cases cp1:b4<(s.length:Int)
                   ·rw[if_pos cp1]at H;have HA:=Ak H;clear H HE cN;have cjb:(j==0)=false:=beq_eq_false_iff_ne.mpr cj;clear cj;have hfb:=blk_frozen HND.out.blk;obtain⟨as_,e9,hs0⟩:=Kd.at_int HP5.out b4 cp0 cp1;injection e9 with e9
                    subst e9;replace hs0:=pw_cell_below HLOW.out hs0;rw[add_plain]at hs0;replace cp0:=eq_true cp0;replace cp1:=eq_true cp1;go_upto_region 21 with(fail)
                    have HNE2:=Ak (NodW.par HND.out (rd s b4));generalize wr.setCell ⟨gb,4,none⟩ (.int .i64 (rd s b4))=wE at HNE2⊢;clear hq0 hq1 hq2 hq3 hq4 hq5 hfb hs0;obtain⟨hq0,hq1,hq2,hq3,hq4,hq5⟩:=HNE2.out.cells;have hqo:=pw_cell_below HNE2.out.low HQ.out.cell;go_wp2_with (first|((with_reducible refine gate_builtin (b:= .append) (xs:= #[.tmp 75, .tmp 77]) rfl ?_);at_builtin;refine Kd.S_append (w0:=w5) k41 w5.heap.size rfl (.tmp 75) (.tmp 77) 27 41 (.agg #[(.int .i64 0),(.string ⟨#[]⟩),(.slice none 0 0),(.string ⟨#[]⟩),(.int .i64 0),(.slice none 0 0)]) 96 rfl Tryz.underlying27 info41 rfl (by decide) (by omega) vo outs _ _ (fun k_=>k_≠gq) (fun k_=>wB.heap.size≤k_∧k_<wE.heap.size) rfl rfl (NodW.elem HNE2.out HQ.out.low) (HQ.out.okp) (fun k_ hk=>by have:=HQ.out.lt;have:=HNE2.out.low.size;omega) (HQ.out.apart HNE2.out.low) (below_step HQ.out.low HNE2.out.low) (below_step HQ.out.low HNE2.out.low).size (by have:=HLN.out;omega) ?_;intro v1 w9 hS hlow hgw hat;obtain⟨A1,c1',ev1⟩:=Kd.S_slice hS;rw[List.length_append,List.length_singleton]at ev1;subst ev1;have HQ2:=Ak (HQ.out.put HNE2.out.low hS hlow hgw);have hcq2:=(blk_cell (blk_grown (blk_below HQ.out.blk HNE2.out.low) hgw (fun e_=>(HQ.out.row|>Kd.S_R).1 gq e_.symm rfl)) 0).trans (show(#[vo]:Array Value)[0]? =some vo from rfl);have hfq2:=blk_frozen (blk_grown (blk_below HQ.out.blk HNE2.out.low) hgw (fun e_=>(HQ.out.row|>Kd.S_R).1 gq e_.symm rfl));clear hS hlow hgw hat));go_roundg k3;case measure=>have:=HK.out;have:=HKJ.out;have:=HK3.out;omega
                    case rel=>exact⟨_,_,_,rfl,HA,⟨by have:=HKJ.out;have:=HK3.out;omega⟩,HQ2⟩
                   ·rw[if_neg cp1]at H;cases H
                  ·rw[if_neg cp0]at H;cases H
                ·have H:=HE.out;rw[if_neg cN]at H;cases H
            ·rw[if_neg c4]at H;cases H
           ·rw[if_neg c3]at H;cases H
          ·rw[if_neg c2]at H;cases H
         ·rw[if_neg c1]at H;obtain rfl:=Oi H;clear H;have c1b:decide (j<(order.length:Int))=false:=decide_eq_false c1;clear c1;have HQL:=Ak HQ.out.low;obtain⟨Aq,cq,rfl⟩:=Kd.S_slice HQ.out.row;have hcq:=HQ.out.cell;have hb2:=blk_below HX5.out HQL.out;have hc2:=blk_cell hb2 0;have hf2:=blk_frozen hb2;have HBB:=Ak hb2;clear hb2;go_wp2;have HGE2:=HG2.out;refine bodyPost_ret (results_cell_row rfl _ _ g2 29 #[.slice Aq outs.length cq] (0,0) _ rfl (blk_put (cs:= #[.slice none 0 0]) HBB.out 0 _ rfl) Tryz.underlying29 rfl (by kernel_rfl)) rfl ?_;have hg5:g2<w5.heap.size:=blk_lt HX5.out;have hlow5:Below w0.heap.size w0 w5:=below_step HB2.out HS5.out.low;have hk5:KeepBut w w5 g none:=(KeepBut.trans (KeepBut.of_below HW1.out g none) HKB.out (.inl rfl)).trans (KeepBut.of_below HS5.out.low g none) (.inl rfl);refine⟨_,rfl, ?_, ?_, ?_, ?_⟩
          ·exact Kd.S_lower (Kd.S_mono (Kd.S_far (p:=⟨g2,0,none⟩) (Kd.S_mono (Kd.S_bound HQ.out.row) (ok':=fun k_=>k_≠g2) (fun k_ hk=>by have:=hk.2.1;omega)) (fun _ hk=>hk) _) (fun _ _=>trivial)) hk5.1
          ·exact IsS29.far (IsS29.below HI5.out HQL.out) (Ne.symm HNE.out) _
          ·exact below_set (below_step hlow5 HQL.out) (Nat.le_trans (by have:=HB1.out.size;have:=HW1.out.size;have:=HGW.out;exact Nat.le_trans (below_size (show Below w0.heap.size w0 w from HB0.out)) HGE2) (Nat.le_refl _))
          ·exact keep_far (hk5.trans (KeepBut.of_below HQL.out g none) (.inl rfl)) HGE2 _
   ·rw[if_neg hx2]at h;cases h
  ·rw[if_neg hx1]at h;cases h
 ·rw[if_neg ho]at h;cases h
def impl_TreeTidy.f(k:Nat)(l0_0:List S41):Option (List S41):=(impl_TreeOk.f k l0_0).bind fun b=>if b=true then impl_Tree_tidy.f k l0_0 else some []
theorem impl_TreeTidy.mono: ∀a0_0 k,LeO (impl_TreeTidy.f k a0_0) (impl_TreeTidy.f (k+1) a0_0):=fun a0_0 k=>LeO.bind (impl_TreeOk.mono a0_0 k) (fun _=>LeO.ite (impl_Tree_tidy.mono a0_0 k) (LeO.refl _))
theorem impl_TreeTidy.calls(k:Nat)(A0_0:Option Addr)(c0_0:Nat)(l0_0:List S41)(r:List S41)(w:World)(hr0_0:Kd.C k41 w A0_0 l0_0.length l0_0)(hc0_0:l0_0.length≤c0_0)(h:impl_TreeTidy.f k l0_0=some r):
 Calls Tryz.prog 12 #[.agg #[.slice A0_0 l0_0.length c0_0]] w fun e w'=> ∃v0_:Value,e= .returned (.agg #[v0_])∧Kd.S k41 41 w' w.heap.size (fun _=>True) v0_ r∧Below w.heap.size w w':=by
 unfold impl_TreeTidy.f at h;obtain⟨b,A1,h⟩:=Ob h;have HA1:=Ak A1;have HA:=Ak h;have HC:=Ak hr0_0;have HCC:=Ak hc0_0;clear h hr0_0 hc0_0 A1;go_enter Tryz.func12,Tryz.ntmps12;go_upto_region 1 with(first
  |((with_reducible refine gate_dst (N:=1) rfl ?_);refine box_event ?hg (N:=1) ?hd (cs:= #[.slice A0_0 l0_0.length c0_0]) (t:=29) ?hr ?_;(case hd=>rfl);(case hg=>rfl);(case hr=>first|(go_simp;done)|(go_simp;rfl));intro gt hg w1 hbox hb;have HX:=Ak (show BoxW w w1 gt A0_0 l0_0.length c0_0 from⟨hbox,hb,by rw[hg];exact Nat.le_refl _⟩);clear hbox hb hg)
  |((with_reducible refine gate_dst (N:=2) rfl ?_);refine box_event ?hg (N:=2) ?hd (cs:= #[.slice none 0 0]) (t:=29) ?hr ?_;(case hd=>rfl);(case hg=>rfl);(case hr=>first|(go_simp;done)|(go_simp;rfl));intro gr hg w2 hbox hb;have HR:=Ak hbox;have HX2:=Ak (HX.out.below hb);have HNE:=Ak (show gr≠gt by have:=blk_lt HX.out.blk;omega);have HLR:=Ak (blk_lt hbox);have HGR:=Ak (show w.heap.size≤gr by rw[hg];exact HX.out.low.size);clear hbox hb hg))
 have hcg:=HX2.out.cell;cases b with
 |false=>
  have H:=HA.out;simp only[Bool.false_eq_true,if_false]at H;obtain rfl:=Oi H;clear H HA;go_wp2_with (first|(go_at_call 15;(with_reducible refine(impl_TreeOk.calls k A0_0 c0_0 l0_0 false w2 (Kd.C_below HC.out HX2.out.low) HCC.out HA1.out).mono ?_);rintro e w3 ⟨rfl,hb⟩;have HX3:=Ak (HX2.out.below hb);have HBB:=Ak (blk_below HR.out hb);have hc2:=blk_cell HBB.out 0;have hf2:=blk_frozen HBB.out;clear hb));refine bodyPost_ret (results_cell_row rfl _ _ gr 29 #[.slice none 0 0] (0,0) _ rfl (blk_put (cs:= #[.slice none 0 0]) HBB.out 0 _ rfl) Tryz.underlying29 rfl (by kernel_rfl)) rfl ?_;exact⟨_,rfl,Kd.S_nil _ _ _ _ _,below_set HX3.out.low HGR.out⟩
 |true=>
  have H:=HA.out;rw[if_pos rfl]at H;have HA2:=Ak H;clear H HA;go_wp2_with (first
   |(go_at_call 15;(with_reducible refine(impl_TreeOk.calls k A0_0 c0_0 l0_0 true w2 (Kd.C_below HC.out HX2.out.low) HCC.out HA1.out).mono ?_);rintro e w3 ⟨rfl,hb⟩;have HX3:=Ak (HX2.out.below hb);have HR3:=Ak (blk_below HR.out hb);have HIS:=Ak (show IsS29 w w3 gt l0_0 from⟨A0_0,c0_0,HX3.out.blk,HX3.out.ge,HC.out⟩);clear hb)
   |(go_at_call 26;(with_reducible refine(impl_Tree_tidy.calls k gt l0_0 r w w3 HIS.out HX3.out.low HA2.out).mono ?_);rintro e w4 ⟨v,rfl,hS,_,hl,hk⟩;obtain⟨Aq,cq,rfl⟩:=Kd.S_slice hS;have HS:=Ak hS;have HL:=Ak hl;have HBB:=Ak (hk.blk HR3.out HNE.out (by simp));have hc2:=blk_cell HBB.out 0;have hf2:=blk_frozen HBB.out;clear hS hl hk))
  refine bodyPost_ret (results_cell_row rfl _ _ gr 29 #[.slice Aq r.length cq] (0,0) _ rfl (blk_put (cs:= #[.slice none 0 0]) HBB.out 0 _ rfl) Tryz.underlying29 rfl (by kernel_rfl)) rfl ?_;refine⟨_,rfl, ?_,below_set HL.out HGR.out⟩;have h3:=blk_lt HR3.out;exact Kd.S_lower (Kd.S_mono (Kd.S_far (p:=⟨gr,0,none⟩) (Kd.S_mono (Kd.S_bound HS.out) (ok':=fun k_=>k_≠gr) (fun k_ hk=>by have:=hk.2.1;omega)) (fun _ hk=>hk) _) (fun _ _=>trivial)) HX3.out.low.size
theorem eqA72(d:Nat)(w:World)(x0 y0:ByteArray)(x1 y1:ByteArray):
 (Op.equalIn (d+2) 72 (.agg #[.string x0, .string x1]) (.agg #[.string y0, .string y1])).run Tryz.prog w= .ok (x0.toList==y0.toList && (x1.toList==y1.toList)) w:=by
 refine eqA_of Tryz.underlying72 (by kernel_rfl) ?_;refine eqf_cons (by rfl) (by go_simp;rfl) (by go_simp;rfl) (by go_simp) ?_;exact eqf_last (by rfl) (by go_simp;rfl) (by go_simp;rfl) (by go_simp)
end Go.Proofs.YtlnmmcipioagaaaGreatDoor.X
namespace Go.Proofs.YtlnmmcipioagaaaGreatDoor.X
open Go.RowKit Go.Proofs.YtlnmmcipioagaaaGreatDoorW.PrintWords Go.Proofs.YtlnmmcipioagaaaGreatDoorW.PrintLast Go.Proofs.YtlnmmcipioagaaaGreatDoorW.PrintMore
attribute [local go_sem] max2_int min2_int max_two min_two max_three min_three max_four min_four
set_option linter.unusedVariables false
set_option linter.unusedSimpArgs false
attribute [local go_sem high] eqA72
def impl_Attr_84.l0:Nat→List (S72)→List (S72)→Int→Int→Option (Bool)
 |0,_,_,_,_=>none
 |k+1,x0,x1,x12,x13=>if x13<x12 then(if 0≤x13 then(if x13<(x0.length:Int)then(if x13<(x1.length:Int)then(if(!((((rd_T72 x0 x13).f0).toList)==(((rd_T72 x1 x13).f0).toList))||(!((((rd_T72 x0 x13).f1).toList)==(((rd_T72 x1 x13).f1).toList))))=true then(some false)else(impl_Attr_84.l0 k x0 x1 x12 (wrap64 (x13+1))))else(none))else(none))else(none))else(some true)
def impl_Attr_84.f(k:Nat)(l0:List (S72))(l1:List (S72)):Option (Bool):=if(l0.length:Int)=(l1.length:Int)then(impl_Attr_84.l0 k l0 l1 (l0.length:Int) 0)else(some false)
theorem impl_Attr_84.mono_l: ∀k,(∀y0 y1 y2 y3,LeO (impl_Attr_84.l0 k y0 y1 y2 y3) (impl_Attr_84.l0 (k+1) y0 y1 y2 y3))
 |0=>fun _ _ _ _ r h=>by simp [impl_Attr_84.l0]at h
 |k+1=>by
  have ih0:=impl_Attr_84.mono_l k
  ·intro y0 y1 y2 y3;unfold impl_Attr_84.l0;repeat' first
   |(with_reducible exact ih0 _ _ _ _)
   |(with_reducible exact LeO.refl _)
   |(with_reducible exact LeO.none _)
   |(with_reducible refine LeO.ite ?_ ?_)
   |(with_reducible refine LeO.bind ?_ (fun _=> ?_))
   |exact ih0 _ _ _ _
   |exact LeO.none _
   |refine LeO.ite ?_ ?_
   |refine LeO.bind ?_ (fun _=> ?_)
theorem impl_Attr_84.mono: ∀a0 a1 k,LeO (impl_Attr_84.f k a0 a1) (impl_Attr_84.f (k+1) a0 a1):=by
 intro a0 a1 k;have ih0:=impl_Attr_84.mono_l k;unfold impl_Attr_84.f;repeat' first
  |(with_reducible exact ih0 _ _ _ _)
  |(with_reducible exact LeO.refl _)
  |(with_reducible exact LeO.none _)
  |(with_reducible refine LeO.ite ?_ ?_)
  |(with_reducible refine LeO.bind ?_ (fun _=> ?_))
  |exact ih0 _ _ _ _
  |exact LeO.none _
  |refine LeO.ite ?_ ?_
  |refine LeO.bind ?_ (fun _=> ?_)
theorem impl_Attr_84.calls(k:Nat)(A0:Option Addr)(c0:Nat)(l0:List (S72))(A1:Option Addr)(c1:Nat)(l1:List (S72))(r:Bool)(w:World)(hr0:Kd.C k72 w A0 l0.length l0)(hc0:l0.length≤c0)(hr1:Kd.C k72 w A1 l1.length l1)(hc1:l1.length≤c1)(h:impl_Attr_84.f k l0 l1=some r):
 Calls Tryz.prog 84 #[.slice A0 l0.length c0, .slice A1 l1.length c1] w fun e w'=>e= .returned (.bool r)∧Drawn0 w w':=by
 have hu72:=Tryz.underlying72;have HR0:=Ak hr0;have HC0:=Ak hc0;clear hr0 hc0;have HR1:=Ak hr1;have HC1:=Ak hc1;clear hr1 hc1;have H:(if(l0.length:Int)=(l1.length:Int)then(impl_Attr_84.l0 k l0 l1 (l0.length:Int) 0)else(some false))=some r:=h;clear h;by_cases c3:(l0.length:Int)=(l1.length:Int)
 ·rw[if_pos c3]at H;have c3b0:((l0.length:Int)==(l1.length:Int))=true:=beq_iff_eq.mpr c3;have c3b1:((l0.length:Int) !=(l1.length:Int))=false:=bne_eq_false_iff_eq.mpr c3;have c3b2:(l0.length==l1.length)=true:=by first|simpa using c3|(simp at c3⊢;omega)
  clear c3;have H':=Ak H;clear H;go_enter Tryz.func84,Tryz.ntmps84;go_wp2;repeat(go_quiet (fail);try go_wp2)
  go_loopg [13] k (fun kq v13 w'=> ∃(x13_1:Int),v13= .int .i64 x13_1∧Aside0 (impl_Attr_84.l0 kq l0 l1 (l0.length:Int) x13_1=some r)∧Aside0 (kq≤k)∧Drawn0 w w');case atStart=>exact⟨(0),(by first|rfl|(simp;done)|(simp [*];done)),H',⟨Nat.le_refl _⟩,by repeat(first|exact Drawn0.refl _|apply Drawn0.step)⟩
  case round=>
   clear H';try clear c1
   try clear p2
   try clear c3
   try clear c3b0
   try clear c3b1
   try clear c3b2
   obtain⟨x13_1,rfl,HA,HK1,⟨m1,rfl⟩⟩:=hrel;cases gk with
   |zero=>exact absurd HA.out (by simp [impl_Attr_84.l0])
   |succ k1=>
    have H:=HA.out;clear HA;simp only[impl_Attr_84.l0]at H;by_cases c4:x13_1<(l0.length:Int)
    ·rw[if_pos c4]at H;have c4b0:decide (x13_1<(l0.length:Int))=true:=decide_eq_true c4;clear c4;by_cases c5:0≤x13_1
     ·rw[if_pos c5]at H;have c5b0:decide (0≤x13_1)=true:=decide_eq_true c5;clear c5;by_cases c6:x13_1<(l0.length:Int)
      ·rw[if_pos c6]at H;have c6b0:decide (x13_1<(l0.length:Int))=true:=decide_eq_true c6;clear c6;by_cases c7:x13_1<(l1.length:Int)
       ·rw[if_pos c7]at H;have c7b0:decide (x13_1<(l1.length:Int))=true:=decide_eq_true c7;clear c7;by_cases c8:(!((((rd_T72 l0 x13_1).f0).toList)==(((rd_T72 l1 x13_1).f0).toList))||(!((((rd_T72 l0 x13_1).f1).toList)==(((rd_T72 l1 x13_1).f1).toList))))=true
        ·rw[if_pos c8]at H;have c8b0:(!((((rd_T72 l0 x13_1).f0).toList)==(((rd_T72 l1 x13_1).f0).toList))||(!((((rd_T72 l0 x13_1).f1).toList)==(((rd_T72 l1 x13_1).f1).toList))))=true:=c8;clear c8;obtain rfl:=Oi H;have p101:0≤(x13_1:Int):=of_decide_eq_true (by assumption);have q101:x13_1<(l0.length:Int):=of_decide_eq_true (by assumption);obtain⟨ad101,e101,hx101_0,hx101_1⟩:=at_T72 HR0.out x13_1 p101 q101;cases e101;replace p101:=eq_true p101;replace q101:=eq_true q101;have p102:0≤(x13_1:Int):=of_decide_eq_true (by assumption);have q102:x13_1<(l1.length:Int):=of_decide_eq_true (by assumption);obtain⟨ad102,e102,hx102_0,hx102_1⟩:=at_T72 HR1.out x13_1 p102 q102;cases e102;replace p102:=eq_true p102;replace q102:=eq_true q102;go_wp2;repeat(go_quiet (fail);try go_wp2)
         go_ret;exact⟨by first|rfl|(simp;done)|(simp [*];done),by repeat(first|exact Drawn0.refl _|apply Drawn0.step)⟩
        ·rw[if_neg c8]at H;have c8b0:(!((((rd_T72 l0 x13_1).f0).toList)==(((rd_T72 l1 x13_1).f0).toList))||(!((((rd_T72 l0 x13_1).f1).toList)==(((rd_T72 l1 x13_1).f1).toList))))=false:=by simpa using c8
         clear c8;have H':=Ak H;clear H;have p101:0≤(x13_1:Int):=of_decide_eq_true (by assumption);have q101:x13_1<(l0.length:Int):=of_decide_eq_true (by assumption);obtain⟨ad101,e101,hx101_0,hx101_1⟩:=at_T72 HR0.out x13_1 p101 q101;cases e101;replace p101:=eq_true p101;replace q101:=eq_true q101;have p102:0≤(x13_1:Int):=of_decide_eq_true (by assumption);have q102:x13_1<(l1.length:Int):=of_decide_eq_true (by assumption);obtain⟨ad102,e102,hx102_0,hx102_1⟩:=at_T72 HR1.out x13_1 p102 q102;cases e102;replace p102:=eq_true p102;replace q102:=eq_true q102;go_wp2;repeat(go_quiet (fail);try go_wp2)
         go_roundg k1;case measure=>have:=HK1.out;omega
         case rel=>exact⟨(wrap64 (x13_1+1)),(by first|rfl|(simp;done)|(simp [*];done)),H',⟨by have:=HK1.out;omega⟩,by repeat(first|exact Drawn0.refl _|apply Drawn0.step)⟩
       ·rw[if_neg c7]at H;exact absurd H (by simp)
      ·rw[if_neg c6]at H;exact absurd H (by simp)
     ·rw[if_neg c5]at H;exact absurd H (by simp)
    ·rw[if_neg c4]at H;have c4b0:decide (x13_1<(l0.length:Int))=false:=decide_eq_false c4;clear c4;obtain rfl:=Oi H;go_wp2;repeat(go_quiet (fail);try go_wp2)
     go_ret;exact⟨by first|rfl|(simp;done)|(simp [*];done),by repeat(first|exact Drawn0.refl _|apply Drawn0.step)⟩
 ·rw[if_neg c3]at H;have c3b0:((l0.length:Int)==(l1.length:Int))=false:=beq_eq_false_iff_ne.mpr c3;have c3b1:((l0.length:Int) !=(l1.length:Int))=true:=bne_iff_ne.mpr c3;have c3b2:(l0.length==l1.length)=false:=by first|simpa using c3|(simp at c3⊢;omega)
  obtain rfl:=Oi H;go_enter Tryz.func84,Tryz.ntmps84;go_wp2;repeat(go_quiet (fail);try go_wp2)
  go_ret;exact⟨by first|rfl|(simp;done)|(simp [*];done),by repeat(first|exact Drawn0.refl _|apply Drawn0.step)⟩
def slices_Equal_int_int.l0:Nat→List Int→List Int→Int→Int→Option (Bool)
 |0,_,_,_,_=>none
 |k+1,x0,x1,x12,x13=>if x13<x12 then(if 0≤x13 then(if x13<(x0.length:Int)then(if x13<(x1.length:Int)then(if(rd x0 x13)=(rd x1 x13)then(slices_Equal_int_int.l0 k x0 x1 x12 (wrap64 (x13+1)))else(some false))else(none))else(none))else(none))else(some true)
def slices_Equal_int_int.f(k:Nat)(l0:List Int)(l1:List Int):Option (Bool):=if(l0.length:Int)=(l1.length:Int)then(slices_Equal_int_int.l0 k l0 l1 (l0.length:Int) 0)else(some false)
theorem slices_Equal_int_int.mono_l: ∀k,(∀y0 y1 y2 y3,LeO (slices_Equal_int_int.l0 k y0 y1 y2 y3) (slices_Equal_int_int.l0 (k+1) y0 y1 y2 y3))
 |0=>fun _ _ _ _ r h=>by simp [slices_Equal_int_int.l0]at h
 |k+1=>by
  have ih0:=slices_Equal_int_int.mono_l k
  ·intro y0 y1 y2 y3;unfold slices_Equal_int_int.l0;repeat' (with_reducible first|exact ih0 _ _ _ _|exact LeO.refl _|exact LeO.none _|refine LeO.ite ?_ ?_|refine LeO.bind ?_ (fun _=> ?_))
theorem slices_Equal_int_int.mono: ∀a0 a1 k,LeO (slices_Equal_int_int.f k a0 a1) (slices_Equal_int_int.f (k+1) a0 a1):=by
 intro a0 a1 k;have ih0:=slices_Equal_int_int.mono_l k;unfold slices_Equal_int_int.f;repeat' (with_reducible first|exact ih0 _ _ _ _|exact LeO.refl _|exact LeO.none _|refine LeO.ite ?_ ?_|refine LeO.bind ?_ (fun _=> ?_))
theorem slices_Equal_int_int.calls(k:Nat)(A0:Option Addr)(c0:Nat)(l0:List Int)(A1:Option Addr)(c1:Nat)(l1:List Int)(r:Bool)(w:World)(hr0:Kd.C (Kd.int .i64) w A0 l0.length l0)(hc0:l0.length≤c0)(hr1:Kd.C (Kd.int .i64) w A1 l1.length l1)(hc1:l1.length≤c1)(h:slices_Equal_int_int.f k l0 l1=some r):
 Calls Tryz.prog 85 #[.slice A0 l0.length c0, .slice A1 l1.length c1] w fun e w'=>e= .returned (.bool r)∧Drawn0 w w':=by
 have HR0:=Ak hr0;have HC0:=Ak hc0;clear hr0 hc0;have HR1:=Ak hr1;have HC1:=Ak hc1;clear hr1 hc1;have H:(if(l0.length:Int)=(l1.length:Int)then(slices_Equal_int_int.l0 k l0 l1 (l0.length:Int) 0)else(some false))=some r:=h;clear h;by_cases c3:(l0.length:Int)=(l1.length:Int)
 ·rw[if_pos c3]at H;have c3b0:=beq_iff_eq.mpr c3;have c3b1:=bne_eq_false_iff_eq.mpr c3;have c3b2:(l0.length==l1.length)=true:=by first|simpa using c3|(simp at c3⊢;omega)
  clear c3;have H':=Ak H;clear H;go_enter Tryz.func85,Tryz.ntmps85;go_wp2;repeat(go_quiet (fail);try go_wp2)
  go_loopg [13] k (fun kq v13 w'=> ∃(x13_1:Int),v13= .int .i64 x13_1∧Aside0 (slices_Equal_int_int.l0 kq l0 l1 (l0.length:Int) x13_1=some r)∧Aside0 (kq≤k)∧Drawn0 w w');case atStart=>exact⟨(0),rfl,H',⟨Nat.le_refl _⟩,by repeat(first|exact Drawn0.refl _|apply Drawn0.step)⟩
  case round=>
   clear H';obtain⟨x13_1,rfl,HA,HK1,⟨m1,rfl⟩⟩:=hrel;cases gk with
   |zero=>exact absurd HA.out (by simp [slices_Equal_int_int.l0])
   |succ k1=>
    have H:=HA.out;clear HA;simp only[slices_Equal_int_int.l0]at H;by_cases c4:x13_1<(l0.length:Int)
    ·rw[if_pos c4]at H;have c4b0:=decide_eq_true c4;clear c4;by_cases c5:0≤x13_1
     ·rw[if_pos c5]at H;have c5b0:=decide_eq_true c5;clear c5;by_cases c6:x13_1<(l0.length:Int)
      ·rw[if_pos c6]at H;have c6b0:=decide_eq_true c6;clear c6;by_cases c7:x13_1<(l1.length:Int)
       ·rw[if_pos c7]at H;have c7b0:=decide_eq_true c7;clear c7;by_cases c8:(rd l0 x13_1)=(rd l1 x13_1)
        ·rw[if_pos c8]at H;have c8b0:=beq_iff_eq.mpr c8;have c8b1:=bne_eq_false_iff_eq.mpr c8;clear c8;have H':=Ak H;clear H;have p101:0≤(x13_1:Int):=of_decide_eq_true (by assumption);have q101:x13_1<(l0.length:Int):=of_decide_eq_true (by assumption);obtain⟨ad101,e101,hx101_0⟩:=Kd.at_int HR0.out x13_1 p101 q101;cases e101;replace p101:=eq_true p101;replace q101:=eq_true q101;have p102:0≤(x13_1:Int):=of_decide_eq_true (by assumption);have q102:x13_1<(l1.length:Int):=of_decide_eq_true (by assumption);obtain⟨ad102,e102,hx102_0⟩:=Kd.at_int HR1.out x13_1 p102 q102;cases e102;replace p102:=eq_true p102;replace q102:=eq_true q102;go_wp2;repeat(go_quiet (fail);try go_wp2)
         go_roundg k1;case measure=>have:=HK1.out;omega
         case rel=>exact⟨(wrap64 (x13_1+1)),rfl,H',⟨by have:=HK1.out;omega⟩,by repeat(first|exact Drawn0.refl _|apply Drawn0.step)⟩
        ·rw[if_neg c8]at H;have c8b0:=beq_eq_false_iff_ne.mpr c8;have c8b1:=bne_iff_ne.mpr c8;obtain rfl:=Oi H;have p101:0≤(x13_1:Int):=of_decide_eq_true (by assumption);have q101:x13_1<(l0.length:Int):=of_decide_eq_true (by assumption);obtain⟨ad101,e101,hx101_0⟩:=Kd.at_int HR0.out x13_1 p101 q101;cases e101;replace p101:=eq_true p101;replace q101:=eq_true q101;have p102:0≤(x13_1:Int):=of_decide_eq_true (by assumption);have q102:x13_1<(l1.length:Int):=of_decide_eq_true (by assumption);obtain⟨ad102,e102,hx102_0⟩:=Kd.at_int HR1.out x13_1 p102 q102;cases e102;replace p102:=eq_true p102;replace q102:=eq_true q102;go_wp2;repeat(go_quiet (fail);try go_wp2)
         go_ret;exact⟨rfl,by repeat(first|exact Drawn0.refl _|apply Drawn0.step)⟩
       ·rw[if_neg c7]at H;exact absurd H (by simp)
      ·rw[if_neg c6]at H;exact absurd H (by simp)
     ·rw[if_neg c5]at H;exact absurd H (by simp)
    ·rw[if_neg c4]at H;have c4b0:=decide_eq_false c4;clear c4;obtain rfl:=Oi H;go_wp2;repeat(go_quiet (fail);try go_wp2)
     go_ret;exact⟨rfl,by repeat(first|exact Drawn0.refl _|apply Drawn0.step)⟩
 ·rw[if_neg c3]at H;have c3b0:=beq_eq_false_iff_ne.mpr c3;have c3b1:=bne_iff_ne.mpr c3;have c3b2:(l0.length==l1.length)=false:=by first|simpa using c3|(simp at c3⊢;omega)
  obtain rfl:=Oi H;go_enter Tryz.func85,Tryz.ntmps85;go_wp2;repeat(go_quiet (fail);try go_wp2)
  go_ret;exact⟨rfl,by repeat(first|exact Drawn0.refl _|apply Drawn0.step)⟩
def impl_sameNode.j0:Nat→Bool→Int→ByteArray→List (S72)→ByteArray→Int→List Int→Int→ByteArray→List (S72)→ByteArray→Int→List Int→Option (Bool)
 |0,_,_,_,_,_,_,_,_,_,_,_,_,_=>none
 |k+1,x30,x102000,x102001,x102002,x102003,x102004,x102005,x103000,x103001,x103002,x103003,x103004,x103005=>if x30=true then(some false)else((impl_Attr_84.f k x102002 x103002).bind fun t103=>(if t103=true then((slices_Equal_int_int.f k x102005 x103005).bind fun t104=>(some t104))else(some false)))
def impl_sameNode.f(k:Nat)(a0_0:Int)(a0_1:ByteArray)(l0_2:List (S72))(a0_3:ByteArray)(a0_4:Int)(l0_5:List Int)(a1_0:Int)(a1_1:ByteArray)(l1_2:List (S72))(a1_3:ByteArray)(a1_4:Int)(l1_5:List Int):Option (Bool):=if a0_0=a1_0 then(if a0_1.toList=a1_1.toList then(if a0_3.toList=a1_3.toList then(impl_sameNode.j0 k (a0_4 !=a1_4) a0_0 a0_1 l0_2 a0_3 a0_4 l0_5 a1_0 a1_1 l1_2 a1_3 a1_4 l1_5)else(impl_sameNode.j0 k true a0_0 a0_1 l0_2 a0_3 a0_4 l0_5 a1_0 a1_1 l1_2 a1_3 a1_4 l1_5))else(impl_sameNode.j0 k true a0_0 a0_1 l0_2 a0_3 a0_4 l0_5 a1_0 a1_1 l1_2 a1_3 a1_4 l1_5))else(impl_sameNode.j0 k true a0_0 a0_1 l0_2 a0_3 a0_4 l0_5 a1_0 a1_1 l1_2 a1_3 a1_4 l1_5)
theorem impl_sameNode.mono_l: ∀k,(∀y0 y1 y2 y3 y4 y5 y6 y7 y8 y9 y10 y11 y12,LeO (impl_sameNode.j0 k y0 y1 y2 y3 y4 y5 y6 y7 y8 y9 y10 y11 y12) (impl_sameNode.j0 (k+1) y0 y1 y2 y3 y4 y5 y6 y7 y8 y9 y10 y11 y12))
 |0=>fun _ _ _ _ _ _ _ _ _ _ _ _ _ r h=>by simp [impl_sameNode.j0]at h
 |k+1=>by
  have ih0:=impl_sameNode.mono_l k
  ·intro y0 y1 y2 y3 y4 y5 y6 y7 y8 y9 y10 y11 y12;unfold impl_sameNode.j0;repeat' (with_reducible first|exact ih0 _ _ _ _ _ _ _ _ _ _ _ _ _|exact impl_Attr_84.mono _ _ _|exact slices_Equal_int_int.mono _ _ _|exact LeO.refl _|exact LeO.none _|refine LeO.ite ?_ ?_|refine LeO.bind ?_ (fun _=> ?_))
theorem impl_sameNode.mono: ∀a0 a1 a2 a3 a4 a5 a6 a7 a8 a9 a10 a11 k,LeO (impl_sameNode.f k a0 a1 a2 a3 a4 a5 a6 a7 a8 a9 a10 a11) (impl_sameNode.f (k+1) a0 a1 a2 a3 a4 a5 a6 a7 a8 a9 a10 a11):=by
 intro a0 a1 a2 a3 a4 a5 a6 a7 a8 a9 a10 a11 k;have ih0:=impl_sameNode.mono_l k;unfold impl_sameNode.f;repeat' (with_reducible first|exact ih0 _ _ _ _ _ _ _ _ _ _ _ _ _|exact impl_Attr_84.mono _ _ _|exact slices_Equal_int_int.mono _ _ _|exact LeO.refl _|exact LeO.none _|refine LeO.ite ?_ ?_|refine LeO.bind ?_ (fun _=> ?_))
theorem impl_sameNode.calls(k:Nat)(a0_0:Int)(a0_1:ByteArray)(A0_2:Option Addr)(c0_2:Nat)(l0_2:List (S72))(a0_3:ByteArray)(a0_4:Int)(A0_5:Option Addr)(c0_5:Nat)(l0_5:List Int)(a1_0:Int)(a1_1:ByteArray)(A1_2:Option Addr)(c1_2:Nat)(l1_2:List (S72))(a1_3:ByteArray)(a1_4:Int)(A1_5:Option Addr)(c1_5:Nat)(l1_5:List Int)(r:Bool)(w:World)(hr0_2:Kd.C k72 w A0_2 l0_2.length l0_2)(hc0_2:l0_2.length≤c0_2)(hr0_5:Kd.C (Kd.int .i64) w A0_5 l0_5.length l0_5)(hc0_5:l0_5.length≤c0_5)(hr1_2:Kd.C k72 w A1_2 l1_2.length l1_2)(hc1_2:l1_2.length≤c1_2)(hr1_5:Kd.C (Kd.int .i64) w A1_5 l1_5.length l1_5)(hc1_5:l1_5.length≤c1_5)(h:impl_sameNode.f k a0_0 a0_1 l0_2 a0_3 a0_4 l0_5 a1_0 a1_1 l1_2 a1_3 a1_4 l1_5=some r):
 Calls Tryz.prog 52 #[.agg #[.int .i64 a0_0, .string a0_1, .slice A0_2 l0_2.length c0_2, .string a0_3, .int .i64 a0_4, .slice A0_5 l0_5.length c0_5], .agg #[.int .i64 a1_0, .string a1_1, .slice A1_2 l1_2.length c1_2, .string a1_3, .int .i64 a1_4, .slice A1_5 l1_5.length c1_5]] w fun e w'=>e= .returned (.bool r)∧Below w.heap.size w w':=by
 have hu41:=Tryz.underlying41;have HR0_2:=Ak hr0_2;have HC0_2:=Ak hc0_2;clear hr0_2 hc0_2;have HR0_5:=Ak hr0_5;have HC0_5:=Ak hc0_5;clear hr0_5 hc0_5;have HR1_2:=Ak hr1_2;have HC1_2:=Ak hc1_2;clear hr1_2 hc1_2;have HR1_5:=Ak hr1_5;have HC1_5:=Ak hc1_5;clear hr1_5 hc1_5;have HB:=Ak (Below.refl w.heap.size w);have H:(if a0_0=a1_0 then(if a0_1.toList=a1_1.toList then(if a0_3.toList=a1_3.toList then(impl_sameNode.j0 k (a0_4 !=a1_4) a0_0 a0_1 l0_2 a0_3 a0_4 l0_5 a1_0 a1_1 l1_2 a1_3 a1_4 l1_5)else(impl_sameNode.j0 k true a0_0 a0_1 l0_2 a0_3 a0_4 l0_5 a1_0 a1_1 l1_2 a1_3 a1_4 l1_5))else(impl_sameNode.j0 k true a0_0 a0_1 l0_2 a0_3 a0_4 l0_5 a1_0 a1_1 l1_2 a1_3 a1_4 l1_5))else(impl_sameNode.j0 k true a0_0 a0_1 l0_2 a0_3 a0_4 l0_5 a1_0 a1_1 l1_2 a1_3 a1_4 l1_5))=some r:=h;clear h;have HC3:=Ak H;clear H;go_enter Tryz.func52,Tryz.ntmps52;go_upto_region 1 with(first|((with_reducible refine gate_dst (N:=2) rfl ?_);refine box_event ?hg (N:=2) ?hd (cs:= #[.int .i64 a0_0, .string a0_1, .slice A0_2 l0_2.length c0_2, .string a0_3, .int .i64 a0_4, .slice A0_5 l0_5.length c0_5]) (t:=41) ?hr ?_;(case hd=>rfl);(case hg=>rfl);(case hr=>go_simp);intro gb101 hg w4 hbox hb;have n0_:=Ak (below_step (HB.out) hb);have n1_:=Ak (hbox);have n2_:=Ak ((by rw[hg];exact(below_size (HB.out)):w.heap.size≤gb101));have n3_:=n2_;clear HB;have HB:=n0_;have BK101:=n1_;have GW101:=n2_;have GE101:=n3_;clear n0_ n1_ n2_ n3_;clear hb hbox hg)|((with_reducible refine gate_dst (N:=3) rfl ?_);refine box_event ?hg (N:=3) ?hd (cs:= #[.int .i64 a1_0, .string a1_1, .slice A1_2 l1_2.length c1_2, .string a1_3, .int .i64 a1_4, .slice A1_5 l1_5.length c1_5]) (t:=41) ?hr ?_;(case hd=>rfl);(case hg=>rfl);(case hr=>go_simp);intro gb102 hg w5 hbox hb;have n0_:=Ak (blk_below BK101.out hb);have n1_:=Ak (below_step (by repeat(first|exact HB.out|apply below_alloc|apply pw_below_drewN|apply below_drew1|refine below_set ?_ GE101.out)) hb);have n2_:=Ak (hbox);have n3_:=Ak ((by rw[hg];exact(below_size (by repeat(first|exact HB.out|apply below_alloc|apply pw_below_drewN|apply below_drew1|refine below_set ?_ GE101.out))):w.heap.size≤gb102));have n4_:=n3_;have n5_:=Ak ((by rw[hg];exact Nat.ne_of_lt (blk_lt BK101.out):gb101≠gb102));have n6_:=Ak (Ne.symm n5_.out);clear BK101;clear HB;have BK101:=n0_;have HB:=n1_;have BK102:=n2_;have GW102:=n3_;have GE102:=n4_;have NB101_102:=n5_;have NB102_101:=n6_;clear n0_ n1_ n2_ n3_ n4_ n5_ n6_;clear hb hbox hg));(try simp only[Act.put,List.setIfInBounds_toArray,List.set_cons_zero,List.set_cons_succ]);go_cut [30] (fun v30 wc=> ∃(kq:Nat) (x30_2:Bool),v30= .bool x30_2∧Aside0 (impl_sameNode.j0 kq x30_2 a0_0 a0_1 l0_2 a0_3 a0_4 l0_5 a1_0 a1_1 l1_2 a1_3 a1_4 l1_5=some r)∧Aside0 (kq≤k)∧Aside0 (wc.heap[gb101]? =some (.cells #[.int .i64 a0_0, .string a0_1,(.slice A0_2 l0_2.length c0_2), .string a0_3, .int .i64 a0_4,(.slice A0_5 l0_5.length c0_5)] 41 (0,0)))∧Aside0 (wc.heap[gb102]? =some (.cells #[.int .i64 a1_0, .string a1_1,(.slice A1_2 l1_2.length c1_2), .string a1_3, .int .i64 a1_4,(.slice A1_5 l1_5.length c1_5)] 41 (0,0)))∧Aside0 (Below w.heap.size w wc))
 case first=>
  have H:=HC3.out;clear HC3;by_cases c6:a0_0=a1_0
  ·rw[if_pos c6]at H;have c6b0:=beq_iff_eq.mpr c6;have c6b1:=bne_eq_false_iff_eq.mpr c6;clear c6;(first|rw[c6b0]|(simp only[i64_w,i32_w];rw[c6b0])|skip);by_cases c7:a0_1.toList=a1_1.toList
   ·rw[if_pos c7]at H;have c7b0:=beq_iff_eq.mpr c7;have c7b1:=bne_eq_false_iff_eq.mpr c7;clear c7;by_cases c8:a0_3.toList=a1_3.toList
    ·rw[if_pos c8]at H;have c8b0:=beq_iff_eq.mpr c8;have c8b1:=bne_eq_false_iff_eq.mpr c8;clear c8;have H':=Ak H;clear H;have hnb9:=NB101_102.out;have hnc9:=NB102_101.out;have hcz10_0:=blk_cell BK101.out 0;have hcz10_1:=blk_cell BK101.out 1;have hcz10_2:=blk_cell BK101.out 2;have hcz10_3:=blk_cell BK101.out 3;have hcz10_4:=blk_cell BK101.out 4;have hcz10_5:=blk_cell BK101.out 5;have hfz10_0:=blk_frozen BK101.out;have hcz11_0:=blk_cell BK102.out 0;have hcz11_1:=blk_cell BK102.out 1;have hcz11_2:=blk_cell BK102.out 2;have hcz11_3:=blk_cell BK102.out 3;have hcz11_4:=blk_cell BK102.out 4;have hcz11_5:=blk_cell BK102.out 5;have hfz11_0:=blk_frozen BK102.out;go_wp2;go_meet;case rel=>exact⟨_,((a0_4 !=a1_4)),rfl,H',⟨by first|omega|exact Nat.le_refl _⟩,⟨by(with_reducible repeat(first|refine blk_drewN ?_ _|refine blk_drew ?_|refine blk_alloc ?_ _));exact BK101.out⟩,⟨by(with_reducible repeat(first|refine blk_drewN ?_ _|refine blk_drew ?_|refine blk_alloc ?_ _));exact BK102.out⟩,⟨by repeat(first|exact HB.out|apply below_alloc|apply pw_below_drewN|apply below_drew1|refine below_set ?_ GE101.out|refine below_set ?_ GE102.out)⟩⟩
    ·rw[if_neg c8]at H;have c8b0:=beq_eq_false_iff_ne.mpr c8;have c8b1:=bne_iff_ne.mpr c8;have H':=Ak H;clear H;have hnb12:=NB101_102.out;have hnc12:=NB102_101.out;have hcz13_0:=blk_cell BK101.out 0;have hcz13_1:=blk_cell BK101.out 1;have hcz13_2:=blk_cell BK101.out 2;have hcz13_3:=blk_cell BK101.out 3;have hcz13_4:=blk_cell BK101.out 4;have hcz13_5:=blk_cell BK101.out 5;have hfz13_0:=blk_frozen BK101.out;have hcz14_0:=blk_cell BK102.out 0;have hcz14_1:=blk_cell BK102.out 1;have hcz14_2:=blk_cell BK102.out 2;have hcz14_3:=blk_cell BK102.out 3;have hcz14_4:=blk_cell BK102.out 4;have hcz14_5:=blk_cell BK102.out 5;have hfz14_0:=blk_frozen BK102.out;go_wp2;go_meet;case rel=>exact⟨_,(true),rfl,H',⟨by first|omega|exact Nat.le_refl _⟩,⟨by(with_reducible repeat(first|refine blk_drewN ?_ _|refine blk_drew ?_|refine blk_alloc ?_ _));exact BK101.out⟩,⟨by(with_reducible repeat(first|refine blk_drewN ?_ _|refine blk_drew ?_|refine blk_alloc ?_ _));exact BK102.out⟩,⟨by repeat(first|exact HB.out|apply below_alloc|apply pw_below_drewN|apply below_drew1|refine below_set ?_ GE101.out|refine below_set ?_ GE102.out)⟩⟩
   ·rw[if_neg c7]at H;have c7b0:=beq_eq_false_iff_ne.mpr c7;have c7b1:=bne_iff_ne.mpr c7;have H':=Ak H;clear H;have hnb15:=NB101_102.out;have hnc15:=NB102_101.out;have hcz16_0:=blk_cell BK101.out 0;have hcz16_1:=blk_cell BK101.out 1;have hcz16_2:=blk_cell BK101.out 2;have hcz16_3:=blk_cell BK101.out 3;have hcz16_4:=blk_cell BK101.out 4;have hcz16_5:=blk_cell BK101.out 5;have hfz16_0:=blk_frozen BK101.out;have hcz17_0:=blk_cell BK102.out 0;have hcz17_1:=blk_cell BK102.out 1;have hcz17_2:=blk_cell BK102.out 2;have hcz17_3:=blk_cell BK102.out 3;have hcz17_4:=blk_cell BK102.out 4;have hcz17_5:=blk_cell BK102.out 5;have hfz17_0:=blk_frozen BK102.out;go_wp2;go_meet;case rel=>exact⟨_,(true),rfl,H',⟨by first|omega|exact Nat.le_refl _⟩,⟨by(with_reducible repeat(first|refine blk_drewN ?_ _|refine blk_drew ?_|refine blk_alloc ?_ _));exact BK101.out⟩,⟨by(with_reducible repeat(first|refine blk_drewN ?_ _|refine blk_drew ?_|refine blk_alloc ?_ _));exact BK102.out⟩,⟨by repeat(first|exact HB.out|apply below_alloc|apply pw_below_drewN|apply below_drew1|refine below_set ?_ GE101.out|refine below_set ?_ GE102.out)⟩⟩
  ·rw[if_neg c6]at H;have c6b0:=beq_eq_false_iff_ne.mpr c6;have c6b1:=bne_iff_ne.mpr c6;(first|rw[c6b0]|(simp only[i64_w,i32_w];rw[c6b0])|skip);have H':=Ak H;clear H;have hnb18:=NB101_102.out;have hnc18:=NB102_101.out;have hcz19_0:=blk_cell BK101.out 0;have hcz19_1:=blk_cell BK101.out 1;have hcz19_2:=blk_cell BK101.out 2;have hcz19_3:=blk_cell BK101.out 3;have hcz19_4:=blk_cell BK101.out 4;have hcz19_5:=blk_cell BK101.out 5;have hfz19_0:=blk_frozen BK101.out;have hcz20_0:=blk_cell BK102.out 0;have hcz20_1:=blk_cell BK102.out 1;have hcz20_2:=blk_cell BK102.out 2;have hcz20_3:=blk_cell BK102.out 3;have hcz20_4:=blk_cell BK102.out 4;have hcz20_5:=blk_cell BK102.out 5;have hfz20_0:=blk_frozen BK102.out;go_wp2;go_meet;case rel=>exact⟨_,(true),rfl,H',⟨by first|omega|exact Nat.le_refl _⟩,⟨by(with_reducible repeat(first|refine blk_drewN ?_ _|refine blk_drew ?_|refine blk_alloc ?_ _));exact BK101.out⟩,⟨by(with_reducible repeat(first|refine blk_drewN ?_ _|refine blk_drew ?_|refine blk_alloc ?_ _));exact BK102.out⟩,⟨by repeat(first|exact HB.out|apply below_alloc|apply pw_below_drewN|apply below_drew1|refine below_set ?_ GE101.out|refine below_set ?_ GE102.out)⟩⟩
 case rest=>
  clear HC3;obtain⟨kq,x30_2,rfl,HA,HJ2,BK101,BK102,HB⟩:=hcut;cases kq with
  |zero=>exact absurd HA.out (by simp [impl_sameNode.j0])
  |succ kj2=>
   have H:=HA.out;clear HA;simp only[impl_sameNode.j0]at H;by_cases c21:x30_2=true
   ·subst c21;rw[if_pos rfl]at H;obtain rfl:=Oi H;go_wp2;go_ret;exact⟨rfl,by repeat(first|exact HB.out|apply below_alloc|apply pw_below_drewN|apply below_drew1|refine below_set ?_ GE101.out|refine below_set ?_ GE102.out)⟩
   ·replace c21:=Bool.eq_false_iff.mpr c21;subst c21;rw[if_neg (show ¬(false=true)by decide)]at H;replace H:=Ob H;obtain⟨t103,A220,H⟩:=H;replace H:(if t103=true then((slices_Equal_int_int.f kj2 l0_5 l1_5).bind fun t104=>(some t104))else(some false))=some r:=H;have A22:=Ak A220;clear A220;by_cases c23:t103=true
    ·subst c23;rw[if_pos rfl]at H;replace H:=Ob H;obtain⟨t104,A240,H⟩:=H;replace H:(some t104)=some r:=H;have A24:=Ak A240;clear A240;obtain rfl:=Oi H;have hnb25:=NB101_102.out;have hnc25:=NB102_101.out;have hcz26_0:=blk_cell BK101.out 0;have hcz26_1:=blk_cell BK101.out 1;have hcz26_2:=blk_cell BK101.out 2;have hcz26_3:=blk_cell BK101.out 3;have hcz26_4:=blk_cell BK101.out 4;have hcz26_5:=blk_cell BK101.out 5;have hfz26_0:=blk_frozen BK101.out;have hcz27_0:=blk_cell BK102.out 0;have hcz27_1:=blk_cell BK102.out 1;have hcz27_2:=blk_cell BK102.out 2;have hcz27_3:=blk_cell BK102.out 3;have hcz27_4:=blk_cell BK102.out 4;have hcz27_5:=blk_cell BK102.out 5;have hfz27_0:=blk_frozen BK102.out;go_wp2_with (first|(go_at_call 84;(with_reducible refine(impl_Attr_84.calls kj2 _ _ l0_2 _ _ l1_2 true _ ?side1 ?side2 ?side3 ?side4 A22.out).mono ?_);(case side1=>exact(Kd.C_below HR0_2.out HB.out));(case side2=>exact HC0_2.out);(case side3=>exact(Kd.C_below HR1_2.out HB.out));(case side4=>exact HC1_2.out);rintro e w' ⟨rfl,⟨nd,rfl⟩⟩)|(go_at_call 85;(with_reducible refine(slices_Equal_int_int.calls kj2 _ _ l0_5 _ _ l1_5 t104 _ ?side1 ?side2 ?side3 ?side4 A24.out).mono ?_);(case side1=>repeat(first|exact(Kd.C_below HR0_5.out (by repeat(first|exact HB.out|apply below_alloc|apply pw_below_drewN|apply below_drew1|refine below_set ?_ GE101.out|refine below_set ?_ GE102.out)))|(with_reducible refine Kd.C_alloc ?_ _)|(with_reducible refine Kd.C_drewN ?_ _)|(with_reducible refine Kd.C_drew ?_)));(case side2=>exact HC0_5.out);(case side3=>repeat(first|exact(Kd.C_below HR1_5.out (by repeat(first|exact HB.out|apply below_alloc|apply pw_below_drewN|apply below_drew1|refine below_set ?_ GE101.out|refine below_set ?_ GE102.out)))|(with_reducible refine Kd.C_alloc ?_ _)|(with_reducible refine Kd.C_drewN ?_ _)|(with_reducible refine Kd.C_drew ?_)));(case side4=>exact HC1_5.out);rintro e w' ⟨rfl,⟨nd,rfl⟩⟩));go_ret;exact⟨rfl,by repeat(first|exact HB.out|apply below_alloc|apply pw_below_drewN|apply below_drew1|refine below_set ?_ GE101.out|refine below_set ?_ GE102.out)⟩
    ·replace c23:=Bool.eq_false_iff.mpr c23;subst c23;rw[if_neg (show ¬(false=true)by decide)]at H;obtain rfl:=Oi H;have hnb28:=NB101_102.out;have hnc28:=NB102_101.out;have hcz29_0:=blk_cell BK101.out 0;have hcz29_1:=blk_cell BK101.out 1;have hcz29_2:=blk_cell BK101.out 2;have hcz29_3:=blk_cell BK101.out 3;have hcz29_4:=blk_cell BK101.out 4;have hcz29_5:=blk_cell BK101.out 5;have hfz29_0:=blk_frozen BK101.out;have hcz30_0:=blk_cell BK102.out 0;have hcz30_1:=blk_cell BK102.out 1;have hcz30_2:=blk_cell BK102.out 2;have hcz30_3:=blk_cell BK102.out 3;have hcz30_4:=blk_cell BK102.out 4;have hcz30_5:=blk_cell BK102.out 5;have hfz30_0:=blk_frozen BK102.out;go_wp2_with (first|(go_at_call 84;(with_reducible refine(impl_Attr_84.calls kj2 _ _ l0_2 _ _ l1_2 false _ ?side1 ?side2 ?side3 ?side4 A22.out).mono ?_);(case side1=>exact(Kd.C_below HR0_2.out HB.out));(case side2=>exact HC0_2.out);(case side3=>exact(Kd.C_below HR1_2.out HB.out));(case side4=>exact HC1_2.out);rintro e w' ⟨rfl,⟨nd,rfl⟩⟩));go_ret;exact⟨rfl,by repeat(first|exact HB.out|apply below_alloc|apply pw_below_drewN|apply below_drew1|refine below_set ?_ GE101.out|refine below_set ?_ GE102.out)⟩
def slices_EqualFunc.l0:Nat→List S41→List S41→Int→Option Bool
 |0,_,_,_=>none
 |k+1,xs,ys,i=>if i<(xs.length:Int)then(if 0≤i then(if i<(ys.length:Int)then((impl_sameNode.f k (rd_T41 xs i).f0 (rd_T41 xs i).f1 (rd_T41 xs i).f2 (rd_T41 xs i).f3 (rd_T41 xs i).f4 (rd_T41 xs i).f5 (rd_T41 ys i).f0 (rd_T41 ys i).f1 (rd_T41 ys i).f2 (rd_T41 ys i).f3 (rd_T41 ys i).f4 (rd_T41 ys i).f5).bind fun b=>if b=true then slices_EqualFunc.l0 k xs ys (wrap64 (i+1))else some false)else none)else none)else some true
def slices_EqualFunc.f(k:Nat)(xs ys:List S41):Option Bool:=if(xs.length:Int)=(ys.length:Int)then slices_EqualFunc.l0 k xs ys 0 else some false
theorem slices_EqualFunc.mono0: ∀k a b i,LeO (slices_EqualFunc.l0 k a b i) (slices_EqualFunc.l0 (k+1) a b i)
 |0=>fun _ _ _ r h=>by simp [slices_EqualFunc.l0]at h
 |k+1=>fun a b i=>by
  rw[slices_EqualFunc.l0,slices_EqualFunc.l0];exact LeO.ite (LeO.ite (LeO.ite (LeO.bind (impl_sameNode.mono _ _ _ _ _ _ _ _ _ _ _ _ k) (fun _=>LeO.ite (slices_EqualFunc.mono0 k _ _ _) (LeO.refl _))) (LeO.refl _)) (LeO.refl _)) (LeO.refl _)
theorem slices_EqualFunc.mono: ∀a0 a1 k,LeO (slices_EqualFunc.f k a0 a1) (slices_EqualFunc.f (k+1) a0 a1):=fun a0 a1 k=>LeO.ite (slices_EqualFunc.mono0 k _ _ _) (LeO.refl _)
theorem slices_EqualFunc.calls(k:Nat)(A0:Option Addr)(c0:Nat)(xs:List S41)(A1:Option Addr)(c1:Nat)(ys:List S41)(r:Bool)(w:World)(hr0:Kd.C k41 w A0 xs.length xs)(hr1:Kd.C k41 w A1 ys.length ys)(h:slices_EqualFunc.f k xs ys=some r):
 Calls Tryz.prog 51 #[.slice A0 xs.length c0, .slice A1 ys.length c1, .func (.func 52) #[] #[]] w fun e w'=>e= .returned (.bool r)∧Below w.heap.size w w':=by
 unfold slices_EqualFunc.f at h;have HC:=Ak hr0;have HD:=Ak hr1;clear hr0 hr1;by_cases cl:(xs.length:Int)=(ys.length:Int)
 ·rw[if_pos cl]at h;have HA:=Ak h;clear h;have CL:=Ak cl;have clb:((xs.length:Int) !=(ys.length:Int))=false:=bne_eq_false_iff_eq.mpr cl;clear cl;go_enter Tryz.func51,Tryz.ntmps51;go_wp2;go_loopg [17] k (fun kq v17 w'=> ∃(i:Int),v17= .int .i64 i∧Aside0 (slices_EqualFunc.l0 kq xs ys i=some r)∧Aside0 (kq≤k)∧Aside0 (Below w.heap.size w w'));case atStart=>exact⟨0,rfl,HA,⟨Nat.le_refl _⟩,⟨Below.refl _ _⟩⟩
  case round=>
   clear HA;obtain⟨i,rfl,HA,HK,HB⟩:=hrel;cases gk with
   |zero=>exact absurd HA.out (by simp [slices_EqualFunc.l0])
   |succ k1=>
    have H:=HA.out;clear HA;simp only[slices_EqualFunc.l0]at H;by_cases g1:i<(xs.length:Int)
    ·rw[if_pos g1]at H;by_cases g2:0≤i
     ·rw[if_pos g2]at H;by_cases g3:i<(ys.length:Int)
      ·rw[if_pos g3]at H;obtain⟨b,hb,H⟩:=Ob H;have HA:=Ak H;have HS:=Ak hb;clear H hb;have g1b:decide (i<(xs.length:Int))=true:=decide_eq_true g1;obtain⟨ad,A_2,c_2,A_5,c_5,e1,hx0,hx1,hx2,hx3,hx4,hx5,hl2,hi2,hl5,hi5⟩:=at_T41 HC.out i g2 g1;obtain⟨bd,B_2,d_2,B_5,d_5,e2,hy0,hy1,hy2,hy3,hy4,hy5,hm2,hj2,hm5,hj5⟩:=at_T41 HD.out i g2 g3;subst e1;subst e2;have HI2:=Ak hi2;have HI5:=Ak hi5;have HJ2:=Ak hj2;have HJ5:=Ak hj5;have HL2:=Ak hl2;have HL5:=Ak hl5;have HM2:=Ak hm2;have HM5:=Ak hm5;clear hl2 hi2 hl5 hi5 hm2 hj2 hm5 hj5;have hx0:=pw_cell_below HB.out hx0;have hx1:=pw_cell_below HB.out hx1;have hx2:=pw_cell_below HB.out hx2;have hx3:=pw_cell_below HB.out hx3;have hx4:=pw_cell_below HB.out hx4;have hx5:=pw_cell_below HB.out hx5;replace g1:=eq_true g1;replace g2:=eq_true g2;replace g3:=eq_true g3;go_upto_region 6 with(fail)
       have hX:=blk_new wr (.cells #[.int .i64 (rd_T41 xs i).f0, .string (rd_T41 xs i).f1, .slice A_2 (rd_T41 xs i).f2.length c_2, .string (rd_T41 xs i).f3, .int .i64 (rd_T41 xs i).f4, .slice A_5 (rd_T41 xs i).f5.length c_5] 41);have hl:=below_alloc (Below.refl wr.heap.size wr) (.cells #[.int .i64 (rd_T41 xs i).f0, .string (rd_T41 xs i).f1, .slice A_2 (rd_T41 xs i).f2.length c_2, .string (rd_T41 xs i).f3, .int .i64 (rd_T41 xs i).f4, .slice A_5 (rd_T41 xs i).f5.length c_5] 41);generalize wr.alloc (.cells #[.int .i64 (rd_T41 xs i).f0, .string (rd_T41 xs i).f1, .slice A_2 (rd_T41 xs i).f2.length c_2, .string (rd_T41 xs i).f3, .int .i64 (rd_T41 xs i).f4, .slice A_5 (rd_T41 xs i).f5.length c_5] 41)=w1 at hX hl⊢;have HB1:=Ak (below_step HB.out hl);have HX:=Ak hX;clear hl hX hx0 hx1 hx2 hx3 hx4 hx5;generalize wr.heap.size=gx at HX⊢;have hy0:=pw_cell_below HB1.out hy0;have hy1:=pw_cell_below HB1.out hy1;have hy2:=pw_cell_below HB1.out hy2;have hy3:=pw_cell_below HB1.out hy3;have hy4:=pw_cell_below HB1.out hy4;have hy5:=pw_cell_below HB1.out hy5;go_upto_region 7 with(fail);have hY:=blk_new w1 (.cells #[.int .i64 (rd_T41 ys i).f0, .string (rd_T41 ys i).f1, .slice B_2 (rd_T41 ys i).f2.length d_2, .string (rd_T41 ys i).f3, .int .i64 (rd_T41 ys i).f4, .slice B_5 (rd_T41 ys i).f5.length d_5] 41);have hl:=below_alloc (Below.refl w1.heap.size w1) (.cells #[.int .i64 (rd_T41 ys i).f0, .string (rd_T41 ys i).f1, .slice B_2 (rd_T41 ys i).f2.length d_2, .string (rd_T41 ys i).f3, .int .i64 (rd_T41 ys i).f4, .slice B_5 (rd_T41 ys i).f5.length d_5] 41);generalize w1.alloc (.cells #[.int .i64 (rd_T41 ys i).f0, .string (rd_T41 ys i).f1, .slice B_2 (rd_T41 ys i).f2.length d_2, .string (rd_T41 ys i).f3, .int .i64 (rd_T41 ys i).f4, .slice B_5 (rd_T41 ys i).f5.length d_5] 41)=w2 at hY hl⊢;have HX2:=Ak (blk_below HX.out hl);have HB2:=Ak (below_step HB1.out hl);have HY:=Ak hY;clear hl hY hy0 hy1 hy2 hy3 hy4 hy5;generalize w1.heap.size=gy at HY⊢;have hx0:=blk_cell HX2.out 0;have hx1:=blk_cell HX2.out 1;have hx2:=blk_cell HX2.out 2;have hx3:=blk_cell HX2.out 3;have hx4:=blk_cell HX2.out 4;have hx5:=blk_cell HX2.out 5;have hy0:=blk_cell HY.out 0;have hy1:=blk_cell HY.out 1;have hy2:=blk_cell HY.out 2;have hy3:=blk_cell HY.out 3;have hy4:=blk_cell HY.out 4;have hy5:=blk_cell HY.out 5;have eg: ∀args w,(callFunc 52 args).run Tryz.prog w= .ok (.enter 52 args) w:=enters_of Tryz.func52 (by kernel_rfl) rfl;cases b with
       |true=>
        have H:=HA.out;rw[if_pos rfl]at H;have HA1:=Ak H;clear H HA;go_wp2_with (first|(go_at_fn 52;(with_reducible refine(impl_sameNode.calls k1 _ _ _ _ _ _ _ _ _ _ _ _ _ _ _ _ _ _ _ _ true w2 (Kd.C_below HI2.out HB2.out) HL2.out (Kd.C_below HI5.out HB2.out) HL5.out (Kd.C_below HJ2.out HB2.out) HM2.out (Kd.C_below HJ5.out HB2.out) HM5.out HS.out).mono ?_);rintro e w3 ⟨rfl,hb⟩;have HB3:=Ak (below_step HB2.out hb);clear hb));go_roundg k1;case measure=>have:=HK.out;omega
        case rel=>exact⟨_,rfl,HA1,⟨by have:=HK.out;omega⟩,HB3⟩
       |false=>
        have H:=HA.out;rw[if_neg (by decide)]at H;obtain rfl:=Oi H;clear H;go_wp2_with (first|(go_at_fn 52;(with_reducible refine(impl_sameNode.calls k1 _ _ _ _ _ _ _ _ _ _ _ _ _ _ _ _ _ _ _ _ false w2 (Kd.C_below HI2.out HB2.out) HL2.out (Kd.C_below HI5.out HB2.out) HL5.out (Kd.C_below HJ2.out HB2.out) HM2.out (Kd.C_below HJ5.out HB2.out) HM5.out HS.out).mono ?_);rintro e w3 ⟨rfl,hb⟩;have HB3:=Ak (below_step HB2.out hb);clear hb));go_ret;exact⟨rfl,HB3.out⟩
      ·rw[if_neg g3]at H;cases H
     ·rw[if_neg g2]at H;cases H
    ·rw[if_neg g1]at H;obtain rfl:=Oi H;clear H;have g1b:decide (i<(xs.length:Int))=false:=decide_eq_false g1;clear g1;go_wp2;go_ret;exact⟨rfl,HB.out⟩
 ·rw[if_neg cl]at h;obtain rfl:=Oi h;clear h;have clb:((xs.length:Int) !=(ys.length:Int))=true:=bne_iff_ne.mpr cl;clear cl;go_enter Tryz.func51,Tryz.ntmps51;go_wp2;go_ret;exact⟨rfl,Below.refl _ _⟩
def impl_sameTree.f(k:Nat)(xs ys:List S41):Option Bool:=slices_EqualFunc.f k xs ys
theorem impl_sameTree.mono: ∀a0 a1 k,LeO (impl_sameTree.f k a0 a1) (impl_sameTree.f (k+1) a0 a1):=slices_EqualFunc.mono
theorem impl_sameTree.calls(k:Nat)(A0:Option Addr)(c0:Nat)(xs:List S41)(A1:Option Addr)(c1:Nat)(ys:List S41)(r:Bool)(w:World)(hr0:Kd.C k41 w A0 xs.length xs)(hr1:Kd.C k41 w A1 ys.length ys)(h:impl_sameTree.f k xs ys=some r):
 Calls Tryz.prog 29 #[.agg #[.slice A0 xs.length c0], .agg #[.slice A1 ys.length c1]] w fun e w'=>e= .returned (.bool r)∧Below w.heap.size w w':=by
 unfold impl_sameTree.f at h;have HA:=Ak h;have HC:=Ak hr0;have HD:=Ak hr1;clear h hr0 hr1;go_enter Tryz.func29,Tryz.ntmps29;go_upto_region 1 with(first
  |((with_reducible refine gate_dst (N:=2) rfl ?_);refine box_event ?hg (N:=2) ?hd (cs:= #[.slice A0 xs.length c0]) (t:=29) ?hr ?_;(case hd=>rfl);(case hg=>rfl);(case hr=>first|(go_simp;done)|(go_simp;rfl));intro ga hg w1 hbox hb;have HX:=Ak hbox;have HB1:=Ak hb;clear hbox hb hg)
  |((with_reducible refine gate_dst (N:=3) rfl ?_);refine box_event ?hg (N:=3) ?hd (cs:= #[.slice A1 ys.length c1]) (t:=29) ?hr ?_;(case hd=>rfl);(case hg=>rfl);(case hr=>first|(go_simp;done)|(go_simp;rfl));intro gb hg w2 hbox hb;have HX2:=Ak (blk_below HX.out hb);have HY:=Ak hbox;have HB2:=Ak (below_step HB1.out hb);clear hbox hb hg))
 have eg: ∀args w,(callFunc 52 args).run Tryz.prog w= .ok (.enter 52 args) w:=enters_of Tryz.func52 (by kernel_rfl) rfl;have hca:=blk_cell HX2.out 0;have hcb:=blk_cell HY.out 0;go_wp2_with (first|(go_at_call 51;(with_reducible refine(slices_EqualFunc.calls k A0 c0 xs A1 c1 ys r w2 (Kd.C_below HC.out HB2.out) (Kd.C_below HD.out HB2.out) HA.out).mono ?_);rintro e w3 ⟨rfl,hb⟩;have HB3:=Ak (below_step HB2.out hb);clear hb));go_ret;exact⟨rfl,HB3.out⟩
def impl_TreeSame.f(k:Nat)(xs ys:List S41):Option Bool:=(impl_TreeOk.f k xs).bind fun b1=>if b1=true then((impl_TreeOk.f k ys).bind fun b2=>if b2=true then((impl_Tree_tidy.f k xs).bind fun ta=>(impl_Tree_tidy.f k ys).bind fun tb=>impl_sameTree.f k ta tb)else some false)else some false
theorem impl_TreeSame.mono: ∀a0 a1 k,LeO (impl_TreeSame.f k a0 a1) (impl_TreeSame.f (k+1) a0 a1):=fun a0 a1 k=>LeO.bind (impl_TreeOk.mono a0 k) (fun _=>LeO.ite (LeO.bind (impl_TreeOk.mono a1 k) (fun _=>LeO.ite (LeO.bind (impl_Tree_tidy.mono a0 k) (fun _=>LeO.bind (impl_Tree_tidy.mono a1 k) (fun _=>impl_sameTree.mono _ _ k))) (LeO.refl _))) (LeO.refl _))
theorem impl_TreeSame.calls(k:Nat)(A0_0:Option Addr)(c0_0:Nat)(l0_0:List S41)(A1_0:Option Addr)(c1_0:Nat)(l1_0:List S41)(r:Bool)(w:World)(hr0_0:Kd.C k41 w A0_0 l0_0.length l0_0)(hc0_0:l0_0.length≤c0_0)(hr1_0:Kd.C k41 w A1_0 l1_0.length l1_0)(hc1_0:l1_0.length≤c1_0)(h:impl_TreeSame.f k l0_0 l1_0=some r):
 Calls Tryz.prog 14 #[.agg #[.slice A0_0 l0_0.length c0_0], .agg #[.slice A1_0 l1_0.length c1_0]] w fun e w'=>e= .returned (.bool r)∧Below w.heap.size w w':=by
 unfold impl_TreeSame.f at h;obtain⟨b1,A1,h⟩:=Ob h;have HA1:=Ak A1;have HA:=Ak h;have HC:=Ak hr0_0;have HD:=Ak hr1_0;have HCC:=Ak hc0_0;have HDC:=Ak hc1_0;clear h hr0_0 hr1_0 hc0_0 hc1_0 A1;go_enter Tryz.func14,Tryz.ntmps14;go_upto_region 1 with(first
  |((with_reducible refine gate_dst (N:=2) rfl ?_);refine box_event ?hg (N:=2) ?hd (cs:= #[.slice A0_0 l0_0.length c0_0]) (t:=29) ?hr ?_;(case hd=>rfl);(case hg=>rfl);(case hr=>first|(go_simp;done)|(go_simp;rfl));intro ga hg w1 hbox hb;have HX:=Ak (show BoxW w w1 ga A0_0 l0_0.length c0_0 from⟨hbox,hb,by rw[hg];exact Nat.le_refl _⟩);clear hbox hb hg)
  |((with_reducible refine gate_dst (N:=3) rfl ?_);refine box_event ?hg (N:=3) ?hd (cs:= #[.slice A1_0 l1_0.length c1_0]) (t:=29) ?hr ?_;(case hd=>rfl);(case hg=>rfl);(case hr=>first|(go_simp;done)|(go_simp;rfl));intro gb hg w2 hbox hb;have HS:=Ak (show AlkW w w2 ga gb A0_0 A1_0 l0_0.length c0_0 l1_0.length c1_0 from⟨blk_below HX.out.blk hb,hbox,below_step HX.out.low hb⟩);have HGA:=Ak HX.out.ge;have HGB:=Ak (show w.heap.size≤gb by rw[hg];exact HX.out.low.size);have HNE:=Ak (show gb≠ga by have:=blk_lt HX.out.blk;omega);clear hbox hb hg))
 have hca:=blk_cell HS.out.a 0;have hcb:=blk_cell HS.out.b 0;cases b1 with
 |false=>
  have H:=HA.out;rw[if_neg (by decide)]at H;obtain rfl:=Oi H;clear H HA;go_wp2_with (first|(go_at_call 15;(with_reducible refine(impl_TreeOk.calls k A0_0 c0_0 l0_0 false w2 (Kd.C_below HC.out HS.out.low) HCC.out HA1.out).mono ?_);rintro e w3 ⟨rfl,hb⟩;have HS3:=Ak (HS.out.below hb);have hca3:=blk_cell HS3.out.a 0;have hcb3:=blk_cell HS3.out.b 0;clear hb));go_ret;exact⟨rfl,HS3.out.low⟩
 |true=>
  have H:=HA.out;rw[if_pos rfl]at H;obtain⟨b2,A2,H⟩:=Ob H;have HA2:=Ak A2;have HA3:=Ak H;clear H HA A2;cases b2 with
  |false=>
   have H:=HA3.out;rw[if_neg (by decide)]at H;obtain rfl:=Oi H;clear H HA3;go_wp2_with (first|(go_at_call 15;(with_reducible refine(impl_TreeOk.calls k A0_0 c0_0 l0_0 true w2 (Kd.C_below HC.out HS.out.low) HCC.out HA1.out).mono ?_);rintro e w3 ⟨rfl,hb⟩;have HS3:=Ak (HS.out.below hb);have hca3:=blk_cell HS3.out.a 0;have hcb3:=blk_cell HS3.out.b 0;clear hb)|(go_at_call 15;(with_reducible refine(impl_TreeOk.calls k A1_0 c1_0 l1_0 false w3 (Kd.C_below HD.out HS3.out.low) HDC.out HA2.out).mono ?_);rintro e w4 ⟨rfl,hb⟩;have HS4:=Ak (HS3.out.below hb);have HI4:=Ak (show IsS29 w w4 ga l0_0 from⟨A0_0,c0_0,HS4.out.a,HGA.out,HC.out⟩);clear hb));go_ret;exact⟨rfl,HS4.out.low⟩
  |true=>
   have H:=HA3.out;rw[if_pos rfl]at H;obtain⟨ta,A3,H⟩:=Ob H;obtain⟨tb,A4,H⟩:=Ob H;have HAA:=Ak A3;have HAB:=Ak A4;have HAR:=Ak H;clear H HA3 A3 A4;go_wp2_with (first|(go_at_call 15;(with_reducible refine(impl_TreeOk.calls k A0_0 c0_0 l0_0 true w2 (Kd.C_below HC.out HS.out.low) HCC.out HA1.out).mono ?_);rintro e w3 ⟨rfl,hb⟩;have HS3:=Ak (HS.out.below hb);have hca3:=blk_cell HS3.out.a 0;have hcb3:=blk_cell HS3.out.b 0;clear hb)|(go_at_call 15;(with_reducible refine(impl_TreeOk.calls k A1_0 c1_0 l1_0 true w3 (Kd.C_below HD.out HS3.out.low) HDC.out HA2.out).mono ?_);rintro e w4 ⟨rfl,hb⟩;have HS4:=Ak (HS3.out.below hb);have HI4:=Ak (show IsS29 w w4 ga l0_0 from⟨A0_0,c0_0,HS4.out.a,HGA.out,HC.out⟩);clear hb)|(go_at_call 26;(with_reducible refine(impl_Tree_tidy.calls k ga l0_0 ta w w4 HI4.out HS4.out.low HAA.out).mono ?_);rintro e w5 ⟨v,rfl,hS,_,hl,hk⟩;obtain⟨Ap,cp,rfl⟩:=Kd.S_slice hS;have HP:=Ak hS;have HB5:=Ak hl;have HI5:=Ak (show IsS29 w w5 gb l1_0 from⟨A1_0,c1_0,hk.blk HS4.out.b HNE.out (by simp),HGB.out,HD.out⟩);have HG4:=Ak (blk_lt HS4.out.b);clear hS hl hk)|(go_at_call 26;(with_reducible refine(impl_Tree_tidy.calls k gb l1_0 tb w w5 HI5.out HB5.out HAB.out).mono ?_);rintro e w6 ⟨v,rfl,hS,_,hl,hk⟩;obtain⟨Aq,cq,rfl⟩:=Kd.S_slice hS;have HP6:=Ak (Kd.S_kept (Kd.S_mono (Kd.S_bound HP.out) (ok':=fun k_=>w4.heap.size≤k_) (fun k_ hk_=>hk_.2.1)) (Kept.of_keep (Kept.refl w5 (fun k_=>k_=gb)) hk (.inl rfl)) (fun k_ h1 h2=>by have:=HG4.out;omega));have HQ:=Ak hS;have HB6:=Ak hl;clear hS hl hk)|(go_at_call 29;(with_reducible refine(impl_sameTree.calls k Ap cp ta Aq cq tb r w6 (Kd.R_reads' (Kd.S_R HP6.out)).2.2 (Kd.R_reads' (Kd.S_R HQ.out)).2.2 HAR.out).mono ?_);rintro e w7 ⟨rfl,hb⟩;have HB7:=Ak (below_step HB6.out hb);clear hb));go_ret;exact⟨rfl,HB7.out⟩
def impl_TextOf.l0:Nat→Int→List Int→ByteArray→List S41→Option ByteArray
 |0,_,_,_,_=>none
 |k+1,j,order,acc,xs=>if j<(order.length:Int)then(if 0≤j then(if 0≤rd order j then(if rd order j<(xs.length:Int)then(if(rd_T41 xs (rd order j)).f0=4 then(if acc.size+(rd_T41 xs (rd order j)).f3.size≤140737488355328 then impl_TextOf.l0 k (wrap64 (j+1)) order (acc++(rd_T41 xs (rd order j)).f3) xs else none)else impl_TextOf.l0 k (wrap64 (j+1)) order acc xs)else none)else none)else none)else some acc
def impl_TextOf.f(k:Nat)(xs:List S41)(a1:Int):Option ByteArray:=(impl_Tree_isNode.f xs a1).bind fun t=>if t=true then((impl_TreeOk.f k xs).bind fun u=>if u=true then((impl_Tree_below.f k xs a1).bind fun order=>if 0<order.length then impl_TextOf.l0 k 0 order ⟨#[]⟩ xs else none)else some ⟨#[]⟩)else some ⟨#[]⟩
theorem impl_TextOf.mono_l: ∀k,(∀y0 y1 y2 y3,LeO (impl_TextOf.l0 k y0 y1 y2 y3) (impl_TextOf.l0 (k+1) y0 y1 y2 y3))
 |0=>fun _ _ _ _ r h=>by simp [impl_TextOf.l0]at h
 |k+1=>by
  have ih:=impl_TextOf.mono_l k;intro y0 y1 y2 y3;rw[impl_TextOf.l0,impl_TextOf.l0];exact LeO.ite (LeO.ite (LeO.ite (LeO.ite (LeO.ite (LeO.ite (ih _ _ _ _) (LeO.refl _)) (ih _ _ _ _)) (LeO.refl _)) (LeO.refl _)) (LeO.refl _)) (LeO.refl _)
theorem impl_TextOf.mono: ∀a0 a1 k,LeO (impl_TextOf.f k a0 a1) (impl_TextOf.f (k+1) a0 a1):=fun a0 a1 k=>LeO.bind (LeO.refl _) (fun _=>LeO.ite (LeO.bind (impl_TreeOk.mono _ _) (fun _=>LeO.ite (LeO.bind (impl_Tree_below.mono _ _ _) (fun _=>LeO.ite (impl_TextOf.mono_l k _ _ _ _) (LeO.refl _))) (LeO.refl _))) (LeO.refl _))
structure TxtW(w4 W:World)(b:Nat)(acc:ByteArray):Prop where
 bld:Lib.IsBuilderF 47 5 b b (Lib.strCells acc) W
 oth:Lib.OthersKept 5 (some b) w4 W
 low:Below b w4 W
section
variable {w4 W W2:World} {b:Nat} {acc:ByteArray}
theorem TxtW.typed(h:TxtW w4 W b acc){k t:Nat}{cs:Array Value}{fz:Nat×Nat}(hb:w4.heap[k]? =some (.cells cs t fz))(hk:k≠b)(ht:t≠5):W.heap[k]? =some (.cells cs t fz):=
 h.oth k _ hb (fun e=>hk (by injection e)) (fun c z e=>ht (by injection e))
theorem TxtW.cell(h:TxtW w4 W b acc){a:Addr}{v:Value}{t:Nat}{cs:Array Value}{fz:Nat×Nat}(hb:w4.heap[a.block]? =some (.cells cs t fz))(hk:a.block≠b)(ht:t≠5)(hc:w4.cell? a=some v):W.cell? a=some v:=by
 have h2:=h.typed hb hk ht;unfold World.cell? at hc⊢;rw[h2];rw[hb]at hc;exact hc
theorem TxtW.old{w:World}(h:TxtW w4 W b acc)(hb:Below w.heap.size w w4)(hle:w.heap.size≤b){a:Addr}{v:Value}(hc:w.cell? a=some v):W.cell? a=some v:=by
 have h2:=pw_cell_below hb hc;have hlt:=World.block_lt_of_cell? w a hc;exact(h.low.cell (by omega)).trans h2
theorem TxtW.write(h:TxtW w4 W b acc){s:ByteArray}(h1:Lib.BuilderAtF 47 5 b b (.pointer (some ⟨b,0,none⟩)) (Lib.strCells acc++Lib.strCells s) W2)(hb:Below b W W2)(hk:Lib.OthersKept 5 (some b) W W2):TxtW w4 W2 b (acc++s):=by
 have e:Lib.strCells (acc++s)=Lib.strCells acc++Lib.strCells s:=by
  unfold Lib.strCells;rw[ByteArray.data_append,Array.toList_append,List.map_append]
 exact⟨.inr (by rw[e];exact h1),h.oth.trans hk,h.low.trans hb⟩
end
theorem impl_TextOf.calls(k:Nat)(A0_0:Option Addr)(c0_0:Nat)(l0_0:List S41)(a1:Int)(r:ByteArray)(w:World)(hr0_0:Kd.C k41 w A0_0 l0_0.length l0_0)(hc0_0:l0_0.length≤c0_0)(h:impl_TextOf.f k l0_0 a1=some r):
 Calls Tryz.prog 16 #[.agg #[.slice A0_0 l0_0.length c0_0], .int .i64 a1] w fun e w'=>e= .returned (.string r)∧Below w.heap.size w w':=by
 have HC:=Ak hr0_0;have HCC:=Ak hc0_0;clear hr0_0 hc0_0;unfold impl_TextOf.f at h;obtain⟨t,A1,h⟩:=Ob h;replace A1:=Ak A1;cases t with
 |false=>
  rw[if_neg (by decide)]at h;obtain rfl:=Oi h;clear h;go_enter Tryz.func16,Tryz.ntmps16;go_wp2_with (first
   |((with_reducible refine gate_dst (N:=2) rfl ?_);refine box_event ?hg (N:=2) ?hd (cs:= #[.slice A0_0 l0_0.length c0_0]) (t:=29) ?hr ?_;(case hd=>rfl);(case hg=>rfl);(case hr=>first|(go_simp;done)|(go_simp;rfl));intro gt hg w1 hbox hb;have HX:=Ak (show BoxW w w1 gt A0_0 l0_0.length c0_0 from⟨hbox,hb,by rw[hg];exact Nat.le_refl _⟩);have hcb:=HX.out.cell;clear hbox hb hg)
   |(go_at_call 33;(with_reducible refine(impl_Tree_isNode.quiet gt _ c0_0 l0_0 a1 false _ hcb A1.out).mono ?_);rintro e w' ⟨rfl,⟨nd,rfl⟩⟩))
  go_ret;exact⟨rfl,pw_below_drewN HX.out.low _⟩
 |true=>
  rw[if_pos rfl]at h;obtain⟨u,A2,h⟩:=Ob h;replace A2:=Ak A2;cases u with
  |false=>
   rw[if_neg (by decide)]at h;obtain rfl:=Oi h;clear h;go_enter Tryz.func16,Tryz.ntmps16;go_wp2_with (first
    |((with_reducible refine gate_dst (N:=2) rfl ?_);refine box_event ?hg (N:=2) ?hd (cs:= #[.slice A0_0 l0_0.length c0_0]) (t:=29) ?hr ?_;(case hd=>rfl);(case hg=>rfl);(case hr=>first|(go_simp;done)|(go_simp;rfl));intro gt hg w1 hbox hb;have HX:=Ak (show BoxW w w1 gt A0_0 l0_0.length c0_0 from⟨hbox,hb,by rw[hg];exact Nat.le_refl _⟩);have hcb:=HX.out.cell;clear hbox hb hg)
    |(go_at_call 33;(with_reducible refine(impl_Tree_isNode.quiet gt _ c0_0 l0_0 a1 true _ hcb A1.out).mono ?_);rintro e w' ⟨rfl,⟨nd,rfl⟩⟩;have HCn:=Ak (Kd.C_drewN (Kd.C_below HC.out HX.out.low) nd))
    |(go_at_call 15;(with_reducible refine(impl_TreeOk.calls k _ _ l0_0 false _ HCn.out HCC.out A2.out).mono ?_);rintro e w3 ⟨rfl,hb⟩;have HX3:=Ak ((HX.out.drewN nd).below hb);clear hb))
   go_ret;exact⟨rfl,HX3.out.low⟩
  |true=>
   rw[if_pos rfl]at h;obtain⟨order,A3,h⟩:=Ob h;replace A3:=Ak A3;by_cases ho:0<order.length
   ·rw[if_pos ho]at h;have HO:=Ak ho;have HA:=Ak h;clear h ho;go_enter Tryz.func16,Tryz.ntmps16;go_wp2_with (first
     |((with_reducible refine gate_dst (N:=2) rfl ?_);refine box_event ?hg (N:=2) ?hd (cs:= #[.slice A0_0 l0_0.length c0_0]) (t:=29) ?hr ?_;(case hd=>rfl);(case hg=>rfl);(case hr=>first|(go_simp;done)|(go_simp;rfl));intro gt hg w1 hbox hb;have HX:=Ak (show BoxW w w1 gt A0_0 l0_0.length c0_0 from⟨hbox,hb,by rw[hg];exact Nat.le_refl _⟩);have hcb:=HX.out.cell;clear hbox hb hg)
     |(go_at_call 33;(with_reducible refine(impl_Tree_isNode.quiet gt _ c0_0 l0_0 a1 true _ hcb A1.out).mono ?_);rintro e w' ⟨rfl,⟨nd,rfl⟩⟩;have HCn:=Ak (Kd.C_drewN (Kd.C_below HC.out HX.out.low) nd))
     |(go_at_call 15;(with_reducible refine(impl_TreeOk.calls k _ _ l0_0 true _ HCn.out HCC.out A2.out).mono ?_);rintro e w3 ⟨rfl,hb⟩;have HX3:=Ak ((HX.out.drewN nd).below hb);clear hb)
     |((with_reducible refine gate_dst (N:=5) rfl ?_);refine box_event ?hg (N:=5) ?hd (cs:= #[.pointer none, .slice none 0 0]) (t:=47) ?hr ?_;(case hd=>rfl);(case hg=>rfl);(case hr=>first|(go_simp;done)|(go_simp;rfl));intro b hg w4 hbox hb;have HX4:=Ak (HX3.out.below hb);have HBL:=Ak hbox;have HBE:=Ak (show w.heap.size≤b by rw[hg];exact HX3.out.low.size);have HBN:=Ak (show gt≠b by have:=blk_lt HX3.out.blk;omega);have HIS:=Ak (show IsS29 w w4 gt l0_0 from⟨A0_0,c0_0,HX4.out.blk,HX4.out.ge,HC.out⟩);have HLO:=Ak HX4.out.low;clear hbox hb hg)
     |(go_at_call 34;(with_reducible refine(impl_Tree_below.calls k gt l0_0 a1 order w _ HIS.out HLO.out A3.out).mono ?_);rintro e w5 ⟨vo,rfl,hr,hi,hb,hk⟩;obtain⟨go,co,evo,hgo,_,_⟩:=Kd.R_form hr HO.out;subst evo;have HR:=Ak hr;have HI:=Ak hi;have HB5:=Ak hb;have HBL5:=Ak (hk.blk HBL.out (Ne.symm HBN.out) (by simp));have HGO:=Ak (show go≠b by have:=blk_lt HBL.out;omega);clear hr hi hb hk))
    obtain⟨A',c',hgb,_,hC'⟩:=HI.out;have HC':=Ak hC';clear hC';have HGB:=Ak hgb;obtain⟨gcells,hty⟩:=Kd.R_typed HR.out go rfl;have HTY:=Ak hty;have HRC:=Ak (Kd.R_reads' HR.out).2.2;have HT0:Aside0 (TxtW w5 w5 b ⟨#[]⟩):=⟨⟨.inl ⟨Nat.le_refl _,_,HBL5.out,World.ownsRowF_nil _ _ _ _,by simp [Value.ownBlock]⟩,Lib.OthersKept.refl _ _ _,Below.refl _ _⟩⟩
    clear hgb hty hcb HBL5;go_loopg [19] k (fun kq v19 w'=> ∃(j:Int) (acc:ByteArray),v19= .int .i64 j∧Aside0 (impl_TextOf.l0 kq j order acc l0_0=some r)∧Aside0 (kq≤k)∧Aside0 (TxtW w5 w' b acc));case atStart=>exact⟨0,_,rfl,HA,⟨Nat.le_refl _⟩,HT0⟩
    case round=>
     clear HA HT0;obtain⟨j,acc,rfl,HA,HK,HT⟩:=hrel;cases gk with
     |zero=>exact absurd HA.out (by simp [impl_TextOf.l0])
     |succ k1=>
      have H:=HA.out;clear HA;simp only[impl_TextOf.l0]at H;have hcb:=(blk_cell (HT.out.typed HGB.out HBN.out (by decide)) 0).trans (show(#[.slice A' l0_0.length c']:Array Value)[0]? =some (.slice A' l0_0.length c')from rfl);by_cases c1:j<(order.length:Int)
      ·rw[if_pos c1]at H;by_cases c2:0≤j
       ·rw[if_pos c2]at H;by_cases c3:0≤rd order j
        ·rw[if_pos c3]at H;by_cases c4:rd order j<(l0_0.length:Int)
         ·rw[if_pos c4]at H;have c1b:decide (j<(order.length:Int))=true:=decide_eq_true c1;obtain⟨ak,e2,hy0⟩:=Kd.at_int HRC.out j c2 c1;injection e2 with e2
          subst e2;rw[add_plain]at hy0;replace hy0:=HT.out.cell (a:=⟨go,j.toNat,none⟩) HTY.out HGO.out (by decide) hy0;obtain⟨ad,A_2,c_2,A_5,c_5,e1,hx0,hx1,hx2,hx3,hx4,hx5,hl2,hi2,hl5,hi5⟩:=at_T41 HC'.out (rd order j) c3 c4;subst e1;replace hx0:=HT.out.old HB5.out HBE.out hx0;replace hx3:=HT.out.old HB5.out HBE.out hx3;clear hx1 hx2 hx4 hx5 hl2 hi2 hl5 hi5;replace c1:=eq_true c1;replace c2:=eq_true c2;replace c3:=eq_true c3;replace c4:=eq_true c4;by_cases c5:(rd_T41 l0_0 (rd order j)).f0=4
          ·rw[if_pos c5]at H;have c5b:((rd_T41 l0_0 (rd order j)).f0==4)=true:=beq_iff_eq.mpr c5;clear c5;by_cases c6:acc.size+(rd_T41 l0_0 (rd order j)).f3.size≤140737488355328
           ·rw[if_pos c6]at H;have HA:=Ak H;have HSZ:=Ak c6;clear H c6;have HBB:=Ak HT.out.bld;have HSB:=Ak (show b≤wr.heap.size by have:=HT.out.low.size;rcases HT.out.bld with h_|h_<;>exact Nat.le_of_lt h_.lt);go_wp2_with (first|(go_at_call 35;(with_reducible refine(Tryz.Builder_WriteString_k b b (Lib.strCells acc) (rd_T41 l0_0 (rd order j)).f3 _ HBB.out (by rw[Lib.strCells_length];exact HSZ.out) HSB.out).mono ?_);rintro e w6 ⟨rfl,h1,hb,hk⟩;have HT2:=Ak (HT.out.write h1 hb hk);clear h1 hb hk));go_roundg k1;case measure=>have:=HK.out;omega
            case rel=>exact⟨_,_,rfl,HA,⟨by have:=HK.out;omega⟩,HT2⟩
           ·rw[if_neg c6]at H;cases H
          ·rw[if_neg c5]at H;have HA:=Ak H;clear H;have c5b:((rd_T41 l0_0 (rd order j)).f0==4)=false:=beq_eq_false_iff_ne.mpr c5;clear c5;go_wp2;go_roundg k1;case measure=>have:=HK.out;omega
           case rel=>exact⟨_,_,rfl,HA,⟨by have:=HK.out;omega⟩,HT⟩
         ·rw[if_neg c4]at H;cases H
        ·rw[if_neg c3]at H;cases H
       ·rw[if_neg c2]at H;cases H
      ·rw[if_neg c1]at H;obtain rfl:=Oi H;clear H;have c1b:decide (j<(order.length:Int))=false:=decide_eq_false c1;clear c1;have HBB:=Ak (show Lib.IsBuilderF 47 5 b b (Lib.byteCells acc.data.toList) wr from HT.out.bld);have HSB:=Ak (show b≤wr.heap.size by rcases HT.out.bld with h_|h_<;>exact Nat.le_of_lt h_.lt);have ea:(⟨acc.data.toList.toArray⟩:ByteArray)=acc:=by rw[Array.toArray_toList]
       have HE:=Ak ea;clear ea;go_wp2_with (first|(go_at_call 22;(with_reducible refine(Tryz.Builder_String_any_k b b acc.data.toList _ HBB.out HSB.out).mono ?_);rintro e w6 ⟨rfl,h1,hb,hk⟩;have HBZ:=Ak (below_weaken (below_weaken HB5.out HBE.out HT.out.low) HBE.out hb);clear h1 hb hk;rw[HE.out]));go_ret;exact⟨rfl,HBZ.out⟩
   ·rw[if_neg ho]at h;cases h
def spec_l6Has.f(l0_0:List (S41))(a1:Int):Option (Bool):=(spec_l1In.f a1 0 (wrap64 ((l0_0.length:Int)- 1))).bind fun t102=>(some t102)
theorem spec_l6Has.calls(A0_0:Option Addr)(c0_0:Nat)(l0_0:List (S41))(a1:Int)(r:Bool)(w:World)(hr0_0:Kd.C k41 w A0_0 l0_0.length l0_0)(hc0_0:l0_0.length≤c0_0)(h:spec_l6Has.f l0_0 a1=some r):
 Calls Tryz.prog 36 #[.agg #[.slice A0_0 l0_0.length c0_0], .int .i64 a1] w fun e w'=>e= .returned (.bool r)∧Below w.heap.size w w':=by
 have hu29:=Tryz.underlying29;have HR0_0:=Ak hr0_0;have HC0_0:=Ak hc0_0;clear hr0_0 hc0_0;have HB:=Ak (Below.refl w.heap.size w);have H:((spec_l1In.f a1 0 (wrap64 ((l0_0.length:Int)- 1))).bind fun t102=>(some t102))=some r:=h;clear h;replace H:=Ob H;obtain⟨t102,A30,H⟩:=H;replace H:(some t102)=some r:=H;have A3:=Ak A30;clear A30;obtain rfl:=Oi H;go_enter Tryz.func36,Tryz.ntmps36;go_wp2_with (first|((with_reducible refine gate_dst (N:=2) rfl ?_);refine box_event ?hg (N:=2) ?hd (cs:= #[.slice A0_0 l0_0.length c0_0]) (t:=29) ?hr ?_;(case hd=>rfl);(case hg=>rfl);(case hr=>first|(go_simp;done)|(go_simp;rfl));intro gb101 hg w4 hbox hb;have n0_:=Ak (below_step (by repeat(first|exact HB.out|apply below_alloc|apply pw_below_drewN|apply below_drew1)) hb);have n1_:=Ak (hbox);have n2_:=Ak ((by rw[hg];exact(below_size (by repeat(first|exact HB.out|apply below_alloc|apply pw_below_drewN|apply below_drew1))):w.heap.size≤gb101));have n3_:=n2_;clear HB;have HB:=n0_;have BK101:=n1_;have GW101:=n2_;have GE101:=n3_;clear n0_ n1_ n2_ n3_;clear hb hbox hg;have hcz5_0:=blk_cell BK101.out 0;have hfz5_0:=blk_frozen BK101.out 0)|((with_reducible refine gate_callee (f:=27) rfl ?_);refine goesL_ (some 10) rfl rfl Tryz.func27 (by kernel_rfl) rfl #[.int .i64 a1, .int .i64 0, .int .i64 (wrap64 ((l0_0.length:Int)- 1))] rfl (by(try simp only[List.map_toArray,List.map_cons,List.map_nil]);first|done|rfl|(simp only[List.length_drop,List.length_take];rfl)) ?_;(with_reducible refine(spec_l1In.calls a1 0 (wrap64 ((l0_0.length:Int)- 1)) t102 _ A3.out).mono ?_);rintro e w' ⟨rfl,⟨nd,rfl⟩⟩;refine⟨_,rfl, ?_⟩));go_ret;exact⟨by first|rfl|(simp [*]<;>rfl),by repeat(first|exact HB.out|apply below_alloc|apply pw_below_drewN|apply below_drew1|refine below_set ?_ GE101.out)⟩
mutual
def spec_l8Text.j0:Nat→ByteArray→List (S41)→Int→ByteArray→List (S72)→ByteArray→Int→List Int→Option (ByteArray)
 |0,_,_,_,_,_,_,_,_=>none
 |k+1,x6,x102000,x104000,x104001,x104002,x104003,x104004,x104005=>spec_l8Text.l0 k x6 0 x102000 x104000 x104001 x104002 x104003 x104004 x104005
def spec_l8Text.l0:Nat→ByteArray→Int→List (S41)→Int→ByteArray→List (S72)→ByteArray→Int→List Int→Option (ByteArray)
 |0,_,_,_,_,_,_,_,_,_=>none
 |k+1,x6,x7,x102000,x104000,x104001,x104002,x104003,x104004,x104005=>if x7<(x104005.length:Int)then(if 0≤x7 then((spec_l8Text.f k x102000 (rd x104005 x7)).bind fun t105=>(if x6.size+t105.size≤9223372036854775807 then(spec_l8Text.l0 k (x6++t105) (wrap64 (x7+1)) x102000 x104000 x104001 x104002 x104003 x104004 x104005)else(none)))else(none))else(some x6)
def spec_l8Text.f:Nat→List (S41)→Int→Option (ByteArray)
 |0,_,_=>none
 |k+1,l0_0,a1=>if 0≤a1 then(if a1<(l0_0.length:Int)then(if((rd_T41 l0_0 a1).f0)=4 then(spec_l8Text.j0 k ((rd_T41 l0_0 a1).f3) l0_0 ((rd_T41 l0_0 a1).f0) ((rd_T41 l0_0 a1).f1) ((rd_T41 l0_0 a1).f2) ((rd_T41 l0_0 a1).f3) ((rd_T41 l0_0 a1).f4) ((rd_T41 l0_0 a1).f5))else(spec_l8Text.j0 k (⟨#[]⟩:ByteArray) l0_0 ((rd_T41 l0_0 a1).f0) ((rd_T41 l0_0 a1).f1) ((rd_T41 l0_0 a1).f2) ((rd_T41 l0_0 a1).f3) ((rd_T41 l0_0 a1).f4) ((rd_T41 l0_0 a1).f5)))else(none))else(none)
end
theorem spec_l8Text.mono_l: ∀k,(∀y0 y1,LeO (spec_l8Text.f k y0 y1) (spec_l8Text.f (k+1) y0 y1))∧(∀y0 y1 y2 y3 y4 y5 y6 y7,LeO (spec_l8Text.j0 k y0 y1 y2 y3 y4 y5 y6 y7) (spec_l8Text.j0 (k+1) y0 y1 y2 y3 y4 y5 y6 y7))∧(∀y0 y1 y2 y3 y4 y5 y6 y7 y8,LeO (spec_l8Text.l0 k y0 y1 y2 y3 y4 y5 y6 y7 y8) (spec_l8Text.l0 (k+1) y0 y1 y2 y3 y4 y5 y6 y7 y8))
 |0=>⟨fun _ _ r h=>by simp [spec_l8Text.f]at h,fun _ _ _ _ _ _ _ _ r h=>by simp [spec_l8Text.j0]at h,fun _ _ _ _ _ _ _ _ _ r h=>by simp [spec_l8Text.l0]at h⟩
 |k+1=>by
  obtain⟨ih0,ih1,ih2⟩:=spec_l8Text.mono_l k;refine⟨?_, ?_, ?_⟩
  ·intro y0 y1;unfold spec_l8Text.f;repeat' first
   |(with_reducible exact ih0 _ _)
   |(with_reducible exact ih1 _ _ _ _ _ _ _ _)
   |(with_reducible exact ih2 _ _ _ _ _ _ _ _ _)
   |(with_reducible exact LeO.refl _)
   |(with_reducible exact LeO.none _)
   |(with_reducible refine LeO.ite ?_ ?_)
   |(with_reducible refine LeO.bind ?_ (fun _=> ?_))
   |exact ih0 _ _
   |exact ih1 _ _ _ _ _ _ _ _
   |exact ih2 _ _ _ _ _ _ _ _ _
   |exact LeO.none _
   |refine LeO.ite ?_ ?_
   |refine LeO.bind ?_ (fun _=> ?_)
  ·intro y0 y1 y2 y3 y4 y5 y6 y7;unfold spec_l8Text.j0;repeat' first
   |(with_reducible exact ih0 _ _)
   |(with_reducible exact ih1 _ _ _ _ _ _ _ _)
   |(with_reducible exact ih2 _ _ _ _ _ _ _ _ _)
   |(with_reducible exact LeO.refl _)
   |(with_reducible exact LeO.none _)
   |(with_reducible refine LeO.ite ?_ ?_)
   |(with_reducible refine LeO.bind ?_ (fun _=> ?_))
   |exact ih0 _ _
   |exact ih1 _ _ _ _ _ _ _ _
   |exact ih2 _ _ _ _ _ _ _ _ _
   |exact LeO.none _
   |refine LeO.ite ?_ ?_
   |refine LeO.bind ?_ (fun _=> ?_)
  ·intro y0 y1 y2 y3 y4 y5 y6 y7 y8;unfold spec_l8Text.l0;repeat' first
   |(with_reducible exact ih0 _ _)
   |(with_reducible exact ih1 _ _ _ _ _ _ _ _)
   |(with_reducible exact ih2 _ _ _ _ _ _ _ _ _)
   |(with_reducible exact LeO.refl _)
   |(with_reducible exact LeO.none _)
   |(with_reducible refine LeO.ite ?_ ?_)
   |(with_reducible refine LeO.bind ?_ (fun _=> ?_))
   |exact ih0 _ _
   |exact ih1 _ _ _ _ _ _ _ _
   |exact ih2 _ _ _ _ _ _ _ _ _
   |exact LeO.none _
   |refine LeO.ite ?_ ?_
   |refine LeO.bind ?_ (fun _=> ?_)
theorem spec_l8Text.mono: ∀a0 a1 k,LeO (spec_l8Text.f k a0 a1) (spec_l8Text.f (k+1) a0 a1):=by
 intro a0 a1 k;obtain⟨ih0,ih1,ih2⟩:=spec_l8Text.mono_l k;exact ih0 a0 a1
def spec_l8Text.T8:Bool×List (List Nat×List Nat):=(true,[([],[]),([],[]),([],[]),([2],[2]),([],[]),([3,4],[3,4]),([5],[5]),([1,6],[1,6]),([0,7],[0,7]),([8,7,0,1,2,3,4,5,6,7,8],[0,8])])
def spec_l8Text.B8:List Nat:= [0,0,0,4,0,28,60,126,255,511]
theorem spec_l8Text.tab8:rtab .any (opsOf Tryz.f37 8)=spec_l8Text.T8:=by kernel_rfl
theorem spec_l8Text.bits8:waitsOk spec_l8Text.T8.2 spec_l8Text.B8=true:=by kernel_rfl
theorem spec_l8Text.calls(k:Nat): ∀(A0_0:Option Addr) (c0_0:Nat) (l0_0:List (S41)) (a1:Int) (r:ByteArray) (w:World) (hr0_0:Kd.C k41 w A0_0 l0_0.length l0_0) (hc0_0:l0_0.length≤c0_0) (h:spec_l8Text.f k l0_0 a1=some r),
 Calls Tryz.prog 37 #[.agg #[.slice A0_0 l0_0.length c0_0], .int .i64 a1] w fun e w'=>e= .returned (.string r)∧Below w.heap.size w w':=by
 induction k using Nat.strongRecOn with
 |_ k ih=>
 intro A0_0 c0_0 l0_0 a1 r w hr0_0 hc0_0 h;cases k with
 |zero=>exact absurd h (by simp [spec_l8Text.f])
 |succ k=>
 simp only[spec_l8Text.f]at h;have hu29:=Tryz.underlying29;have hu41:=Tryz.underlying41;have HR0_0:=Ak hr0_0;have HC0_0:=Ak hc0_0;clear hr0_0 hc0_0;have HB:=Ak (Below.refl w.heap.size w);have H:(if 0≤a1 then(if a1<(l0_0.length:Int)then(if((rd_T41 l0_0 a1).f0)=4 then(spec_l8Text.j0 k ((rd_T41 l0_0 a1).f3) l0_0 ((rd_T41 l0_0 a1).f0) ((rd_T41 l0_0 a1).f1) ((rd_T41 l0_0 a1).f2) ((rd_T41 l0_0 a1).f3) ((rd_T41 l0_0 a1).f4) ((rd_T41 l0_0 a1).f5))else(spec_l8Text.j0 k (⟨#[]⟩:ByteArray) l0_0 ((rd_T41 l0_0 a1).f0) ((rd_T41 l0_0 a1).f1) ((rd_T41 l0_0 a1).f2) ((rd_T41 l0_0 a1).f3) ((rd_T41 l0_0 a1).f4) ((rd_T41 l0_0 a1).f5)))else(none))else(none))=some r:=h;clear h;by_cases c3:0≤a1
 ·rw[if_pos c3]at H;have c3b0:decide (0≤a1)=true:=decide_eq_true c3;clear c3;by_cases c4:a1<(l0_0.length:Int)
  ·rw[if_pos c4]at H;have c4b0:decide (a1<(l0_0.length:Int))=true:=decide_eq_true c4;clear c4;have HC5:=Ak H;clear H;go_enter Tryz.func37,Tryz.ntmps37;go_upto_if 15 with(first|((with_reducible refine gate_dst (N:=2) rfl ?_);refine box_event ?hg (N:=2) ?hd (cs:= #[.slice A0_0 l0_0.length c0_0]) (t:=29) ?hr ?_;(case hd=>rfl);(case hg=>rfl);(case hr=>go_simp);intro gb101 hg w6 hbox hb;have n0_:=Ak (below_step (by repeat(first|(with_reducible first|exact HB.out|apply below_alloc|apply pw_below_drewN|apply below_drew1)|exact HB.out)) hb);have n1_:=Ak (hbox);have n2_:=Ak ((by rw[hg];exact(below_size (by repeat(first|(with_reducible first|exact HB.out|apply below_alloc|apply pw_below_drewN|apply below_drew1)|exact HB.out))):w.heap.size≤gb101));have n3_:=n2_;clear HB;have HB:=n0_;have BK101:=n1_;have GW101:=n2_;have GE101:=n3_;clear n0_ n1_ n2_ n3_;clear hb hbox hg;have hcz7_0:=blk_cell BK101.out 0;have hfz7_0:=blk_frozen BK101.out;have p102:0≤(a1:Int):=of_decide_eq_true (by assumption);have q102:a1<(l0_0.length:Int):=of_decide_eq_true (by assumption);obtain⟨ad102,A102_2,c102_2,A102_5,c102_5,e102,hx102_0,hx102_1,hx102_2,hx102_3,hx102_4,hx102_5,hl102_2,hi102_2,hl102_5,hi102_5⟩:=at_T41 HR0_0.out a1 p102 q102;cases e102;replace hx102_0:=pw_cell_below HB.out hx102_0;replace hx102_1:=pw_cell_below HB.out hx102_1;replace hx102_2:=pw_cell_below HB.out hx102_2;replace hx102_3:=pw_cell_below HB.out hx102_3;replace hx102_4:=pw_cell_below HB.out hx102_4;replace hx102_5:=pw_cell_below HB.out hx102_5;have HR102_2:=Ak hi102_2;have HC102_2:=Ak hl102_2;clear hi102_2 hl102_2;have HR102_5:=Ak hi102_5;have HC102_5:=Ak hl102_5;clear hi102_5 hl102_5;replace p102:=eq_true p102;replace q102:=eq_true q102)|((with_reducible refine gate_dst (N:=5) rfl ?_);refine box_event ?hg (N:=5) ?hd (cs:= #[.int .i64 0, .string (⟨#[]⟩:ByteArray), .slice none 0 0, .string (⟨#[]⟩:ByteArray), .int .i64 0, .slice none 0 0]) (t:=41) ?hr ?_;(case hd=>rfl);(case hg=>rfl);(case hr=>go_simp);intro gb103 hg w8 hbox hb;have n0_:=Ak (blk_below BK101.out hb);have n1_:=Ak (below_step (by repeat(first|(with_reducible first|exact HB.out|apply below_alloc|apply pw_below_drewN|apply below_drew1|refine below_set ?_ GE101.out)|exact HB.out)) hb);have n2_:=Ak (hbox);have n3_:=Ak ((by rw[hg];exact(below_size (by repeat(first|(with_reducible first|exact HB.out|apply below_alloc|apply pw_below_drewN|apply below_drew1|refine below_set ?_ GE101.out)|exact HB.out))):w.heap.size≤gb103));have n4_:=n3_;have n5_:=Ak ((by rw[hg];exact Nat.ne_of_lt (blk_lt BK101.out):gb101≠gb103));have n6_:=Ak (Ne.symm n5_.out);clear BK101;clear HB;have BK101:=n0_;have HB:=n1_;have BK103:=n2_;have GW103:=n3_;have GE103:=n4_;have NB101_103:=n5_;have NB103_101:=n6_;clear n0_ n1_ n2_ n3_ n4_ n5_ n6_;clear hb hbox hg;have hnb9:=NB103_101.out;have hnc9:=NB101_103.out;have hcz10_0:=blk_cell BK103.out 0;have hcz10_1:=blk_cell BK103.out 1;have hcz10_2:=blk_cell BK103.out 2;have hcz10_3:=blk_cell BK103.out 3;have hcz10_4:=blk_cell BK103.out 4;have hcz10_5:=blk_cell BK103.out 5;have hfz10_0:=blk_frozen BK103.out;have hfz10_1:=blk_frozen BK103.out 1;have hfz10_2:=blk_frozen BK103.out 2;have hfz10_3:=blk_frozen BK103.out 3;have hfz10_4:=blk_frozen BK103.out 4;have hfz10_5:=blk_frozen BK103.out 5))
   (try simp only[Act.put,List.setIfInBounds_toArray,List.set_cons_zero,List.set_cons_succ]);go_cut [6] (fun v6 wc=> ∃(kq:Nat) (x6_4:ByteArray),v6= .string x6_4∧Aside0 (spec_l8Text.j0 kq x6_4 l0_0 ((rd_T41 l0_0 a1).f0) ((rd_T41 l0_0 a1).f1) ((rd_T41 l0_0 a1).f2) ((rd_T41 l0_0 a1).f3) ((rd_T41 l0_0 a1).f4) ((rd_T41 l0_0 a1).f5)=some r)∧Aside0 (kq≤k)∧Aside0 (wc.heap[gb101]? =some (.cells #[(.slice (some ad102) l0_0.length c0_0)] 29 (0,0)))∧Aside0 (wc.heap[gb103]? =some (.cells #[.int .i64 ((rd_T41 l0_0 a1).f0), .string ((rd_T41 l0_0 a1).f1),(.slice A102_2 ((rd_T41 l0_0 a1).f2).length c102_2), .string ((rd_T41 l0_0 a1).f3), .int .i64 ((rd_T41 l0_0 a1).f4),(.slice A102_5 ((rd_T41 l0_0 a1).f5).length c102_5)] 41 (0,0)))∧Aside0 (Below w.heap.size w wc));case first=>
    have H:=HC5.out;clear HC5;by_cases c11:((rd_T41 l0_0 a1).f0)=4
    ·rw[if_pos c11]at H;have c11b0:(((rd_T41 l0_0 a1).f0)==4)=true:=beq_iff_eq.mpr c11;have c11b1:(((rd_T41 l0_0 a1).f0) !=4)=false:=bne_eq_false_iff_eq.mpr c11;clear c11;(first|rw[c11b0]|(simp only[i64_w,i32_w];rw[c11b0])|skip);have H':=Ak H;clear H;have hnb12:=NB103_101.out;have hnc12:=NB101_103.out;have hcz13_0:=blk_cell BK103.out 0;have hcz13_1:=blk_cell BK103.out 1;have hcz13_2:=blk_cell BK103.out 2;have hcz13_3:=blk_cell BK103.out 3;have hcz13_4:=blk_cell BK103.out 4;have hcz13_5:=blk_cell BK103.out 5;have hfz13_0:=blk_frozen BK103.out;go_wp2;go_meet;case rel=>exact⟨_,((rd_T41 l0_0 a1).f3),(by first|rfl|(simp;done)|(simp [*];done)),H',⟨by first|omega|exact Nat.le_refl _⟩,⟨by(with_reducible repeat(first|refine blk_drewN ?_ _|refine blk_drew ?_|refine blk_alloc ?_ _));refine blk_far ?_ NB101_103.out _;(with_reducible repeat(first|refine blk_drewN ?_ _|refine blk_drew ?_|refine blk_alloc ?_ _));refine blk_far ?_ NB101_103.out _;(with_reducible repeat(first|refine blk_drewN ?_ _|refine blk_drew ?_|refine blk_alloc ?_ _));refine blk_far ?_ NB101_103.out _;(with_reducible repeat(first|refine blk_drewN ?_ _|refine blk_drew ?_|refine blk_alloc ?_ _));refine blk_far ?_ NB101_103.out _;(with_reducible repeat(first|refine blk_drewN ?_ _|refine blk_drew ?_|refine blk_alloc ?_ _));refine blk_far ?_ NB101_103.out _;(with_reducible repeat(first|refine blk_drewN ?_ _|refine blk_drew ?_|refine blk_alloc ?_ _));refine blk_far ?_ NB101_103.out _;(with_reducible repeat(first|refine blk_drewN ?_ _|refine blk_drew ?_|refine blk_alloc ?_ _));exact BK101.out⟩,⟨by(with_reducible repeat(first|refine blk_drewN ?_ _|refine blk_drew ?_|refine blk_alloc ?_ _));refine blk_put (cs:= #[.int .i64 ((rd_T41 l0_0 a1).f0), .string ((rd_T41 l0_0 a1).f1), .slice A102_2 ((rd_T41 l0_0 a1).f2).length c102_2, .string ((rd_T41 l0_0 a1).f3), .int .i64 ((rd_T41 l0_0 a1).f4), .slice none 0 0]) ?_ 5 _ rfl;(with_reducible repeat(first|refine blk_drewN ?_ _|refine blk_drew ?_|refine blk_alloc ?_ _));refine blk_put (cs:= #[.int .i64 ((rd_T41 l0_0 a1).f0), .string ((rd_T41 l0_0 a1).f1), .slice A102_2 ((rd_T41 l0_0 a1).f2).length c102_2, .string ((rd_T41 l0_0 a1).f3), .int .i64 0, .slice none 0 0]) ?_ 4 _ rfl;(with_reducible repeat(first|refine blk_drewN ?_ _|refine blk_drew ?_|refine blk_alloc ?_ _));refine blk_put (cs:= #[.int .i64 ((rd_T41 l0_0 a1).f0), .string ((rd_T41 l0_0 a1).f1), .slice A102_2 ((rd_T41 l0_0 a1).f2).length c102_2, .string (⟨#[]⟩:ByteArray), .int .i64 0, .slice none 0 0]) ?_ 3 _ rfl;(with_reducible repeat(first|refine blk_drewN ?_ _|refine blk_drew ?_|refine blk_alloc ?_ _));refine blk_put (cs:= #[.int .i64 ((rd_T41 l0_0 a1).f0), .string ((rd_T41 l0_0 a1).f1), .slice none 0 0, .string (⟨#[]⟩:ByteArray), .int .i64 0, .slice none 0 0]) ?_ 2 _ rfl;(with_reducible repeat(first|refine blk_drewN ?_ _|refine blk_drew ?_|refine blk_alloc ?_ _));refine blk_put (cs:= #[.int .i64 ((rd_T41 l0_0 a1).f0), .string (⟨#[]⟩:ByteArray), .slice none 0 0, .string (⟨#[]⟩:ByteArray), .int .i64 0, .slice none 0 0]) ?_ 1 _ rfl;(with_reducible repeat(first|refine blk_drewN ?_ _|refine blk_drew ?_|refine blk_alloc ?_ _));refine blk_put (cs:= #[.int .i64 0, .string (⟨#[]⟩:ByteArray), .slice none 0 0, .string (⟨#[]⟩:ByteArray), .int .i64 0, .slice none 0 0]) ?_ 0 _ rfl;(with_reducible repeat(first|refine blk_drewN ?_ _|refine blk_drew ?_|refine blk_alloc ?_ _));exact BK103.out⟩,⟨by repeat(first|(with_reducible first|exact HB.out|apply below_alloc|apply pw_below_drewN|apply below_drew1|refine below_set ?_ GE101.out|refine below_set ?_ GE103.out)|exact HB.out)⟩⟩
    ·rw[if_neg c11]at H;have c11b0:(((rd_T41 l0_0 a1).f0)==4)=false:=beq_eq_false_iff_ne.mpr c11;have c11b1:(((rd_T41 l0_0 a1).f0) !=4)=true:=bne_iff_ne.mpr c11;(first|rw[c11b0]|(simp only[i64_w,i32_w];rw[c11b0])|skip);have H':=Ak H;clear H;go_wp2;go_meet;case rel=>exact⟨_,((⟨#[]⟩:ByteArray)),(by first|rfl|(simp;done)|(simp [*];done)),H',⟨by first|omega|exact Nat.le_refl _⟩,⟨by(with_reducible repeat(first|refine blk_drewN ?_ _|refine blk_drew ?_|refine blk_alloc ?_ _));refine blk_far ?_ NB101_103.out _;(with_reducible repeat(first|refine blk_drewN ?_ _|refine blk_drew ?_|refine blk_alloc ?_ _));refine blk_far ?_ NB101_103.out _;(with_reducible repeat(first|refine blk_drewN ?_ _|refine blk_drew ?_|refine blk_alloc ?_ _));refine blk_far ?_ NB101_103.out _;(with_reducible repeat(first|refine blk_drewN ?_ _|refine blk_drew ?_|refine blk_alloc ?_ _));refine blk_far ?_ NB101_103.out _;(with_reducible repeat(first|refine blk_drewN ?_ _|refine blk_drew ?_|refine blk_alloc ?_ _));refine blk_far ?_ NB101_103.out _;(with_reducible repeat(first|refine blk_drewN ?_ _|refine blk_drew ?_|refine blk_alloc ?_ _));refine blk_far ?_ NB101_103.out _;(with_reducible repeat(first|refine blk_drewN ?_ _|refine blk_drew ?_|refine blk_alloc ?_ _));exact BK101.out⟩,⟨by(with_reducible repeat(first|refine blk_drewN ?_ _|refine blk_drew ?_|refine blk_alloc ?_ _));refine blk_put (cs:= #[.int .i64 ((rd_T41 l0_0 a1).f0), .string ((rd_T41 l0_0 a1).f1), .slice A102_2 ((rd_T41 l0_0 a1).f2).length c102_2, .string ((rd_T41 l0_0 a1).f3), .int .i64 ((rd_T41 l0_0 a1).f4), .slice none 0 0]) ?_ 5 _ rfl;(with_reducible repeat(first|refine blk_drewN ?_ _|refine blk_drew ?_|refine blk_alloc ?_ _));refine blk_put (cs:= #[.int .i64 ((rd_T41 l0_0 a1).f0), .string ((rd_T41 l0_0 a1).f1), .slice A102_2 ((rd_T41 l0_0 a1).f2).length c102_2, .string ((rd_T41 l0_0 a1).f3), .int .i64 0, .slice none 0 0]) ?_ 4 _ rfl;(with_reducible repeat(first|refine blk_drewN ?_ _|refine blk_drew ?_|refine blk_alloc ?_ _));refine blk_put (cs:= #[.int .i64 ((rd_T41 l0_0 a1).f0), .string ((rd_T41 l0_0 a1).f1), .slice A102_2 ((rd_T41 l0_0 a1).f2).length c102_2, .string (⟨#[]⟩:ByteArray), .int .i64 0, .slice none 0 0]) ?_ 3 _ rfl;(with_reducible repeat(first|refine blk_drewN ?_ _|refine blk_drew ?_|refine blk_alloc ?_ _));refine blk_put (cs:= #[.int .i64 ((rd_T41 l0_0 a1).f0), .string ((rd_T41 l0_0 a1).f1), .slice none 0 0, .string (⟨#[]⟩:ByteArray), .int .i64 0, .slice none 0 0]) ?_ 2 _ rfl;(with_reducible repeat(first|refine blk_drewN ?_ _|refine blk_drew ?_|refine blk_alloc ?_ _));refine blk_put (cs:= #[.int .i64 ((rd_T41 l0_0 a1).f0), .string (⟨#[]⟩:ByteArray), .slice none 0 0, .string (⟨#[]⟩:ByteArray), .int .i64 0, .slice none 0 0]) ?_ 1 _ rfl;(with_reducible repeat(first|refine blk_drewN ?_ _|refine blk_drew ?_|refine blk_alloc ?_ _));refine blk_put (cs:= #[.int .i64 0, .string (⟨#[]⟩:ByteArray), .slice none 0 0, .string (⟨#[]⟩:ByteArray), .int .i64 0, .slice none 0 0]) ?_ 0 _ rfl;(with_reducible repeat(first|refine blk_drewN ?_ _|refine blk_drew ?_|refine blk_alloc ?_ _));exact BK103.out⟩,⟨by repeat(first|(with_reducible first|exact HB.out|apply below_alloc|apply pw_below_drewN|apply below_drew1|refine below_set ?_ GE101.out|refine below_set ?_ GE103.out)|exact HB.out)⟩⟩
   case rest=>
    clear HC5;try clear c1
    try clear p1
    try clear q1
    try clear hx1
    try clear p2
    try clear c3
    try clear c3b0
    try clear c4
    try clear c4b0
    try clear c9
    try clear c10
    try clear p10
    try clear q10
    try clear hx10
    try clear c11
    try clear c11b0
    try clear c11b1
    try clear c12
    try clear hcz10_0
    try clear hcz10_1
    try clear hcz10_2
    try clear hcz10_3
    try clear hcz10_4
    try clear hcz10_5
    try clear hcz13_0
    try clear hcz13_1
    try clear hcz13_2
    try clear hcz13_3
    try clear hcz13_4
    try clear hcz13_5
    try clear hcz7_0
    try clear hfz10_0
    try clear hfz10_1
    try clear hfz10_2
    try clear hfz10_3
    try clear hfz10_4
    try clear hfz10_5
    try clear hfz13_0
    try clear hfz13_1
    try clear hfz13_2
    try clear hfz13_3
    try clear hfz13_4
    try clear hfz13_5
    try clear hfz7_0
    try clear hx102_0
    try clear hx102_1
    try clear hx102_2
    try clear hx102_3
    try clear hx102_4
    try clear hx102_5
    try clear p102
    try clear q102
    obtain⟨kq,x6_4,rfl,HA,HJ4,BK101,BK103,HB⟩:=hcut;cases kq with
    |zero=>exact absurd HA.out (by simp [spec_l8Text.j0])
    |succ kj4=>
     have H:=HA.out;clear HA;simp only[spec_l8Text.j0]at H;have H':=Ak H;clear H;go_wp2;go_loopg [6,7] kj4 (fun kq v6 v7 w'=> ∃(x6_2:ByteArray) (x7_2:Int),v6= .string x6_2∧v7= .int .i64 x7_2∧Aside0 (spec_l8Text.l0 kq x6_2 x7_2 l0_0 ((rd_T41 l0_0 a1).f0) ((rd_T41 l0_0 a1).f1) ((rd_T41 l0_0 a1).f2) ((rd_T41 l0_0 a1).f3) ((rd_T41 l0_0 a1).f4) ((rd_T41 l0_0 a1).f5)=some r)∧Aside0 (kq≤kj4)∧Aside0 (w'.heap[gb101]? =some (.cells #[(.slice (some ad102) l0_0.length c0_0)] 29 (0,0)))∧Aside0 (w'.heap[gb103]? =some (.cells #[.int .i64 ((rd_T41 l0_0 a1).f0), .string ((rd_T41 l0_0 a1).f1),(.slice A102_2 ((rd_T41 l0_0 a1).f2).length c102_2), .string ((rd_T41 l0_0 a1).f3), .int .i64 ((rd_T41 l0_0 a1).f4),(.slice A102_5 ((rd_T41 l0_0 a1).f5).length c102_5)] 41 (0,0)))∧Aside0 (Below w.heap.size w w'));case atStart=>exact⟨(x6_4),(0),(by first|rfl|(simp;done)|(simp [*];done)),(by first|rfl|(simp;done)|(simp [*];done)),H',⟨Nat.le_refl _⟩,⟨by(with_reducible repeat(first|refine blk_drewN ?_ _|refine blk_drew ?_|refine blk_alloc ?_ _));exact BK101.out⟩,⟨by(with_reducible repeat(first|refine blk_drewN ?_ _|refine blk_drew ?_|refine blk_alloc ?_ _));exact BK103.out⟩,⟨by repeat(first|(with_reducible first|exact HB.out|apply below_alloc|apply pw_below_drewN|apply below_drew1|refine below_set ?_ GE101.out|refine below_set ?_ GE103.out)|exact HB.out)⟩⟩
     case round=>
      clear H';try clear c1
      try clear p1
      try clear q1
      try clear hx1
      try clear p2
      try clear c3
      try clear c3b0
      try clear c4
      try clear c4b0
      try clear c9
      try clear c10
      try clear p10
      try clear q10
      try clear hx10
      try clear c11
      try clear c11b0
      try clear c11b1
      try clear c12
      try clear hcz10_0
      try clear hcz10_1
      try clear hcz10_2
      try clear hcz10_3
      try clear hcz10_4
      try clear hcz10_5
      try clear hcz13_0
      try clear hcz13_1
      try clear hcz13_2
      try clear hcz13_3
      try clear hcz13_4
      try clear hcz13_5
      try clear hcz7_0
      try clear hfz10_0
      try clear hfz10_1
      try clear hfz10_2
      try clear hfz10_3
      try clear hfz10_4
      try clear hfz10_5
      try clear hfz13_0
      try clear hfz13_1
      try clear hfz13_2
      try clear hfz13_3
      try clear hfz13_4
      try clear hfz13_5
      try clear hfz7_0
      try clear hx102_0
      try clear hx102_1
      try clear hx102_2
      try clear hx102_3
      try clear hx102_4
      try clear hx102_5
      try clear p1
      try clear p10
      try clear p102
      try clear p2
      try clear q1
      try clear q10
      try clear q102
      obtain⟨x6_2,x7_2,rfl,rfl,HA,HK2,BK101,BK103,HB⟩:=hrel;cases gk with
      |zero=>exact absurd HA.out (by simp [spec_l8Text.l0])
      |succ k2=>
       have H:=HA.out;clear HA;simp only[spec_l8Text.l0]at H;by_cases c14:x7_2<(((rd_T41 l0_0 a1).f5).length:Int)
       ·rw[if_pos c14]at H;have c14b0:decide (x7_2<(((rd_T41 l0_0 a1).f5).length:Int))=true:=decide_eq_true c14;clear c14;by_cases c15:0≤x7_2
        ·rw[if_pos c15]at H;have c15b0:decide (0≤x7_2)=true:=decide_eq_true c15;clear c15;replace H:=Ob H;obtain⟨t105,A160,H⟩:=H;replace H:(if x6_2.size+t105.size≤9223372036854775807 then(spec_l8Text.l0 k2 (x6_2++t105) (wrap64 (x7_2+1)) l0_0 ((rd_T41 l0_0 a1).f0) ((rd_T41 l0_0 a1).f1) ((rd_T41 l0_0 a1).f2) ((rd_T41 l0_0 a1).f3) ((rd_T41 l0_0 a1).f4) ((rd_T41 l0_0 a1).f5))else(none))=some r:=H;have A16:=Ak A160;clear A160;by_cases c17:x6_2.size+t105.size≤9223372036854775807
         ·rw[if_pos c17]at H;have c17b0:=eq_true c17;have c17b1:decide (x6_2.size+t105.size≤9223372036854775807)=true:=decide_eq_true c17;try have c17b2:(9223372036854775807<x6_2.size+t105.size)=False:=eq_false (Nat.not_lt.2 c17)
          have H':=Ak H;clear H;have hnb18:=NB103_101.out;have hnc18:=NB101_103.out;have hcz19_0:=blk_cell BK103.out 0;have hcz19_1:=blk_cell BK103.out 1;have hcz19_2:=blk_cell BK103.out 2;have hcz19_3:=blk_cell BK103.out 3;have hcz19_4:=blk_cell BK103.out 4;have hcz19_5:=blk_cell BK103.out 5;have hfz19_0:=blk_frozen BK103.out;try go_wp2
          have n0_:=Ak (blk_drew BK101.out);have n1_:=Ak (blk_drew BK103.out);have n2_:=Ak (below_drew1 HB.out);clear BK101;clear BK103;clear HB;have BK101:=n0_;have BK103:=n1_;have HB:=n2_;clear n0_ n1_ n2_;have p104:0≤(x7_2:Int):=of_decide_eq_true (by assumption);have q104:x7_2<(((rd_T41 l0_0 a1).f5).length:Int):=of_decide_eq_true (by assumption);obtain⟨ad104,e104,hx104_0⟩:=Kd.at_int HR102_5.out x7_2 p104 q104;have hw104_0:=hx104_0;cases e104;replace hx104_0:=pw_cell_below HB.out hx104_0;replace p104:=eq_true p104;replace q104:=eq_true q104;refine start_ (n:=10) (S:=fun w'=>w'.cell? ⟨gb101,0,none⟩=some (.slice (some ad102) l0_0.length c0_0)∧w'.cell? ⟨gb103,0,none⟩=some (.int .i64 ((rd_T41 l0_0 a1).f0))∧w'.cell? ⟨gb103,1,none⟩=some (.string ((rd_T41 l0_0 a1).f1))∧w'.cell? ⟨gb103,2,none⟩=some (.slice A102_2 ((rd_T41 l0_0 a1).f2).length c102_2)∧w'.cell? ⟨gb103,3,none⟩=some (.string ((rd_T41 l0_0 a1).f3))∧w'.cell? ⟨gb103,4,none⟩=some (.int .i64 ((rd_T41 l0_0 a1).f4))∧w'.cell? ⟨gb103,5,none⟩=some (.slice (some ad104) ((rd_T41 l0_0 a1).f5).length c102_5)∧w'.cell? (ad104.add (x7_2).toNat)=some (.int .i64 (rd ((rd_T41 l0_0 a1).f5) x7_2))) (ds:= []) #[false,false,false,false,false,false,false,false,false,false] (by kernel_rfl) rfl rfl ⟨(blk_cell BK101.out 0).trans rfl,(blk_cell BK103.out 0).trans rfl,(blk_cell BK103.out 1).trans rfl,(blk_cell BK103.out 2).trans rfl,(blk_cell BK103.out 3).trans rfl,(blk_cell BK103.out 4).trans rfl,(blk_cell BK103.out 5).trans rfl,(pw_cell_below HB.out hw104_0)⟩ (fun hHeld=> ?_);refine with_tabW spec_l8Text.tab8 spec_l8Text.bits8 (fun HT_ HW_=> ?_);generalize wr.drew=w20 at BK101 BK103 HB hx104_0 hHeld⊢;refine pure_ (i:=0) (N:=some 25) (v:= ?_) (a':= ?_) #[true,false,false,false,false,false,false,false,false,false] rfl rfl (any_of HT_.out (by kernel_rfl)) (fun _ _ _ h=>h) (Or.inl ⟨by rfl, ?_⟩) ?_ ?_
          rotate_left
          ·intro w';go_simp;with_reducible rfl
          rotate_left
          ·simp only[Act.put,List.setIfInBounds_toArray,List.set_cons_zero,List.set_cons_succ,i64_w,i32_w];rfl
          refine pure_ (i:=2) (N:=some 27) (v:= ?_) (a':= ?_) #[true,false,true,false,false,false,false,false,false,false] rfl rfl (any_of HT_.out (by kernel_rfl)) (fun _ _ _ h=>h) (Or.inl ⟨by rfl, ?_⟩) ?_ ?_
          rotate_left
          ·intro w';go_simp;with_reducible rfl
          rotate_left
          ·simp only[Act.put,List.setIfInBounds_toArray,List.set_cons_zero,List.set_cons_succ,i64_w,i32_w];rfl
          refine pure_ (i:=4) (N:=some 29) (v:= ?_) (a':= ?_) #[true,false,true,false,true,false,false,false,false,false] rfl rfl (any_of HT_.out (by kernel_rfl)) (fun _ _ _ h=>h) (Or.inl ⟨by rfl, ?_⟩) ?_ ?_
          rotate_left
          ·intro w';go_simp;with_reducible rfl
          rotate_left
          ·simp only[Act.put,List.setIfInBounds_toArray,List.set_cons_zero,List.set_cons_succ,i64_w,i32_w];rfl
          refine take_ (i:=1) (N:=some 26) (v:= ?_) (a':= ?_) #[true,true,true,false,true,false,false,false,false,false] rfl rfl (take_ofW HT_.out HW_.out (by kernel_rfl)) (fun _ _ _ h=>h) (Or.inl ⟨by rfl, ?_⟩) hHeld ?_ ?_
          rotate_left
          ·rintro w' ⟨s0,s1,s2,s3,s4,s5,s6,s7⟩;go_simp;with_reducible rfl
          rotate_left
          ·simp only[Act.put,List.setIfInBounds_toArray,List.set_cons_zero,List.set_cons_succ,i64_w,i32_w];rfl
          refine take_ (i:=3) (N:=some 28) (v:= ?_) (a':= ?_) #[true,true,true,true,true,false,false,false,false,false] rfl rfl (take_ofW HT_.out HW_.out (by kernel_rfl)) (fun _ _ _ h=>h) (Or.inl ⟨by rfl, ?_⟩) hHeld ?_ ?_
          rotate_left
          ·rintro w' ⟨s0,s1,s2,s3,s4,s5,s6,s7⟩;go_simp;with_reducible rfl
          rotate_left
          ·simp only[Act.put,List.setIfInBounds_toArray,List.set_cons_zero,List.set_cons_succ,i64_w,i32_w];rfl
          refine pure_ (i:=5) (N:=some 30) (v:= ?_) (a':= ?_) #[true,true,true,true,true,true,false,false,false,false] rfl rfl (any_of HT_.out (by kernel_rfl)) (fun _ _ _ h=>h) (Or.inl ⟨by rfl, ?_⟩) ?_ ?_
          rotate_left
          ·intro w';go_simp;with_reducible rfl
          rotate_left
          ·simp only[Act.put,List.setIfInBounds_toArray,List.set_cons_zero,List.set_cons_succ,i64_w,i32_w];rfl
          refine take_ (i:=6) (N:=some 31) (v:= ?_) (a':= ?_) #[true,true,true,true,true,true,true,false,false,false] rfl rfl (take_ofW HT_.out HW_.out (by kernel_rfl)) (fun _ _ _ h=>h) (Or.inl ⟨by rfl, ?_⟩) hHeld ?_ ?_
          rotate_left
          ·rintro w' ⟨s0,s1,s2,s3,s4,s5,s6,s7⟩;go_simp;with_reducible rfl
          rotate_left
          ·simp only[Act.put,List.setIfInBounds_toArray,List.set_cons_zero,List.set_cons_succ,i64_w,i32_w];rfl
          refine one_ (i:=7) (N:=some 32) #[true,true,true,true,true,true,true,true,false,false] rfl rfl (one_of HT_.out (by kernel_rfl)) (by decide) (fun K hK=> ?_);refine goes_ Tryz.func37 (by kernel_rfl) rfl #[.agg #[.slice (some ad102) l0_0.length c0_0], .int .i64 (rd ((rd_T41 l0_0 a1).f5) x7_2)] (by rfl) rfl rfl (by(try simp only[List.map_toArray,List.map_cons,List.map_nil]);first|done|rfl|(simp only[List.length_drop,List.length_take];rfl)) ?_;with_reducible refine(ih k2 (by have:=HJ4.out;have:=HK2.out;omega) _ _ l0_0 (rd ((rd_T41 l0_0 a1).f5) x7_2) t105 _ ?side1 ?side2 A16.out).mono ?_;(case side1=>exact(Kd.C_below HR0_0.out HB.out));(case side2=>exact HC0_0.out);rintro e w21 ⟨rfl,hb⟩;refine⟨_,rfl, ?_⟩;have n0_:=Ak (blk_below BK101.out hb);have n1_:=Ak (blk_below BK103.out hb);have n2_:=Ak (below_step (by repeat(first|(with_reducible first|exact HB.out|apply below_alloc|apply pw_below_drewN|apply below_drew1|refine below_set ?_ GE101.out|refine below_set ?_ GE103.out)|exact HB.out)) hb);clear BK101;clear BK103;clear HB;have BK101:=n0_;have BK103:=n1_;have HB:=n2_;clear n0_ n1_ n2_;(try clear hb);(try clear hb2);(try clear hk);(try clear hi);refine hK.out _ _ ⟨(blk_cell BK101.out 0).trans rfl,(blk_cell BK103.out 0).trans rfl,(blk_cell BK103.out 1).trans rfl,(blk_cell BK103.out 2).trans rfl,(blk_cell BK103.out 3).trans rfl,(blk_cell BK103.out 4).trans rfl,(blk_cell BK103.out 5).trans rfl,(pw_cell_below HB.out hw104_0)⟩ (fun hHeld=> ?_);clear hK K;refine norm_ (a':= ?_) ?_ ?_
          rotate_left
          ·show Act.put _ (some 32) _=_
           simp only[Act.put,List.setIfInBounds_toArray,List.set_cons_zero,List.set_cons_succ,i64_w,i32_w];rfl
          refine pure_ (i:=8) (N:=some 33) (v:= ?_) (a':= ?_) #[true,true,true,true,true,true,true,true,true,false] rfl rfl (any_of HT_.out (by kernel_rfl)) (fun _ _ _ h=>h) (Or.inl ⟨by rfl, ?_⟩) ?_ ?_
          rotate_left
          ·intro w';go_simp;with_reducible rfl
          rotate_left
          ·simp only[Act.put,List.setIfInBounds_toArray,List.set_cons_zero,List.set_cons_succ,i64_w,i32_w];rfl
          refine pure_ (i:=9) (N:=some 6) (v:= ?_) (a':= ?_) #[true,true,true,true,true,true,true,true,true,true] rfl rfl (any_of HT_.out (by kernel_rfl)) (fun _ _ _ h=>h) (Or.inl ⟨by rfl, ?_⟩) ?_ ?_
          rotate_left
          ·intro w';go_simp;with_reducible rfl
          rotate_left
          ·simp only[Act.put,List.setIfInBounds_toArray,List.set_cons_zero,List.set_cons_succ,i64_w,i32_w];rfl
          refine done_ (done_of HT_.out (by kernel_rfl)) ?_;try go_wp2
          go_roundg k2;case measure=>have:=HJ4.out;have:=HK2.out;omega
          case rel=>exact⟨(x6_2++t105),(wrap64 (x7_2+1)),(by first|rfl|(simp;done)|(simp [*];done)),(by first|rfl|(simp;done)|(simp [*];done)),H',⟨by have:=HJ4.out;have:=HK2.out;omega⟩,⟨by(with_reducible repeat(first|refine blk_drewN ?_ _|refine blk_drew ?_|refine blk_alloc ?_ _));exact BK101.out⟩,⟨by(with_reducible repeat(first|refine blk_drewN ?_ _|refine blk_drew ?_|refine blk_alloc ?_ _));exact BK103.out⟩,⟨by repeat(first|(with_reducible first|exact HB.out|apply below_alloc|apply pw_below_drewN|apply below_drew1|refine below_set ?_ GE101.out|refine below_set ?_ GE103.out)|exact HB.out)⟩⟩
         ·rw[if_neg c17]at H;exact absurd H (by simp)
        ·rw[if_neg c15]at H;exact absurd H (by simp)
       ·rw[if_neg c14]at H;have c14b0:decide (x7_2<(((rd_T41 l0_0 a1).f5).length:Int))=false:=decide_eq_false c14;clear c14;obtain rfl:=Oi H;have hnb22:=NB103_101.out;have hnc22:=NB101_103.out;have hcz23_0:=blk_cell BK103.out 0;have hcz23_1:=blk_cell BK103.out 1;have hcz23_2:=blk_cell BK103.out 2;have hcz23_3:=blk_cell BK103.out 3;have hcz23_4:=blk_cell BK103.out 4;have hcz23_5:=blk_cell BK103.out 5;have hfz23_0:=blk_frozen BK103.out;go_wp2;go_ret;exact⟨by first|rfl|(simp [*]<;>rfl),by repeat(first|(with_reducible first|exact HB.out|apply below_alloc|apply pw_below_drewN|apply below_drew1|refine below_set ?_ GE101.out|refine below_set ?_ GE103.out)|exact HB.out)⟩
  ·rw[if_neg c4]at H;exact absurd H (by simp)
 ·rw[if_neg c3]at H;exact absurd H (by simp)
def spec_TextOf.f(k:Nat)(l0_0:List (S41))(a1:Int):Option (ByteArray):=(spec_TreeOk.f k l0_0).bind fun t102=>(if t102=true then((spec_l6Has.f l0_0 a1).bind fun t103=>(if t103=true then((spec_l8Text.f k l0_0 a1).bind fun t104=>(some t104))else(some (⟨#[]⟩:ByteArray))))else(some (⟨#[]⟩:ByteArray)))
theorem spec_TextOf.mono: ∀a0 a1 k,LeO (spec_TextOf.f k a0 a1) (spec_TextOf.f (k+1) a0 a1):=by
 intro a0 a1 k;unfold spec_TextOf.f;repeat' first
  |(with_reducible exact spec_TreeOk.mono _ _)
  |(with_reducible exact spec_l8Text.mono _ _ _)
  |(with_reducible exact LeO.refl _)
  |(with_reducible exact LeO.none _)
  |(with_reducible refine LeO.ite ?_ ?_)
  |(with_reducible refine LeO.bind ?_ (fun _=> ?_))
  |exact spec_TreeOk.mono _ _
  |exact spec_l8Text.mono _ _ _
  |exact LeO.none _
  |refine LeO.ite ?_ ?_
  |refine LeO.bind ?_ (fun _=> ?_)
theorem spec_TextOf.calls(k:Nat)(A0_0:Option Addr)(c0_0:Nat)(l0_0:List (S41))(a1:Int)(r:ByteArray)(w:World)(hr0_0:Kd.C k41 w A0_0 l0_0.length l0_0)(hc0_0:l0_0.length≤c0_0)(h:spec_TextOf.f k l0_0 a1=some r):
 Calls Tryz.prog 17 #[.agg #[.slice A0_0 l0_0.length c0_0], .int .i64 a1] w fun e w'=>e= .returned (.string r)∧Below w.heap.size w w':=by
 have hu29:=Tryz.underlying29;have HR0_0:=Ak hr0_0;have HC0_0:=Ak hc0_0;clear hr0_0 hc0_0;have HB:=Ak (Below.refl w.heap.size w);have H:((spec_TreeOk.f k l0_0).bind fun t102=>(if t102=true then((spec_l6Has.f l0_0 a1).bind fun t103=>(if t103=true then((spec_l8Text.f k l0_0 a1).bind fun t104=>(some t104))else(some (⟨#[]⟩:ByteArray))))else(some (⟨#[]⟩:ByteArray))))=some r:=h;clear h;replace H:=Ob H;obtain⟨t102,A30,H⟩:=H;replace H:(if t102=true then((spec_l6Has.f l0_0 a1).bind fun t103=>(if t103=true then((spec_l8Text.f k l0_0 a1).bind fun t104=>(some t104))else(some (⟨#[]⟩:ByteArray))))else(some (⟨#[]⟩:ByteArray)))=some r:=H;have A3:=Ak A30;clear A30;by_cases c4:t102=true
 ·subst c4;rw[if_pos rfl]at H;replace H:=Ob H;obtain⟨t103,A50,H⟩:=H;replace H:(if t103=true then((spec_l8Text.f k l0_0 a1).bind fun t104=>(some t104))else(some (⟨#[]⟩:ByteArray)))=some r:=H;have A5:=Ak A50;clear A50;by_cases c6:t103=true
  ·subst c6;rw[if_pos rfl]at H;replace H:=Ob H;obtain⟨t104,A70,H⟩:=H;replace H:(some t104)=some r:=H;have A7:=Ak A70;clear A70;obtain rfl:=Oi H;go_enter Tryz.func17,Tryz.ntmps17;go_wp2_with (first|((with_reducible refine gate_dst (N:=2) rfl ?_);refine box_event ?hg (N:=2) ?hd (cs:= #[.slice A0_0 l0_0.length c0_0]) (t:=29) ?hr ?_;(case hd=>rfl);(case hg=>rfl);(case hr=>go_simp);intro gb101 hg w8 hbox hb;have n0_:=Ak (below_step (HB.out) hb);have n1_:=Ak (hbox);have n2_:=Ak ((by rw[hg];exact(below_size (HB.out)):w.heap.size≤gb101));have n3_:=n2_;clear HB;have HB:=n0_;have BK101:=n1_;have GW101:=n2_;have GE101:=n3_;clear n0_ n1_ n2_ n3_;clear hb hbox hg;have hcz9_0:=blk_cell BK101.out 0;have hfz9_0:=blk_frozen BK101.out 0)|((with_reducible refine gate_callee (f:=13) rfl ?_);refine goesL_ (some 6) rfl rfl Tryz.func13 (by kernel_rfl) rfl #[.agg #[.slice A0_0 l0_0.length c0_0]] rfl (by(try simp only[List.map_toArray,List.map_cons,List.map_nil]);first|done|rfl|(simp only[List.length_drop,List.length_take];rfl)) ?_;(with_reducible refine(spec_TreeOk.calls k _ _ l0_0 true _ ?side1 ?side2 A3.out).mono ?_);(case side1=>exact(Kd.C_below HR0_0.out HB.out));(case side2=>exact HC0_0.out);rintro e w10 ⟨rfl,hb⟩;refine⟨_,rfl, ?_⟩;have n0_:=Ak (blk_below BK101.out hb);have n1_:=Ak (below_step (HB.out) hb);clear BK101;clear HB;have BK101:=n0_;have HB:=n1_;clear n0_ n1_;(try clear hb);have hcz11_0:=blk_cell BK101.out 0;have hfz11_0:=blk_frozen BK101.out 0)|(go_at_call 36;(with_reducible refine(spec_l6Has.calls _ _ l0_0 a1 true _ ?side1 ?side2 A5.out).mono ?_);(case side1=>exact(Kd.C_below HR0_0.out HB.out));(case side2=>exact HC0_0.out);rintro e w12 ⟨rfl,hb⟩;have n0_:=Ak (blk_below BK101.out hb);have n1_:=Ak (below_step (HB.out) hb);clear BK101;clear HB;have BK101:=n0_;have HB:=n1_;clear n0_ n1_;(try clear hb);have hcz13_0:=blk_cell BK101.out 0;have hfz13_0:=blk_frozen BK101.out 0)|((with_reducible refine gate_callee (f:=37) rfl ?_);refine goesL_ (some 16) rfl rfl Tryz.func37 (by kernel_rfl) rfl #[.agg #[.slice A0_0 l0_0.length c0_0], .int .i64 a1] rfl (by(try simp only[List.map_toArray,List.map_cons,List.map_nil]);first|done|rfl|(simp only[List.length_drop,List.length_take];rfl)) ?_;(with_reducible refine(spec_l8Text.calls k _ _ l0_0 a1 t104 _ ?side1 ?side2 A7.out).mono ?_);(case side1=>exact(Kd.C_below HR0_0.out HB.out));(case side2=>exact HC0_0.out);rintro e w14 ⟨rfl,hb⟩;refine⟨_,rfl, ?_⟩;have n0_:=Ak (blk_below BK101.out hb);have n1_:=Ak (below_step (HB.out) hb);clear BK101;clear HB;have BK101:=n0_;have HB:=n1_;clear n0_ n1_;(try clear hb)));go_ret;exact⟨by first|rfl|(simp [*]<;>rfl),HB.out⟩
  ·replace c6:=Bool.eq_false_iff.mpr c6;subst c6;rw[if_neg (show ¬(false=true)by decide)]at H;obtain rfl:=Oi H;go_enter Tryz.func17,Tryz.ntmps17;go_wp2_with (first|((with_reducible refine gate_dst (N:=2) rfl ?_);refine box_event ?hg (N:=2) ?hd (cs:= #[.slice A0_0 l0_0.length c0_0]) (t:=29) ?hr ?_;(case hd=>rfl);(case hg=>rfl);(case hr=>go_simp);intro gb101 hg w15 hbox hb;have n0_:=Ak (below_step (HB.out) hb);have n1_:=Ak (hbox);have n2_:=Ak ((by rw[hg];exact(below_size (HB.out)):w.heap.size≤gb101));have n3_:=n2_;clear HB;have HB:=n0_;have BK101:=n1_;have GW101:=n2_;have GE101:=n3_;clear n0_ n1_ n2_ n3_;clear hb hbox hg;have hcz16_0:=blk_cell BK101.out 0;have hfz16_0:=blk_frozen BK101.out 0)|((with_reducible refine gate_callee (f:=13) rfl ?_);refine goesL_ (some 6) rfl rfl Tryz.func13 (by kernel_rfl) rfl #[.agg #[.slice A0_0 l0_0.length c0_0]] rfl (by(try simp only[List.map_toArray,List.map_cons,List.map_nil]);first|done|rfl|(simp only[List.length_drop,List.length_take];rfl)) ?_;(with_reducible refine(spec_TreeOk.calls k _ _ l0_0 true _ ?side1 ?side2 A3.out).mono ?_);(case side1=>exact(Kd.C_below HR0_0.out HB.out));(case side2=>exact HC0_0.out);rintro e w17 ⟨rfl,hb⟩;refine⟨_,rfl, ?_⟩;have n0_:=Ak (blk_below BK101.out hb);have n1_:=Ak (below_step (HB.out) hb);clear BK101;clear HB;have BK101:=n0_;have HB:=n1_;clear n0_ n1_;(try clear hb);have hcz18_0:=blk_cell BK101.out 0;have hfz18_0:=blk_frozen BK101.out 0)|(go_at_call 36;(with_reducible refine(spec_l6Has.calls _ _ l0_0 a1 false _ ?side1 ?side2 A5.out).mono ?_);(case side1=>exact(Kd.C_below HR0_0.out HB.out));(case side2=>exact HC0_0.out);rintro e w19 ⟨rfl,hb⟩;have n0_:=Ak (blk_below BK101.out hb);have n1_:=Ak (below_step (HB.out) hb);clear BK101;clear HB;have BK101:=n0_;have HB:=n1_;clear n0_ n1_;(try clear hb)));go_ret;exact⟨by first|rfl|(simp [*]<;>rfl),HB.out⟩
 ·replace c4:=Bool.eq_false_iff.mpr c4;subst c4;rw[if_neg (show ¬(false=true)by decide)]at H;obtain rfl:=Oi H;go_enter Tryz.func17,Tryz.ntmps17;go_wp2_with (first|((with_reducible refine gate_dst (N:=2) rfl ?_);refine box_event ?hg (N:=2) ?hd (cs:= #[.slice A0_0 l0_0.length c0_0]) (t:=29) ?hr ?_;(case hd=>rfl);(case hg=>rfl);(case hr=>go_simp);intro gb101 hg w20 hbox hb;have n0_:=Ak (below_step (HB.out) hb);have n1_:=Ak (hbox);have n2_:=Ak ((by rw[hg];exact(below_size (HB.out)):w.heap.size≤gb101));have n3_:=n2_;clear HB;have HB:=n0_;have BK101:=n1_;have GW101:=n2_;have GE101:=n3_;clear n0_ n1_ n2_ n3_;clear hb hbox hg;have hcz21_0:=blk_cell BK101.out 0;have hfz21_0:=blk_frozen BK101.out 0)|((with_reducible refine gate_callee (f:=13) rfl ?_);refine goesL_ (some 6) rfl rfl Tryz.func13 (by kernel_rfl) rfl #[.agg #[.slice A0_0 l0_0.length c0_0]] rfl (by(try simp only[List.map_toArray,List.map_cons,List.map_nil]);first|done|rfl|(simp only[List.length_drop,List.length_take];rfl)) ?_;(with_reducible refine(spec_TreeOk.calls k _ _ l0_0 false _ ?side1 ?side2 A3.out).mono ?_);(case side1=>exact(Kd.C_below HR0_0.out HB.out));(case side2=>exact HC0_0.out);rintro e w22 ⟨rfl,hb⟩;refine⟨_,rfl, ?_⟩;have n0_:=Ak (blk_below BK101.out hb);have n1_:=Ak (below_step (HB.out) hb);clear BK101;clear HB;have BK101:=n0_;have HB:=n1_;clear n0_ n1_;(try clear hb)));go_ret;exact⟨by first|rfl|(simp [*]<;>rfl),HB.out⟩
def laws_FnTidy.lk:Nat→Int→List S41→Option Bool
 |0,_,_=>none
 |k+1,i,u=>if i<(u.length:Int)then(if 0≤i then(if 0≤(rd_T41 u i).f4∧(rd_T41 u i).f4<i then laws_FnTidy.lk k (wrap64 (i+1)) u else none)else none)else some true
def laws_FnTidy.f(k:Nat)(l:List Int):Option Bool:=(laws_big.f l).bind fun g=>if g=true then some true else(spec_DrawTreeTidy.f k l).bind fun t=>(impl_TreeTidy.f k t).bind fun u=>(spec_TreeOk.f k t).bind fun ok=>
 if ok=true then(impl_TreeOk.f k u).bind fun b1=>(impl_TreeSame.f k t u).bind fun b2=>(impl_TreeTidy.f k u).bind fun u2=>(laws_FnTidy.lk k 1 u).bind fun _=>(impl_TextOf.f k u 0).bind fun s1=>(spec_TextOf.f k t 0).bind fun s2=>(impl_PrintOf.f k u).bind fun s3=>(spec_PrintOf.f k t).bind fun s4=>if(b1=true∧b2=true∧u.length≤t.length)∧u2.length=u.length∧s1=s2∧s3=s4 then some true else none
 else(impl_TreeSame.f k t t).bind fun b=>if u= []∧b=false then some true else none
structure TdA(w W:World)(gt gu:Nat)(At:Option Addr)(ct:Nat)(t:List S41)(Au:Option Addr)(cu:Nat)(u:List S41):Prop where
 bt:W.heap[gt]? =some (.cells #[.slice At t.length ct] 29 (0,0))
 bu:W.heap[gu]? =some (.cells #[.slice Au u.length cu] 29 (0,0))
 rt:Kd.C k41 W At t.length t
 ru:Kd.C k41 W Au u.length u
 lt:t.length≤ct
 lu:u.length≤cu
 low:Below w.heap.size w W
theorem TdA.below{w W W2:World}{gt gu ct cu:Nat}{At Au:Option Addr}{t u:List S41}(h:TdA w W gt gu At ct t Au cu u)(hb:Below W.heap.size W W2):TdA w W2 gt gu At ct t Au cu u:=
 ⟨blk_below h.bt hb,blk_below h.bu hb,Kd.C_below h.rt hb,Kd.C_below h.ru hb,h.lt,h.lu,below_step h.low hb⟩
theorem TdA.drew{w W:World}{gt gu ct cu:Nat}{At Au:Option Addr}{t u:List S41}(h:TdA w W gt gu At ct t Au cu u):TdA w W.drew gt gu At ct t Au cu u:=h.below (pw_below_drewN (Below.refl _ _) 1)
@[local go_sem] theorem field_one(v:Value)(W:World):Sem.run Tryz.prog (Instr.field 29 (.agg #[v]) 0) W= .ok v W:=by
 unfold Instr.field;go_simp;rfl
theorem laws_FnTidy.calls(k:Nat)(A0:Option Addr)(c0:Nat)(l0:List Int)(r:Bool)(m:Int)(w:World)(hr0:Kd.C (Kd.int .u8) w A0 l0.length l0)(hc0:l0.length≤c0)(hm:w.cell? ⟨0,0,none⟩=some (.int .i64 m))(h:laws_FnTidy.f k l0=some r):
 Calls Tryz.prog 4 #[.slice A0 l0.length c0] w fun e w'=>e= .returned (.bool r)∧Below w.heap.size w w':=by
 have HR:=Ak hr0;have HRC:=Ak hc0;have HM:=Ak hm;clear hr0 hc0 hm;unfold laws_FnTidy.f at h;obtain⟨g,A0_,h⟩:=Ob h;replace A0_:=Ak A0_;go_enter Tryz.func4,Tryz.ntmps4;cases g with
 |true=>
  rw[if_pos rfl]at h;obtain rfl:=Oi h;clear h;go_wp2_with (first|(go_at_call 10;(with_reducible refine(laws_big.calls A0 c0 l0 true w HR.out HRC.out A0_.out).mono ?_);rintro e w1 ⟨rfl,⟨nd,rfl⟩⟩));go_ret;exact⟨rfl,pw_below_drewN (Below.refl _ _) nd⟩
 |false=>
  rw[if_neg (by decide)]at h;obtain⟨t,E1,h⟩:=Ob h;obtain⟨u,E2,h⟩:=Ob h;obtain⟨ok,E3,h⟩:=Ob h;replace E1:=Ak E1;replace E2:=Ak E2;replace E3:=Ak E3;have HA:=Ak h;clear h;go_upto_region 4 with(first|(go_at_call 10;(with_reducible refine(laws_big.calls A0 c0 l0 false w HR.out HRC.out A0_.out).mono ?_);rintro e w1 ⟨rfl,⟨nd,rfl⟩⟩)|(go_at_call 11;(with_reducible refine(spec_DrawTreeTidy.calls k A0 c0 l0 t _ (Kd.C_drewN HR.out nd) HRC.out E1.out).mono ?_);rintro e w2 ⟨v,rfl,hS,hb⟩;obtain⟨At,ct,rfl⟩:=Kd.S_slice hS;have HS2:=Ak (Kd.R_reads' (Kd.S_R hS)).2;have HL2:=Ak (show Below w.heap.size w w2 from below_step (pw_below_drewN (Below.refl _ _) nd) hb);clear hS hb))
  have hX:=blk_new w2 (.cells #[.slice At t.length ct] 29);have hl:=below_alloc (Below.refl w2.heap.size w2) (.cells #[.slice At t.length ct] 29);generalize w2.alloc (.cells #[.slice At t.length ct] 29)=w3 at hX hl⊢;have HB3:=Ak hX;have HS3:=Ak (show t.length≤ct∧Kd.C k41 w3 At t.length t from⟨HS2.out.1,Kd.C_below HS2.out.2 hl⟩);have HL3:=Ak (below_step HL2.out hl);clear hX hl HS2 HL2;generalize w2.heap.size=gt at HB3⊢;have hct:=blk_cell HB3.out 0;go_upto_region 5 with(first|(go_at_call 12;(with_reducible refine(impl_TreeTidy.calls k At ct t u _ HS3.out.2 HS3.out.1 E2.out).mono ?_);rintro e w4 ⟨v,rfl,hS,hb⟩;obtain⟨Au,cu,rfl⟩:=Kd.S_slice hS;have HS4:=Ak (Kd.R_reads' (Kd.S_R hS)).2;have HB4:=Ak (blk_below HB3.out hb);have HC4:=Ak (Kd.C_below HS3.out.2 hb);have HL4:=Ak (below_step HL3.out hb);clear hS hb));have hX:=blk_new w4 (.cells #[.slice Au u.length cu] 29);have hl:=below_alloc (Below.refl w4.heap.size w4) (.cells #[.slice Au u.length cu] 29);generalize w4.alloc (.cells #[.slice Au u.length cu] 29)=w5 at hX hl⊢;have HT:=Ak (show TdA w w5 gt w4.heap.size At ct t Au cu u from⟨blk_below HB4.out hl,hX,Kd.C_below HC4.out hl,Kd.C_below HS4.out.2 hl,HS3.out.1,HS4.out.1,below_step HL4.out hl⟩);have HGN:=Ak (show gt≠w4.heap.size from Nat.ne_of_lt (blk_lt HB4.out));clear hX hl hct HB3 HB4 HC4 HL3 HL4 HS3 HS4;generalize w4.heap.size=gu at HT HGN⊢;have hct:=blk_cell HT.out.bt 0;have hcu:=blk_cell HT.out.bu 0;have H:=HA.out;clear HA;cases ok with
  |false=>
   rw[if_neg (by decide)]at H;obtain⟨b,E4,H⟩:=Ob H;by_cases c:u= []∧b=false
   ·rw[if_pos c]at H;obtain rfl:=Oi H;obtain⟨rfl,rfl⟩:=c;replace E4:=Ak E4;clear H;go_wp2_with (first|(go_at_call 13;(with_reducible refine(spec_TreeOk.calls k At ct t false _ HT.out.rt HT.out.lt E3.out).mono ?_);rintro e w6 ⟨rfl,hb⟩;have HT6:=Ak (HT.out.below hb);have hct6:=blk_cell HT6.out.bt 0;have hcu6:=blk_cell HT6.out.bu 0;clear hb)|(go_at_call 14;(with_reducible refine(impl_TreeSame.calls k At ct t At ct t false _ HT6.out.rt HT6.out.lt HT6.out.rt HT6.out.lt E4.out).mono ?_);rintro e w7 ⟨rfl,hb⟩;have HT7:=Ak (HT6.out.below hb);have hct7:=blk_cell HT7.out.bt 0;have hcu7:=blk_cell HT7.out.bu 0;clear hb));go_ret;exact⟨rfl,HT7.out.low⟩
   ·rw[if_neg c]at H;cases H
  |true=>
   rw[if_pos rfl]at H;obtain⟨b1,E4,H⟩:=Ob H;obtain⟨b2,E5,H⟩:=Ob H;obtain⟨u2,E6,H⟩:=Ob H;obtain⟨q,EL,H⟩:=Ob H;obtain⟨s1,E7,H⟩:=Ob H;obtain⟨s2,E8,H⟩:=Ob H;obtain⟨s3,E9,H⟩:=Ob H;obtain⟨s4,E10,H⟩:=Ob H;by_cases c:(b1=true∧b2=true∧u.length≤t.length)∧u2.length=u.length∧s1=s2∧s3=s4;case neg=>rw[if_neg c]at H;cases H
   rw[if_pos c]at H;obtain rfl:=Oi H;obtain⟨⟨rfl,rfl,hle⟩,hlen,rfl,rfl⟩:=c;replace E4:=Ak E4;replace E5:=Ak E5;replace E6:=Ak E6;replace EL:=Ak EL;replace E7:=Ak E7;replace E8:=Ak E8;replace E9:=Ak E9;replace E10:=Ak E10;have p1:decide ((t.length:Int)<(u.length:Int))=false:=decide_eq_false (by omega);have p1b:decide (t.length<u.length)=false:=decide_eq_false (by omega);have p2b:(u2.length !=u.length)=false:=by rw[hlen];simp
   have p2:((u2.length:Int) !=(u.length:Int))=false:=by rw[hlen];simp
   have p3:(s1.toList==s1.toList)=true:=by simp
   have p4:(s3.toList==s3.toList)=true:=by simp
   clear H hle;go_upto_region 7 with(first|(go_at_call 13;(with_reducible refine(spec_TreeOk.calls k At ct t true _ HT.out.rt HT.out.lt E3.out).mono ?_);rintro e w6 ⟨rfl,hb⟩;have HTZ:=Ak (HT.out.below hb);clear hb))
   clear hct hcu HT;have HTD:=Ak HTZ.out.drew;have hct:=blk_cell HTZ.out.bt 0;have hcu:=blk_cell HTZ.out.bu 0;go_cut [52] (fun v52 wc=>v52= .bool false∧Aside0 (TdA w wc gt gu At ct t Au cu u));case first=>
    go_region_with (first|(go_at_call 15;(with_reducible refine(impl_TreeOk.calls k Au cu u true _ HTD.out.ru HTD.out.lu E4.out).mono ?_);rintro e w5 ⟨rfl,hb⟩;have HT5:=Ak (HTD.out.below hb);have hct5:=blk_cell HT5.out.bt 0;have hcu5:=blk_cell HT5.out.bu 0;clear hb)|(go_at_call 14;(with_reducible refine(impl_TreeSame.calls k At ct t Au cu u true _ HT5.out.rt HT5.out.lt HT5.out.ru HT5.out.lu E5.out).mono ?_);rintro e w6 ⟨rfl,hb⟩;have HT6:=Ak (HT5.out.below hb);have hct6:=blk_cell HT6.out.bt 0;have hcu6:=blk_cell HT6.out.bu 0;clear hb)|(go_at_call 12;(with_reducible refine(impl_TreeTidy.calls k Au cu u u2 _ HT6.out.ru HT6.out.lu E6.out).mono ?_);rintro e w7 ⟨v,rfl,hS,hb⟩;obtain⟨Av,cv,rfl⟩:=Kd.S_slice hS;have HT7:=Ak (HT6.out.below hb);have hct7:=blk_cell HT7.out.bt 0;have hcu7:=blk_cell HT7.out.bu 0;clear hb;clear hS));all_goals (go_wp2;go_meet;exact⟨rfl,HT7⟩)
   case rest=>
    obtain⟨rfl,HT⟩:=hcut;clear hct hcu HTZ HTD p1 p2 p1b p2b hlen;go_wp2;go_loopg [5] k (fun kq v5 w'=> ∃(i:Int),v5= .int .i64 i∧Aside0 (laws_FnTidy.lk kq i u=some q)∧Aside0 (kq≤k)∧Aside0 (TdA w w' gt gu At ct t Au cu u));case atStart=>exact⟨1,rfl,EL,⟨Nat.le_refl _⟩,HT⟩
    case round=>
     clear EL HT;obtain⟨i,rfl,EL,HK,HT⟩:=hrel;cases gk with
     |zero=>exact absurd EL.out (by simp [laws_FnTidy.lk])
     |succ k1=>
      have H:=EL.out;clear EL;simp only[laws_FnTidy.lk]at H;have hcu:=blk_cell HT.out.bu 0;by_cases g1:i<(u.length:Int)
      ·rw[if_pos g1]at H;by_cases g2:0≤i
       ·rw[if_pos g2]at H;by_cases g3:0≤(rd_T41 u i).f4∧(rd_T41 u i).f4<i
        ·rw[if_pos g3]at H;have EL:=Ak H;have g1b:decide (i<(u.length:Int))=true:=decide_eq_true g1;have g3b:decide ((rd_T41 u i).f4<0)=false:=decide_eq_false (by omega);have g4b:decide (i≤(rd_T41 u i).f4)=false:=decide_eq_false (by omega);obtain⟨ad,B_2,d_2,B_5,d_5,e1,hx0,hx1,hx2,hx3,hx4,hx5,hl2,hi2,hl5,hi5⟩:=at_T41 HT.out.ru i g2 g1;subst e1;clear H g3 hx0 hx1 hx2 hx3 hx5 hl2 hi2 hl5 hi5;replace g1:=eq_true g1;replace g2:=eq_true g2;go_wp2;go_roundg k1;case measure=>have:=HK.out;omega
         case rel=>exact⟨_,rfl,EL,⟨by have:=HK.out;omega⟩,HT⟩
        ·rw[if_neg g3]at H;cases H
       ·rw[if_neg g2]at H;cases H
      ·rw[if_neg g1]at H;have g1b:decide (i<(u.length:Int))=false:=decide_eq_false g1;clear H g1;go_upto_region 14 with(fail)
       clear hcu;have HD:=Ak HT.out.drew;have hct:=blk_cell HT.out.bt 0;have hcu:=blk_cell HT.out.bu 0;go_cut [2] (fun v2 wc=>v2= .bool true∧Aside0 (TdA w wc gt gu At ct t Au cu u));case first=>
        go_region_with (first|(go_at_call 16;(with_reducible refine(impl_TextOf.calls k Au cu u 0 s1 _ HD.out.ru HD.out.lu E7.out).mono ?_);rintro e wA ⟨rfl,hb⟩;have HTA:=Ak (HD.out.below hb);have hctA:=blk_cell HTA.out.bt 0;have hcuA:=blk_cell HTA.out.bu 0;clear hb)|(go_at_call 17;(with_reducible refine(spec_TextOf.calls k At ct t 0 s1 _ HTA.out.rt HTA.out.lt E8.out).mono ?_);rintro e wB ⟨rfl,hb⟩;have HTB:=Ak (HTA.out.below hb);have hctB:=blk_cell HTB.out.bt 0;have hcuB:=blk_cell HTB.out.bu 0;clear hb)|(go_at_call 8;(with_reducible refine(impl_PrintOf.calls k Au cu u s3 m _ HTB.out.ru HTB.out.lu (pw_cell_below HTB.out.low HM.out) E9.out).mono ?_);rintro e wC ⟨rfl,hb⟩;have HTC:=Ak (HTB.out.below hb);have hctC:=blk_cell HTC.out.bt 0;have hcuC:=blk_cell HTC.out.bu 0;clear hb)|(go_at_call 6;(with_reducible refine(spec_PrintOf.calls k At ct t s3 _ HTC.out.rt HTC.out.lt E10.out).mono ?_);rintro e wE ⟨rfl,hb⟩;have HTE:=Ak (HTC.out.below hb);have hctE:=blk_cell HTE.out.bt 0;have hcuE:=blk_cell HTE.out.bu 0;clear hb));all_goals (go_wp2;go_meet;exact⟨rfl,HTE⟩)
       case rest=>
        obtain⟨rfl,HT⟩:=hcut;clear hct hcu HD;go_wp2;go_ret;exact⟨rfl,HT.out.low⟩
def laws_FnTidy.Pure:Prop:= ∀(l0:List Int),l0.length≤maxLen→(∀x∈l0,(Lit.int .u8 x).wf=true)→ ∃k,laws_FnTidy.f k l0=some true
theorem laws_FnTidy.walk(P:laws_FnTidy.Pure)(a0:Option Addr)(len0 cap0:Nat)(z0:List Int)(m:Int)(w:World)(w0:(a0=none∧len0=0∧cap0=0∧z0= [])∨ ∃x,a0=some x∧len0≤cap0∧cap0≤maxLen∧z0.length=cap0∧(∀i,i<z0.length→w.cell? (x.add i)=some (.int .u8 (z0.getD i 0)))∧ ∀n∈z0,(Lit.int .u8 n).wf=true)(hm:w.cell? ⟨0,0,none⟩=some (.int .i64 m)):
 Calls Tryz.prog 4 #[.slice a0 len0 cap0] w fun e w'=>e= .returned (.bool true)∧Below w.heap.size w w':=by
 obtain⟨l0,rfl,hr0,hm0,hw0,hc0⟩:=ReadsInt.ofRowC w0;obtain⟨k,h⟩:=P l0 hm0 hw0;exact laws_FnTidy.calls k _ _ l0 true m w (Kd.C_of_reads (d:=(0:Int)) (h1:=fun _=>rfl) hr0) hc0 hm h
end Go.Proofs.YtlnmmcipioagaaaGreatDoor.X
namespace Go.Proofs.YtlnmmcipioagaaaGreatDoor.X
end Go.Proofs.YtlnmmcipioagaaaGreatDoor.X
