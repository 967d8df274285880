/- Plain lemmas over numbers and lists for FnTidy. Conditions: as each states. -/
import Derived.Test.YtlnmmcipioagaaaGreatDoorKFnTidyy1
set_option maxHeartbeats 64000000
set_option maxRecDepth 100000
namespace Go.Proofs.YtlnmmcipioagaaaGreatDoor.Y
open Go.RowKit Go.Proofs.YtlnmmcipioagaaaGreatDoor.X Go.Proofs.YtlnmmcipioagaaaGreatDoorW.PrintWords Go.Proofs.YtlnmmcipioagaaaGreatDoorW.PrintLast Go.Proofs.YtlnmmcipioagaaaGreatDoorW.PrintMore Go.Proofs.YtlnmmcipioagaaaGreatDoor.Y
set_option linter.unusedVariables false
set_option linter.unusedSimpArgs false
section
variable {xs:List IN}
theorem kid_mem(rt:RT xs): ∀(m:Nat) (i x k:Int),x∈pre xs m i→k∈kd xs x→k∈pre xs (m+1) i:=by
 intro m;induction m with
 |zero=>intro i x k hx;exact absurd hx (by unfold pre;exact List.not_mem_nil)
 |succ m ih=>
  intro i x k hx hk;rw[pre_succ]at hx⊢;rcases List.mem_cons.1 hx with rfl|hx
  ·exact List.mem_cons_of_mem _ (List.mem_flatMap.2 ⟨k,hk,by rw[pre_succ];exact List.mem_cons_self⟩)
  ·obtain⟨q,hq,hx⟩:=List.mem_flatMap.1 hx;exact List.mem_cons_of_mem _ (List.mem_flatMap.2 ⟨q,hq,ih q x k hx hk⟩)
theorem kid_T(rt:RT xs){x k:Int}(hx:x∈preT xs 0)(hk:k∈kd xs x):k∈preT xs 0:=by
 have:=kid_mem rt _ 0 x k hx hk;rw[pre_more rt (xs.length+1) 0 0 rt.zero (deep_zero rt.zero) (by omega)]at this;exact this
theorem par_mem(rt:RT xs): ∀(m:Nat) (i x:Int),inT xs i→x∈pre xs m i→x≠i→pa xs x∈pre xs m i:=by
 intro m;induction m with
 |zero=>intro i x _ hx;exact absurd hx (by unfold pre;exact List.not_mem_nil)
 |succ m ih=>
  intro i x hi hx hne;rw[pre_succ]at hx⊢;rcases List.mem_cons.1 hx with h|hx
  ·exact absurd h hne
  ·obtain⟨q,hq,hx⟩:=List.mem_flatMap.1 hx;by_cases c:x=q
   ·subst c;rw[(rt.kid i hi x hq).2.2];exact List.mem_cons_self
   ·exact List.mem_cons_of_mem _ (List.mem_flatMap.2 ⟨q,hq,ih q x (rt.inKid hi hq) hx c⟩)
def PlS(xs:List IN)(s:List Int):Prop:=s.length=xs.length∧ ∀i∈preT xs 0,rd s i=posT xs i
theorem rd_nat{l:List Int}{j:Nat}(h:j<l.length):rd l (j:Int)=l[j]:=by
 unfold rd;rw[Int.toNat_natCast,List.getD_eq_getElem?_getD,List.getElem?_eq_getElem h];rfl
theorem rd_set_self{l:List Int}{i:Int}(v:Int)(h0:0≤i)(h:i<l.length):rd (l.set i.toNat v) i=v:=by
 unfold rd;rw[List.getD_eq_getElem?_getD,List.getElem?_set_self (by omega)];rfl
theorem rd_set_other{l:List Int}{i q:Int}(v:Int)(h0:0≤i)(hq:0≤q)(h:q≠i):rd (l.set i.toNat v) q=rd l q:=by
 unfold rd;rw[List.getD_eq_getElem?_getD,List.getElem?_set_ne (by omega),←List.getD_eq_getElem?_getD]
theorem impl_places(rt:RT xs): ∀(d j:Nat) (s:List Int),j+d=(preT xs 0).length→s.length=xs.length→(∀q (h:q<j) (h2:q<(preT xs 0).length),rd s (preT xs 0)[q]=q)→EvP (fun k=>impl_Tree_tidy.l0 k (j:Int) (preT xs 0) s) (PlS xs):=by
 have hTl:(preT xs 0).length≤500:=pre_all rt _ rt.zero;have hn:=preT_nodup rt rt.zero;intro d;induction d with
 |zero=>
  intro j s h hs hq;refine EvP.succ ?_;simp only[impl_Tree_tidy.l0];refine EvP.neg (by omega) (EvP.some ⟨hs,fun i hi=> ?_⟩);obtain⟨q,hq2,rfl⟩:=List.mem_iff_getElem.1 hi;rw[hq q (by omega) hq2];unfold posT;rw[List.Nodup.idxOf_getElem hn]
 |succ d ih=>
  intro j s h hs hq;have hj:j<(preT xs 0).length:=by omega
  have hrd:=rd_nat hj;have hin:=preT_in rt rt.zero (preT xs 0)[j] (List.getElem_mem _);refine EvP.succ ?_;simp only[impl_Tree_tidy.l0];rw[hrd,w64 (x:=(j:Int)+1) (by omega) (by omega),show(j:Int)+1=((j+1:Nat):Int)by omega];refine EvP.pos (by omega) (EvP.pos (by omega) (EvP.pos hin.1 (EvP.pos (by rw[hs];exact hin.2) (ih (j+1) _ (by omega) (by rw[List.length_set];exact hs) ?_))));intro q h1 h2;by_cases c:q=j
  ·subst c;exact rd_set_self _ hin.1 (by rw[hs];exact hin.2)
  ·have hne:(preT xs 0)[q]≠(preT xs 0)[j]:=fun e=>c ((List.getElem_inj hn).1 e)
   rw[rd_set_other _ hin.1 (preT_in rt rt.zero _ (List.getElem_mem _)).1 hne];exact hq q (by omega) h2
theorem impl_kids(rt:RT xs){s:List Int}(hp:PlS xs s)(j:Int)(outs:List IN)(a0:Int)(a1:ByteArray)(a2:List IA)(a3:ByteArray)(a4:Int)(r:List IN)(ks:List Int)(hk: ∀k∈ks,k∈preT xs 0)(hkl:ks.length≤1048576)
 (h:Ev (fun k=>if outs.length<1000000 then(if j=0 then impl_Tree_tidy.l1 k (wrap64 (j+1)) (preT xs 0) s xs (outs++ [⟨a0,a1,a2,a3, -1,ks.map (posT xs)⟩])else(if 0≤a4 then(if a4<(s.length:Int)then impl_Tree_tidy.l1 k (wrap64 (j+1)) (preT xs 0) s xs (outs++ [⟨a0,a1,a2,a3,rd s a4,ks.map (posT xs)⟩])else none)else none))else none) r):
 ∀(d i:Nat),i+d=ks.length→Ev (fun k=>impl_Tree_tidy.l2 k (i:Int) j (preT xs 0) s xs outs ⟨a0,a1,a2,a3,a4,(ks.take i).map (posT xs)++ks.drop i⟩) r:=by
 intro d;induction d with
 |zero=>
  intro i hi;refine ev_succ ?_;simp only[impl_Tree_tidy.l2];rw[List.take_of_length_le (by omega),List.drop_of_length_le (by omega),List.append_nil];exact ev_neg (by rw[List.length_map];omega) h
 |succ d ih=>
  intro i hi;have hil:i<ks.length:=by omega
  have hlen:((ks.take i).map (posT xs)++ks.drop i).length=ks.length:=by
   rw[List.length_append,List.length_map,List.length_take,List.length_drop];omega
  have hrd:rd ((ks.take i).map (posT xs)++ks.drop i) (i:Int)=ks[i]:=by
   rw[rd_nat (by omega),List.getElem_append_right (by rw[List.length_map,List.length_take];omega)];simp [List.length_map,List.length_take,Nat.min_eq_left (Nat.le_of_lt hil)]
  have hm:=hk ks[i] (List.getElem_mem _);have hin:=preT_in rt rt.zero _ hm;have hset:((ks.take i).map (posT xs)++ks.drop i).set (i:Int).toNat (posT xs ks[i])=(ks.take (i+1)).map (posT xs)++ks.drop (i+1):=by
   have hl:((ks.take i).map (posT xs)).length=i:=by rw[List.length_map,List.length_take];omega
   rw[Int.toNat_natCast,List.set_append_right _ _ (by omega),hl,Nat.sub_self,List.drop_eq_getElem_cons hil,List.set_cons_zero,List.take_succ_eq_append_getElem hil,List.map_append,List.append_assoc];rfl
  refine ev_succ ?_;simp only[impl_Tree_tidy.l2];rw[hlen,hrd,hp.2 _ hm,hset,w64 (x:=(i:Int)+1) (by omega) (by omega),show(i:Int)+1=((i+1:Nat):Int)by omega];exact ev_pos (by omega) (ev_pos (by omega) (ev_pos hin.1 (ev_pos (by rw[hp.1];exact hin.2) (ih (i+1) (by omega)))))
theorem preT_head(rt:RT xs)(h:0<(preT xs 0).length):(preT xs 0)[0]=0:=rfl
theorem tidyT_len(rt:RT xs):(tidyT xs).length=(preT xs 0).length:=by
 unfold tidyT;rw[List.length_cons,List.length_map,List.length_tail,preT_eq rt rt.zero];simp
theorem tidyT_at(rt:RT xs)(j:Nat)(h:j+1<(preT xs 0).length):(tidyT xs)[j+1]'(by rw[tidyT_len rt];exact h)=tnd xs (preT xs 0)[j+1]:=by
 unfold tidyT;rw[List.getElem_cons_succ,List.getElem_map,List.getElem_tail]
theorem copy_ev(hs:smallT xs){i:Int}(hi:inT xs i):impl_copyNode.f (rd_T41 xs i).f0 (rd_T41 xs i).f1 (rd_T41 xs i).f2 (rd_T41 xs i).f3 (rd_T41 xs i).f4 (rd_T41 xs i).f5=some ((rd_T41 xs i).f0,(rd_T41 xs i).f1,(rd_T41 xs i).f2,(rd_T41 xs i).f3,(rd_T41 xs i).f4,(rd_T41 xs i).f5):=by
 have h:=smallN_at hs hi.1 hi.2;have h1:=h.2.1;have h2:=h.2.2.2.2.2.1;unfold impl_copyNode.f impl_Attr_79.f slices_Clone_int_int.f;rw[if_pos (by omega),if_pos (by omega)];rfl
theorem impl_tidy_l1(rt:RT xs)(hs:smallT xs){s:List Int}(hp:PlS xs s): ∀(d j:Nat),j+d=(preT xs 0).length→Ev (fun k=>impl_Tree_tidy.l1 k (j:Int) (preT xs 0) s xs ((tidyT xs).take j)) (tidyT xs):=by
 have hTl:(preT xs 0).length≤500:=pre_all rt _ rt.zero;have hn:=preT_nodup rt rt.zero;have htl:=tidyT_len rt;intro d;induction d with
 |zero=>
  intro j h;refine ev_succ ?_;simp only[impl_Tree_tidy.l1];rw[List.take_of_length_le (by omega)];exact ev_neg (by omega) (ev_some rfl)
 |succ d ih=>
  intro j h;have hj:j<(preT xs 0).length:=by omega
  have hrd:=rd_nat hj;have hm:(preT xs 0)[j]∈preT xs 0:=List.getElem_mem _;have hin:=preT_in rt rt.zero _ hm;have hks:=(smallN_at hs hin.1 hin.2).2.2.2.2.2.1;refine ev_succ ?_;simp only[impl_Tree_tidy.l1];rw[hrd];refine ev_pos (by omega) (ev_pos (by omega) (ev_pos hin.1 (ev_pos hin.2 (ev_bindS (copy_ev hs hin) ?_))));have hnext:=ih (j+1) (by omega);have:=impl_kids rt hp (j:Int) ((tidyT xs).take j) (rd_T41 xs (preT xs 0)[j]).f0 (rd_T41 xs (preT xs 0)[j]).f1 (rd_T41 xs (preT xs 0)[j]).f2 (rd_T41 xs (preT xs 0)[j]).f3 (rd_T41 xs (preT xs 0)[j]).f4 (tidyT xs) (kd xs (preT xs 0)[j]) (fun k hk=>kid_T rt hm hk) hks ?_ _ 0 (Nat.zero_add _)
  ·simpa using this
  ·rw[w64 (x:=(j:Int)+1) (by omega) (by omega),show(j:Int)+1=((j+1:Nat):Int)by omega];refine ev_pos (by rw[List.length_take];omega) ?_;rw[List.take_succ_eq_append_getElem (by omega)]at hnext;cases j with
   |zero=>exact ev_pos rfl hnext
   |succ j=>
    have hx:(preT xs 0)[j+1]≠0:=by
     intro e;have h0:(preT xs 0)[0]'(by omega)=0:=preT_head rt (by omega);have:=(List.getElem_inj (i:=j+1) (j:=0) (h₀:=by omega) (h₁:=by omega) hn).1 (by rw[e,h0]);omega
    have hpm:=par_mem rt _ 0 _ rt.zero hm hx;have hpi:=preT_in rt rt.zero _ hpm;rw[tidyT_at rt j hj]at hnext;refine ev_neg (by omega) (ev_pos hpi.1 (ev_pos (by rw[hp.1];exact hpi.2) ?_));have e:rd s (rd_T41 xs (preT xs 0)[j+1]).f4=posT xs (pa xs (preT xs 0)[j+1]):=hp.2 _ hpm;rw[e];exact hnext
theorem impl_tidy_ev(rt:RT xs)(hs:smallT xs):Ev (fun k=>impl_Tree_tidy.f k xs) (tidyT xs):=by
 unfold impl_Tree_tidy.f;have hlen:0<(preT xs 0).length:=by rw[preT_eq rt rt.zero];simp
 have hone:=rt.one;have hmost:=rt.most;refine Ev.bind (impl_below_ev rt hs rt.zero) (ev_pos hlen (ev_pos (by omega) (ev_pos (by omega) ?_)));obtain⟨s,h1,hp⟩:=impl_places rt (preT xs 0).length 0 (List.replicate xs.length 0) (by omega) (by simp) (fun q h=>absurd h (by omega));exact Ev.bind h1 (by have:=impl_tidy_l1 rt hs hp (preT xs 0).length 0 (by omega);simpa using this)
end
theorem loop_eq{α:Type}(a b:List α)(hl:a.length=b.length)(g:Nat→Nat→Option Bool)(h0:Ev (fun k=>g k a.length) true)
 (h1: ∀(i:Nat) (h:i<a.length) (r:Bool),a[i]=b[i]'(by omega)→Ev (fun k=>g k (i+1)) r→Ev (fun k=>g k i) r)
 (h2: ∀(i:Nat) (h:i<a.length),a[i]≠b[i]'(by omega)→Ev (fun k=>g k i) false): ∀(d i:Nat),i+d=a.length→ ∃r,Ev (fun k=>g k i) r∧(r=true↔a.drop i=b.drop i):=by
 intro d;induction d with
 |zero=>
  intro i h;obtain rfl:i=a.length:=by omega
  exact⟨true,h0,by rw[List.drop_of_length_le (Nat.le_refl _),List.drop_of_length_le (by omega)];simp⟩
 |succ d ih=>
  intro i h;have hi:i<a.length:=by omega
  obtain⟨r,hr,hrr⟩:=ih (i+1) (by omega);rw[List.drop_eq_getElem_cons hi,List.drop_eq_getElem_cons (show i<b.length by omega)];by_cases c:a[i]=b[i]'(by omega)
  ·exact⟨r,h1 i hi r c hr,⟨fun g=>by rw[c,hrr.1 g],fun g=>hrr.2 (List.cons.inj g).2⟩⟩
  ·exact⟨false,h2 i hi c,⟨fun g=>absurd g (by simp),fun g=>absurd (List.cons.inj g).1 c⟩⟩
theorem loop_eq0{α:Type}(a b:List α)(hl:a.length=b.length)(g:Nat→Nat→Option Bool)(h0:Ev (fun k=>g k a.length) true)
 (h1: ∀(i:Nat) (h:i<a.length) (r:Bool),a[i]=b[i]'(by omega)→Ev (fun k=>g k (i+1)) r→Ev (fun k=>g k i) r)
 (h2: ∀(i:Nat) (h:i<a.length),a[i]≠b[i]'(by omega)→Ev (fun k=>g k i) false): ∃r,Ev (fun k=>g k 0) r∧(r=true↔a=b):=by
 have:=loop_eq a b hl g h0 h1 h2 a.length 0 (Nat.zero_add _);simpa using this
theorem rdA_nat{l:List IA}{i:Nat}(h:i<l.length):rd_T72 l (i:Int)=l[i]:=by
 unfold rd_T72;rw[Int.toNat_natCast,List.getD_eq_getElem?_getD,List.getElem?_eq_getElem h];rfl
theorem attr_eq{x y:IA}:x=y↔x.f0=y.f0∧x.f1=y.f1:=by cases x;cases y;simp
theorem node_eq{x y:IN}:x=y↔x.f0=y.f0∧x.f1=y.f1∧x.f2=y.f2∧x.f3=y.f3∧x.f4=y.f4∧x.f5=y.f5:=by cases x;cases y;simp
theorem attr_same(a b:List IA)(ha:a.length≤1048576): ∃r,Ev (fun k=>impl_Attr_84.f k a b) r∧(r=true↔a=b):=by
 by_cases c:a.length=b.length
 ·have hx: ∃r,Ev (fun k=>impl_Attr_84.l0 k a b (a.length:Int) 0) r∧(r=true↔a=b):=by
   refine loop_eq0 a b c (fun k i=>impl_Attr_84.l0 k a b (a.length:Int) (i:Int)) ?_ ?_ ?_
   ·refine ev_succ ?_;simp only[impl_Attr_84.l0];exact ev_neg (by omega) (Ev.now _)
   ·intro i h r e hr;refine ev_succ ?_;simp only[impl_Attr_84.l0];rw[rdA_nat h,rdA_nat (show i<b.length by omega),e,w64 (x:=(i:Int)+1) (by omega) (by omega),show(i:Int)+1=((i+1:Nat):Int)by omega];exact ev_pos (by omega) (ev_pos (by omega) (ev_pos (by omega) (ev_pos (by omega) (ev_neg (by simp) hr))))
   ·intro i h e;refine ev_succ ?_;simp only[impl_Attr_84.l0];rw[rdA_nat h,rdA_nat (show i<b.length by omega)];refine ev_pos (by omega) (ev_pos (by omega) (ev_pos (by omega) (ev_pos (by omega) (ev_pos ?_ (Ev.now _)))));rw[Ne,attr_eq,←toList_iff,←toList_iff]at e;by_cases q:a[i].f0.toList=(b[i]'(by omega)).f0.toList
    ·have q2: ¬a[i].f1.toList=(b[i]'(by omega)).f1.toList:=fun g=>e ⟨q,g⟩
     simp [q2]
    ·simp [q]
  obtain⟨r,hr,hrr⟩:=hx;refine⟨r, ?_,hrr⟩;unfold impl_Attr_84.f;exact ev_pos (by omega) hr
 ·refine⟨false, ?_,by simp;intro e;exact c (by rw[e])⟩;unfold impl_Attr_84.f;exact ev_neg (by omega) (Ev.now _)
theorem int_same(a b:List Int)(ha:a.length≤1048576): ∃r,Ev (fun k=>slices_Equal_int_int.f k a b) r∧(r=true↔a=b):=by
 by_cases c:a.length=b.length
 ·have hx: ∃r,Ev (fun k=>slices_Equal_int_int.l0 k a b (a.length:Int) 0) r∧(r=true↔a=b):=by
   refine loop_eq0 a b c (fun k i=>slices_Equal_int_int.l0 k a b (a.length:Int) (i:Int)) ?_ ?_ ?_
   ·refine ev_succ ?_;simp only[slices_Equal_int_int.l0];exact ev_neg (by omega) (Ev.now _)
   ·intro i h r e hr;refine ev_succ ?_;simp only[slices_Equal_int_int.l0];rw[rd_nat h,rd_nat (show i<b.length by omega),w64 (x:=(i:Int)+1) (by omega) (by omega),show(i:Int)+1=((i+1:Nat):Int)by omega];exact ev_pos (by omega) (ev_pos (by omega) (ev_pos (by omega) (ev_pos (by omega) (ev_pos e hr))))
   ·intro i h e;refine ev_succ ?_;simp only[slices_Equal_int_int.l0];rw[rd_nat h,rd_nat (show i<b.length by omega)];exact ev_pos (by omega) (ev_pos (by omega) (ev_pos (by omega) (ev_pos (by omega) (ev_neg e (Ev.now _)))))
  obtain⟨r,hr,hrr⟩:=hx;refine⟨r, ?_,hrr⟩;unfold slices_Equal_int_int.f;exact ev_pos (by omega) hr
 ·refine⟨false, ?_,by simp;intro e;exact c (by rw[e])⟩;unfold slices_Equal_int_int.f;exact ev_neg (by omega) (Ev.now _)
theorem j0_true(a0:Int)(a1:ByteArray)(a2:List IA)(a3:ByteArray)(a4:Int)(a5:List Int)(b0:Int)(b1:ByteArray)(b2:List IA)(b3:ByteArray)(b4:Int)(b5:List Int):Ev (fun k=>impl_sameNode.j0 k true a0 a1 a2 a3 a4 a5 b0 b1 b2 b3 b4 b5) false:=by
 refine ev_succ ?_;simp only[impl_sameNode.j0];exact ev_pos (by simp) (Ev.now _)
theorem node_same(x y:IN)(h2:x.f2.length≤1048576)(h5:x.f5.length≤1048576): ∃r,Ev (fun k=>impl_sameNode.f k x.f0 x.f1 x.f2 x.f3 x.f4 x.f5 y.f0 y.f1 y.f2 y.f3 y.f4 y.f5) r∧(r=true↔x=y):=by
 unfold impl_sameNode.f;rw[node_eq];by_cases c0:x.f0=y.f0
 ·by_cases c1:x.f1=y.f1
  ·by_cases c3:x.f3=y.f3
   ·by_cases c4:x.f4=y.f4
    ·obtain⟨r2,e2,hr2⟩:=attr_same x.f2 y.f2 h2;obtain⟨r5,e5,hr5⟩:=int_same x.f5 y.f5 h5;cases r2 with
     |true=>
      refine⟨r5,ev_pos c0 (ev_pos (by rw[c1]) (ev_pos (by rw[c3]) ?_)),by simp [c0,c1,c3,c4,hr2.1 rfl,hr5]⟩;refine ev_succ ?_;simp only[impl_sameNode.j0];exact ev_neg (by simp [c4]) (Ev.bind e2 (ev_pos rfl (Ev.bind e5 (Ev.now _))))
     |false=>
      have hn: ¬x.f2=y.f2:=fun e=>by have:=hr2.2 e;cases this
      refine⟨false,ev_pos c0 (ev_pos (by rw[c1]) (ev_pos (by rw[c3]) ?_)),by simp [hn]⟩;refine ev_succ ?_;simp only[impl_sameNode.j0];exact ev_neg (by simp [c4]) (Ev.bind e2 (ev_neg (by simp) (Ev.now _)))
    ·refine⟨false,ev_pos c0 (ev_pos (by rw[c1]) (ev_pos (by rw[c3]) ?_)),by simp [c4]⟩;rw[show(x.f4 !=y.f4)=true by simp [bne,c4]];exact j0_true _ _ _ _ _ _ _ _ _ _ _ _
   ·exact⟨false,ev_pos c0 (ev_pos (by rw[c1]) (ev_neg (fun e=>c3 (toList_iff.1 e)) (j0_true _ _ _ _ _ _ _ _ _ _ _ _))),by simp [c3]⟩
  ·exact⟨false,ev_pos c0 (ev_neg (fun e=>c1 (toList_iff.1 e)) (j0_true _ _ _ _ _ _ _ _ _ _ _ _)),by simp [c1]⟩
 ·exact⟨false,ev_neg c0 (j0_true _ _ _ _ _ _ _ _ _ _ _ _),by simp [c0]⟩
def shortN(l:List IN):Prop:=l.length≤1048576∧ ∀x∈l,x.f2.length≤1048576∧x.f5.length≤1048576
theorem impl_same(a b:List IN)(ha:shortN a): ∃r,Ev (fun k=>impl_sameTree.f k a b) r∧(r=true↔a=b):=by
 have hla:=ha.1;unfold impl_sameTree.f slices_EqualFunc.f;by_cases c:a.length=b.length
 ·have hx: ∃r,Ev (fun k=>slices_EqualFunc.l0 k a b 0) r∧(r=true↔a=b):=by
   refine loop_eq0 a b c (fun k i=>slices_EqualFunc.l0 k a b (i:Int)) ?_ ?_ ?_
   ·refine ev_succ ?_;simp only[slices_EqualFunc.l0];exact ev_neg (by omega) (Ev.now _)
   ·intro i h r e hr;have hs:=ha.2 a[i] (List.getElem_mem _);obtain⟨q,hq,hqq⟩:=node_same a[i] (b[i]'(by omega)) hs.1 hs.2;have hq1:q=true:=hqq.2 e;subst hq1;refine ev_succ ?_;simp only[slices_EqualFunc.l0];rw[rdN' h,rdN' (show i<b.length by omega),w64 (x:=(i:Int)+1) (by omega) (by omega),show(i:Int)+1=((i+1:Nat):Int)by omega];exact ev_pos (by omega) (ev_pos (by omega) (ev_pos (by omega) (Ev.bind hq (ev_pos rfl hr))))
   ·intro i h e;have hs:=ha.2 a[i] (List.getElem_mem _);obtain⟨q,hq,hqq⟩:=node_same a[i] (b[i]'(by omega)) hs.1 hs.2;have hq1:q=false:=by cases q with|false=>rfl|true=>exact absurd (hqq.1 rfl) e
    subst hq1;refine ev_succ ?_;simp only[slices_EqualFunc.l0];rw[rdN' h,rdN' (show i<b.length by omega)];exact ev_pos (by omega) (ev_pos (by omega) (ev_pos (by omega) (Ev.bind hq (ev_neg (by simp) (Ev.now _)))))
  obtain⟨r,hr,hrr⟩:=hx;exact⟨r,ev_pos (by omega) hr,hrr⟩
 ·exact⟨false,ev_neg (by omega) (Ev.now _),by simp;intro e;exact c (by rw[e])⟩
theorem getD_set_bool(s:List Bool)(k j:Nat)(hj:j<s.length):(s.set k true).getD j false=true↔s.getD j false=true∨j=k:=by
 by_cases c:k=j
 ·subst c;rw[List.getD_eq_getElem?_getD,List.getElem?_set_self hj];simp
 ·rw[List.getD_eq_getElem?_getD,List.getElem?_set_ne c,←List.getD_eq_getElem?_getD];exact⟨.inl,fun h=>h.resolve_right (fun e=>c e.symm)⟩
theorem kidsRun_ok(P:List Int)(a:Int): ∀(K:List Int) (s:List Bool),s.length=P.length→K.Nodup→(∀k∈K,1≤k∧k<P.length∧P.getD k.toNat 0=a∧s.getD k.toNat false=false)→
 ∃t,kidsRun P 1 a K s=some t∧t.length=P.length∧ ∀j:Nat,j<P.length→(t.getD j false=true↔s.getD j false=true∨(j:Int)∈K):=by
 intro K;induction K with
 |nil=>intro s hs _ _;exact⟨s,rfl,hs,fun j _=>by simp⟩
 |cons k r ih=>
  intro s hs hn hk;obtain⟨hn1,hn2⟩:=List.nodup_cons.1 hn;have h1:=hk k List.mem_cons_self;obtain⟨t,e,hl,ht⟩:=ih (s.set k.toNat true) (by rw[List.length_set];exact hs) hn2 (fun q hq=>by
   have h2:=hk q (List.mem_cons_of_mem _ hq);refine⟨h2.1,h2.2.1,h2.2.2.1, ?_⟩;have hne:k.toNat≠q.toNat:=fun e=>hn1 (by
    have:q=k:=by omega
    rw[←this];exact hq)
   rw[List.getD_eq_getElem?_getD,List.getElem?_set_ne hne,←List.getD_eq_getElem?_getD];exact h2.2.2.2)
  refine⟨t, ?_,hl,fun j hj=> ?_⟩
  ·unfold kidsRun;rw[if_pos h1];exact e
  ·rw[ht j hj,getD_set_bool s _ j (by omega),List.mem_cons];have:j=k.toNat↔(j:Int)=k:=by omega
   rw[this];constructor
   ·rintro ((h|h)|h)
    ·exact .inl h
    ·exact .inr (.inl h)
    ·exact .inr (.inr h)
   ·rintro (h|h|h)
    ·exact .inl (.inl h)
    ·exact .inl (.inr h)
    ·exact .inr h
theorem kidsAll_ok(P:List Int): ∀(K:List (List Int)) (i:Int) (s:List Bool),s.length=P.length→(∀(j:Nat) (h:j<K.length),K[j].Nodup∧ ∀k∈K[j],1≤k∧k<P.length∧P.getD k.toNat 0=i+j)→(∀j:Nat,j<P.length→s.getD j false=true→P.getD j 0<i)→
 ∃t,kidsAll P 1 i K s=some t∧ ∀j:Nat,j<P.length→(t.getD j false=true↔s.getD j false=true∨ ∃(q:Nat) (h:q<K.length),(j:Int)∈K[q]):=by
 intro K;induction K with
 |nil=>intro i s _ _ _;exact⟨s,rfl,fun j _=>by simp⟩
 |cons k r ih=>
  intro i s hs hk hb;have h0:=hk 0 (by simp);rw[List.getElem_cons_zero]at h0;obtain⟨u,e1,hl,hu⟩:=kidsRun_ok P i k s hs h0.1 (fun q hq=>by
   have h1:=h0.2 q hq;refine⟨h1.1,h1.2.1,by have:=h1.2.2;simpa using this, ?_⟩;cases hsq:s.getD q.toNat false with
   |false=>rfl
   |true=>
    have:=hb q.toNat (by omega) hsq;have:=h1.2.2;omega)
  obtain⟨t,e2,ht⟩:=ih (i+1) u hl (fun j hj=>by
   have h1:=hk (j+1) (by simpa using hj);rw[List.getElem_cons_succ]at h1;exact⟨h1.1,fun q hq=>by have:=h1.2 q hq;exact⟨this.1,this.2.1,by rw[this.2.2];omega⟩⟩) (fun j hj h1=>by
   rcases (hu j hj).1 h1 with h2|h2
   ·have:=hb j hj h2;omega
   ·have:=(h0.2 _ h2).2.2;rw[Int.toNat_natCast]at this;omega)
  refine⟨t, ?_,fun j hj=> ?_⟩
  ·unfold kidsAll;rw[e1];exact e2
  ·rw[ht j hj,hu j hj];constructor
   ·rintro ((h|h)|⟨q,hq,h⟩)
    ·exact .inl h
    ·exact .inr ⟨0,by simp,h⟩
    ·exact .inr ⟨q+1,by simpa using hq,h⟩
   ·rintro (h|⟨q,hq,h⟩)
    ·exact .inl (.inl h)
    ·cases q with
     |zero=>exact .inl (.inr h)
     |succ q=>exact .inr ⟨q,by simpa using hq,h⟩
theorem right_of{ys:List IN}(h1:1≤ys.length)(h5:ys.length≤500)(hn: ∀(i:Nat) (h:i<ys.length),nodeP ys[i] i)(hp: ∀i,inT ys i→(i=0∧pa ys i= -1)∨(0≤pa ys i∧pa ys i<i))
 (hk: ∀i,inT ys i→(kd ys i).Nodup∧ ∀k∈kd ys i,1≤k∧k<ys.length∧pa ys k=i)(hs: ∀i,inT ys i→0≤pa ys i→i∈kd ys (pa ys i)):rightP ys:=by
 have hP: ∀j:Nat,j<(parsOf ys).length→(parsOf ys).getD j 0=pa ys j:=fun j hj=>by
  rw[parsOf_length]at hj;have:=pars_at (xs:=ys) (i:=(j:Int)) (by omega) (by omega) 0
  rwa [Int.toNat_natCast]at this
 have hup: ∀i:Int,∀k:Nat,ups (parsOf ys) i k≤i- k∨ups (parsOf ys) i k<0:=by
  intro i k;induction k with
  |zero=>exact .inl (by show i≤i- 0;omega)
  |succ k ih=>
   by_cases c:ups (parsOf ys) i k<0
   ·exact .inr (by have:=ups_neg c 1;exact this)
   ·have ih:=ih.resolve_right c;show parAt (parsOf ys) (ups (parsOf ys) i k)≤_∨parAt (parsOf ys) (ups (parsOf ys) i k)<0
    generalize ups (parsOf ys) i k=u at*;by_cases c2:u<ys.length
    ·rw[parAt_in (by omega) (by rw[parsOf_length];exact c2),hP u.toNat (by rw[parsOf_length];omega),Int.toNat_of_nonneg (by omega)];rcases hp u ⟨by omega,c2⟩with⟨_,e⟩|⟨e1,e2⟩
     ·right;omega
     ·left;omega
    ·right
     unfold parAt;rw[if_pos (by omega),List.getD_eq_getElem?_getD,List.getElem?_eq_none (by rw[parsOf_length];omega)];simp
 refine⟨h1,h5,hn,fun j hj=> ?_, ?_⟩
 ·rw[hP j hj];rw[parsOf_length]at hj⊢;rcases hp (j:Int) ⟨by omega,by omega⟩with⟨_,e⟩|⟨e1,e2⟩<;>omega
 ·unfold linksS;obtain⟨t,e,ht⟩:=kidsAll_ok (parsOf ys) (kidsOf ys) 0 (List.replicate (parsOf ys).length false) (by simp) (fun j hj=>by
   rw[kidsOf_length]at hj;have hin:inT ys (j:Int):=⟨by omega,by omega⟩
   have e2:(kidsOf ys)[j]'(by rw[kidsOf_length];exact hj)=kd ys (j:Int):=by
    unfold kd kidsOf;rw[rdN' hj,List.getElem_map]
   rw[e2];obtain⟨g1,g2⟩:=hk _ hin;refine⟨g1,fun k hk=> ?_⟩;obtain⟨q1,q2,q3⟩:=g2 k hk;rw[parsOf_length];refine⟨q1,q2, ?_⟩;rw[hP k.toNat (by rw[parsOf_length];omega),Int.toNat_of_nonneg (by omega),q3];omega) (fun j hj h=>by
   rw[List.getD_eq_getElem?_getD,List.getElem?_eq_getElem (by simpa using hj)]at h;simp at h)
  rw[e];simp only[List.all_eq_true,List.mem_range,Bool.and_eq_true,beq_iff_eq];intro i hi;have hi2:i<ys.length:=by rwa [parsOf_length]at hi
  have hin:inT ys (i:Int):=⟨by omega,by omega⟩
  refine⟨?_, ?_⟩
  ·rw[hP i hi];have h0:(List.replicate (parsOf ys).length false).getD i false=false:=by
    rw[List.getD_eq_getElem?_getD,List.getElem?_eq_getElem (by simpa using hi)];simp
   have hti:=ht i hi;rw[h0]at hti;by_cases c:0≤pa ys (i:Int)
   ·rw[decide_eq_true c];refine hti.2 (.inr ⟨(pa ys (i:Int)).toNat, ?_, ?_⟩)
    ·rw[kidsOf_length];rcases hp _ hin with⟨_,e⟩|⟨e1,e2⟩<;>omega
    ·have hpl:(pa ys (i:Int)).toNat<ys.length:=by rcases hp _ hin with⟨_,e⟩|⟨e1,e2⟩<;>omega
     have e2:(kidsOf ys)[(pa ys (i:Int)).toNat]'(by rw[kidsOf_length];exact hpl)=kd ys (pa ys (i:Int)):=by
      have:kd ys (((pa ys (i:Int)).toNat:Nat):Int)=kd ys (pa ys (i:Int)):=by rw[Int.toNat_of_nonneg c]
      rw[←this];unfold kd kidsOf;rw[rdN' hpl,List.getElem_map]
     rw[e2];exact hs _ hin c
   ·rw[decide_eq_false c];cases htd:t.getD i false with
    |false=>rfl
    |true=>
     exfalso
     rcases hti.1 htd with h|⟨q,hq,h⟩
     ·cases h
     ·rw[kidsOf_length]at hq;have e2:(kidsOf ys)[q]'(by rw[kidsOf_length];exact hq)=kd ys (q:Int):=by
       unfold kd kidsOf;rw[rdN' hq,List.getElem_map]
      rw[e2]at h;have:=((hk (q:Int) ⟨by omega,by omega⟩).2 _ h).2.2;omega
  ·rw[upOk_iff,parsOf_length];rcases hup (i:Int) (ys.length+1)with h|h<;>omega
section
variable {xs:List IN}
theorem posT_idx(rt:RT xs){j:Nat}(hj:j<(preT xs 0).length):posT xs (preT xs 0)[j]=(j:Int):=by
 have h:preT xs 0=(preT xs 0).take j++(preT xs 0)[j]::(preT xs 0).drop (j+1):=by
  rw[←List.drop_eq_getElem_cons hj,List.take_append_drop]
 rw[posT_at rt h,List.length_take];omega
theorem idx_of(rt:RT xs){i:Int}(hi:i∈preT xs 0): ∃(j:Nat) (h:j<(preT xs 0).length),(preT xs 0)[j]=i∧posT xs i=(j:Int):=by
 obtain⟨j,hj,e⟩:=List.getElem_of_mem hi;exact⟨j,hj,e,by rw[←e];exact posT_idx rt hj⟩
theorem head_T(rt:RT xs):0<(preT xs 0).length:=by rw[preT_eq rt rt.zero];simp
theorem posT_zero(rt:RT xs):posT xs 0=0:=by
 have:=posT_idx rt (head_T rt);rw[preT_head rt (head_T rt)]at this;exact this
theorem par_before(rt:RT xs): ∀(m:Nat) (i x:Int),inT xs i→x∈pre xs m i→x≠i→ ∃L R,pre xs m i=L++x::R∧pa xs x∈L:=by
 intro m;induction m with
 |zero=>intro i x _ hx;exact absurd hx (by unfold pre;exact List.not_mem_nil)
 |succ m ih=>
  intro i x hi hx hne;rw[pre_succ]at hx⊢;rcases List.mem_cons.1 hx with h|hx
  ·exact absurd h hne
  ·obtain⟨q,hq,hx⟩:=List.mem_flatMap.1 hx;obtain⟨K1,K2,hK⟩:=List.append_of_mem hq;rw[hK,List.flatMap_append,List.flatMap_cons];by_cases c:x=q
   ·subst c;cases m with
    |zero=>exact absurd hx (by unfold pre;exact List.not_mem_nil)
    |succ m=>
     refine⟨i::K1.flatMap (pre xs (m+1)),(kd xs x).flatMap (pre xs m)++K2.flatMap (pre xs (m+1)), ?_, ?_⟩
     ·rw[pre_succ];simp
     ·rw[(rt.kid i hi x hq).2.2];exact List.mem_cons_self
   ·obtain⟨L,R,e,hp⟩:=ih q x (rt.inKid hi hq) hx c;refine⟨i::(K1.flatMap (pre xs m)++L),R++K2.flatMap (pre xs m), ?_, ?_⟩
    ·rw[e];simp
    ·exact List.mem_cons_of_mem _ (List.mem_append.2 (.inr hp))
theorem pos_before(rt:RT xs){x:Int}(hx:x∈preT xs 0)(hne:x≠0):posT xs (pa xs x)<posT xs x:=by
 obtain⟨L,R,e,hp⟩:=par_before rt _ 0 x rt.zero hx hne;rw[posT_at rt (show preT xs 0=L++x::R from e)];unfold posT;rw[show preT xs 0=L++x::R from e,List.idxOf_append,if_pos hp];have:=List.idxOf_lt_length_of_mem hp;omega
theorem kid_of_par(rt:RT xs): ∀(m:Nat) (i x:Int),inT xs i→x∈pre xs m i→x≠i→x∈kd xs (pa xs x):=by
 intro m;induction m with
 |zero=>intro i x _ hx;exact absurd hx (by unfold pre;exact List.not_mem_nil)
 |succ m ih=>
  intro i x hi hx hne;rw[pre_succ]at hx;rcases List.mem_cons.1 hx with h|hx
  ·exact absurd h hne
  ·obtain⟨q,hq,hx⟩:=List.mem_flatMap.1 hx;by_cases c:x=q
   ·subst c;rw[(rt.kid i hi x hq).2.2];exact hq
   ·exact ih q x (rt.inKid hi hq) hx c
theorem tidy_rd(rt:RT xs){i:Int}(hi:i∈preT xs 0):rd_T41 (tidyT xs) (posT xs i)=tndP xs (if i=0 then-1 else posT xs (pa xs i)) i ((kd xs i).map (posT xs)):=by
 obtain⟨j,hj,e,ep⟩:=idx_of rt hi;rw[ep,rdN' (by rw[tidyT_len rt];exact hj)];cases j with
 |zero=>
  rw[preT_head rt hj]at e;subst e;rw[if_pos rfl];rfl
 |succ j=>
  rw[tidyT_at rt j hj,e];have:i≠0:=fun h=>by subst h;rw[posT_zero rt]at ep;omega
  rw[if_neg this];rfl
theorem tidy_kd(rt:RT xs){i:Int}(hi:i∈preT xs 0):kd (tidyT xs) (posT xs i)=(kd xs i).map (posT xs):=by unfold kd;rw[tidy_rd rt hi];rfl
theorem tidy_pa(rt:RT xs){i:Int}(hi:i∈preT xs 0):pa (tidyT xs) (posT xs i)=if i=0 then-1 else posT xs (pa xs i):=by unfold pa;rw[tidy_rd rt hi];rfl
theorem pos_of(rt:RT xs){q:Int}(hq:inT (tidyT xs) q): ∃i,i∈preT xs 0∧posT xs i=q:=by
 have h:=hq.2;rw[tidyT_len rt]at h;refine⟨(preT xs 0)[q.toNat]'(by have:=hq.1;omega),List.getElem_mem _, ?_⟩;rw[posT_idx rt,Int.toNat_of_nonneg hq.1]
theorem pos_inj(rt:RT xs){a b:Int}(ha:a∈preT xs 0)(hb:b∈preT xs 0)(e:posT xs a=posT xs b):a=b:=by
 obtain⟨i,hi,e1,p1⟩:=idx_of rt ha;obtain⟨j,hj,e2,p2⟩:=idx_of rt hb;have:i=j:=by omega
 subst this;rw[←e1,e2]
theorem pos_in(rt:RT xs){i:Int}(hi:i∈preT xs 0):inT (tidyT xs) (posT xs i):=by
 obtain⟨j,hj,_,ep⟩:=idx_of rt hi;rw[ep];exact⟨by omega,by rw[tidyT_len rt];omega⟩
theorem nodup_map_on{f:Int→Int}: ∀ {l:List Int},l.Nodup→(∀a∈l,∀b∈l,f a=f b→a=b)→(l.map f).Nodup
 | [],_,_=>List.nodup_nil
 |x::r,h,hf=>by
  obtain⟨h1,h2⟩:=List.nodup_cons.1 h;rw[List.map_cons,List.nodup_cons];refine⟨fun hm=> ?_,nodup_map_on h2 (fun a ha b hb=>hf a (List.mem_cons_of_mem _ ha) b (List.mem_cons_of_mem _ hb))⟩;obtain⟨y,hy,e⟩:=List.mem_map.1 hm;have:=hf y (List.mem_cons_of_mem _ hy) x List.mem_cons_self e;subst this;exact h1 hy
theorem tidy_right(rt:RT xs):rightP (tidyT xs):=by
 have hl:=tidyT_len rt;have h0:=head_T rt;have hall:(preT xs 0).length≤500:=pre_all rt _ rt.zero;refine right_of (by omega) (by omega) (fun q hq=> ?_) (fun q hq=> ?_) (fun q hq=> ?_) (fun q hq hp=> ?_)
 ·have hq2:q<(preT xs 0).length:=by omega
  obtain⟨i,hi,e⟩:=pos_of rt (q:=(q:Int)) ⟨by omega,by omega⟩;have hin:=preT_in rt rt.zero i hi;have hr:=tidy_rd rt hi;rw[e,rdN' hq]at hr;have hnode:=rt.node i.toNat (by have:=hin.1;have:=hin.2;omega);have ex:xs[i.toNat]'(by have:=hin.1;have:=hin.2;omega)=rd_T41 xs i:=(rdN hin.1 hin.2).symm;rw[ex]at hnode;obtain⟨g1,g2,g3⟩:=hnode;have hiz:((i.toNat:Nat):Int)=0↔(q:Int)=0:=by
   have:=hin.1;constructor
   ·intro h;have:i=0:=by omega
    subst this;rw[←e,posT_zero rt]
   ·intro h;have:i=0:=pos_inj rt hi (by rw[preT_eq rt rt.zero];exact List.mem_cons_self) (by rw[e,posT_zero rt];exact h);omega
  rw[hr];refine⟨?_, ?_,fun h=> ?_⟩
  ·unfold kindP at g1⊢;simp only[tndP,List.length_map];exact g1
  ·show(rd_T41 xs i).f0=1↔_
   rw[←hiz];rw[←g2]
  ·have:i=0:=by have:=hiz.2 h;have:=hin.1;omega
   show(if i=0 then(-1:Int)else _)= -1
   rw[if_pos this]
 ·obtain⟨i,hi,e⟩:=pos_of rt hq;rw[←e,tidy_pa rt hi];by_cases c:i=0
  ·subst c;exact .inl ⟨posT_zero rt,if_pos rfl⟩
  ·rw[if_neg c];exact .inr ⟨by unfold posT;omega,pos_before rt hi c⟩
 ·obtain⟨i,hi,e⟩:=pos_of rt hq;have hin:=preT_in rt rt.zero i hi;rw[←e,tidy_kd rt hi];refine⟨nodup_map_on (rt.once i hin) (fun a ha b hb=>pos_inj rt (kid_T rt hi ha) (kid_T rt hi hb)),fun k hk=> ?_⟩;obtain⟨c,hc,rfl⟩:=List.mem_map.1 hk;have hcT:=kid_T rt hi hc;have hkid:=rt.kid i hin c hc;have hne:c≠0:=by omega
  have hpi:=pos_in rt hcT;have hb:=pos_before rt hcT hne;have:0≤posT xs (pa xs c):=by unfold posT;omega
  refine⟨by omega,hpi.2, ?_⟩;rw[tidy_pa rt hcT,if_neg hne,hkid.2.2]
 ·obtain⟨i,hi,e⟩:=pos_of rt hq;rw[←e,tidy_pa rt hi]at hp;have c:i≠0:=fun c=>by rw[if_pos c]at hp;omega
  rw[←e,tidy_pa rt hi,if_neg c];have hpm:=par_mem rt _ 0 i rt.zero hi c;rw[tidy_kd rt hpm];have hx:=rt.up i (preT_in rt rt.zero i hi);refine List.mem_map.2 ⟨i, ?_,rfl⟩;exact kid_of_par rt _ 0 i rt.zero hi c
theorem tidy_RT(rt:RT xs):RT (tidyT xs):=RT.of (tidy_right rt)
theorem tidy_small(rt:RT xs)(hs:smallT xs):smallT (tidyT xs):=by
 have hall:(preT xs 0).length≤500:=pre_all rt _ rt.zero;have hl:=tidyT_len rt;refine⟨by omega,fun x hx=> ?_⟩;obtain⟨q,hq,e⟩:=List.getElem_of_mem hx;obtain⟨i,hi,ep⟩:=pos_of rt (q:=(q:Int)) ⟨by omega,by omega⟩;have hin:=preT_in rt rt.zero i hi;have h:=smallN_at hs hin.1 hin.2;have hr:=tidy_rd rt hi;rw[ep,rdN' hq,e]at hr;have hp:=(tidy_RT rt).par q ⟨by omega,by omega⟩;have hpa:pa (tidyT xs) (q:Int)=x.f4:=by unfold pa;rw[rdN' hq,e]
 rw[hpa]at hp;have hkd:kd (tidyT xs) (q:Int)=x.f5:=by unfold kd;rw[rdN' hq,e]
 rw[hr]at hp hkd⊢;refine⟨h.1,h.2.1,h.2.2.1,h.2.2.2.1,by omega, ?_,fun k hk=> ?_⟩
 ·show((kd xs i).map (posT xs)).length≤1048576
  rw[List.length_map];exact h.2.2.2.2.2.1
 ·have:=(tidy_RT rt).kid (q:Int) ⟨by omega,by omega⟩ k (by rw[hkd];exact hk);omega
theorem pre_tidy(rt:RT xs): ∀(m:Nat) (i:Int),i∈preT xs 0→pre (tidyT xs) m (posT xs i)=(pre xs m i).map (posT xs):=by
 intro m;induction m with
 |zero=>intro i _;rfl
 |succ m ih=>
  intro i hi;rw[pre_succ,pre_succ,tidy_kd rt hi,List.map_cons,List.map_flatMap,List.flatMap_map]
  congr 1
  exact flatMap_congr' (fun k hk=>ih k (kid_T rt hi hk))
theorem pre_stay(rt:RT xs): ∀d:Nat,pre xs (xs.length+1+d) 0=preT xs 0:=by
 intro d;induction d with
 |zero=>rfl
 |succ d ih=>rw[←ih];exact pre_more rt (xs.length+1+d) 0 0 rt.zero (deep_zero rt.zero) (by omega)
theorem zero_T(rt:RT xs):(0:Int)∈preT xs 0:=by rw[preT_eq rt rt.zero];exact List.mem_cons_self
theorem tidy_le(rt:RT xs):(tidyT xs).length≤xs.length:=by rw[tidyT_len rt];exact preT_len rt rt.zero
theorem preT_tidy(rt:RT xs):preT (tidyT xs) 0=(preT xs 0).map (posT xs):=by
 have hle:=tidy_le rt;have h:=pre_stay (tidy_RT rt) (xs.length- (tidyT xs).length);rw[show(tidyT xs).length+1+(xs.length- (tidyT xs).length)=xs.length+1 by omega]at h;rw[←h];have:=pre_tidy rt (xs.length+1) 0 (zero_T rt);rw[posT_zero rt]at this;exact this
theorem pos_tidy(rt:RT xs){i:Int}(hi:i∈preT xs 0):posT (tidyT xs) (posT xs i)=posT xs i:=by
 obtain⟨j,hj,e,ep⟩:=idx_of rt hi;have hj2:j<(preT (tidyT xs) 0).length:=by rw[preT_tidy rt,List.length_map];exact hj
 have h:=posT_idx (tidy_RT rt) hj2;have e2:(preT (tidyT xs) 0)[j]=posT xs i:=by
  have:(preT (tidyT xs) 0)[j]'hj2=((preT xs 0).map (posT xs))[j]'(by rw[List.length_map];exact hj):=by congr 1;exact preT_tidy rt
  rw[this,List.getElem_map,e]
 rw[e2]at h;rw[h,ep]
theorem tidy_tidy(rt:RT xs):tidyT (tidyT xs)=tidyT xs:=by
 have rt':=tidy_RT rt;have hlen:(tidyT (tidyT xs)).length=(tidyT xs).length:=by rw[tidyT_len rt',preT_tidy rt,List.length_map,tidyT_len rt]
 refine List.ext_getElem hlen (fun q h1 h2=> ?_);obtain⟨i,hi,ep⟩:=pos_of rt (q:=(q:Int)) ⟨by omega,by omega⟩;have hi':posT xs i∈preT (tidyT xs) 0:=by rw[preT_tidy rt];exact List.mem_map.2 ⟨i,hi,rfl⟩
 have hr:=tidy_rd rt hi;have hr':=tidy_rd rt' hi';rw[pos_tidy rt hi,ep,rdN' h1]at hr';rw[ep,rdN' h2]at hr;have hx:rd_T41 (tidyT xs) (q:Int)=(tidyT xs)[q]:=rdN' h2;rw[hr',hr];unfold tndP;rw[hx,hr];have hk:(kd (tidyT xs) (q:Int)).map (posT (tidyT xs))=(kd xs i).map (posT xs):=by
  rw[←ep,tidy_kd rt hi,List.map_map];refine List.map_congr_left (fun k hk=> ?_);exact pos_tidy rt (kid_T rt hi hk)
 rw[hk];have hz:(q:Int)=0↔i=0:=by
  constructor
  ·intro h;exact pos_inj rt hi (zero_T rt) (by rw[ep,posT_zero rt];exact h)
  ·intro h;rw[←ep,h,posT_zero rt]
 unfold tndP
 congr 1
 by_cases c:i=0
 ·rw[if_pos c,if_pos (hz.2 c)]
 ·rw[if_neg c,if_neg (fun h=>c (hz.1 h)),←ep,tidy_pa rt hi,if_neg c,pos_tidy rt (par_mem rt _ 0 i rt.zero hi c)]
end
end Go.Proofs.YtlnmmcipioagaaaGreatDoor.Y
