/- A drawn tree that is tidied is right and the same, has no more nodes, each behind its parent, the same text and the same printed form; of a tree that is not right there is none. (A plain statement over numbers and lists; the row behind it carries it to the program.) Conditions: none beyond the row's own. -/
import Derived.Test.YtlnmmcipioagaaaGreatDoorKFnTidyy2
namespace Go.Proofs.YtlnmmcipioagaaaGreatDoor.Pure
open Go.RowKit Go.Proofs.YtlnmmcipioagaaaGreatDoor.X Go.Proofs.YtlnmmcipioagaaaGreatDoorW.PrintWords Go.Proofs.YtlnmmcipioagaaaGreatDoorW.PrintLast Go.Proofs.YtlnmmcipioagaaaGreatDoorW.PrintMore Go.Proofs.YtlnmmcipioagaaaGreatDoor.Y
set_option linter.unusedVariables false
set_option linter.unusedSimpArgs false
section
variable {xs:List IN}
theorem txt_map(rt:RT xs): ∀l:List Int,(∀i∈l,i∈preT xs 0)→txtOf (tidyT xs) (l.map (posT xs))=txtOf xs l
  | [],_=>rfl
  |i::r,h=>by
    have e:txt1 (tidyT xs) (posT xs i)=txt1 xs i:=by
      unfold txt1;rw[tidy_rd rt (h i List.mem_cons_self)];rfl
    simp only[List.map_cons,txtOf];rw[e,txt_map rt r (fun k hk=>h k (List.mem_cons_of_mem _ hk))]
theorem prK_map{f g:Int→ByteArray}{p:Int→Int}: ∀l:List Int,(∀i∈l,f (p i)=g i)→prK f (l.map p)=prK g l
  | [],_=>rfl
  |i::r,h=>by
    simp only[List.map_cons,prK];rw[h i List.mem_cons_self,prK_map r (fun k hk=>h k (List.mem_cons_of_mem _ hk))]
theorem prN_tidy(rt:RT xs): ∀(m:Nat) (i:Int),i∈preT xs 0→i≠0→prN (tidyT xs) m (posT xs i)=prN xs m i:=by
  intro m;induction m with
  |zero=>intro i _ _;rfl
  |succ m ih=>
    intro i hi hne;have hp:=par_mem rt _ 0 i rt.zero hi hne;have hin:=preT_in rt rt.zero i hi;have hk:prK (prN (tidyT xs) m) (kd (tidyT xs) (posT xs i))=prK (prN xs m) (kd xs i):=by
      rw[tidy_kd rt hi];exact prK_map _ (fun k hk=>ih k (kid_T rt hi hk) (by have:=(rt.kid i hin k hk).1;omega))
    unfold prN;rw[hk,tidy_pa rt hi,if_neg hne,tidy_rd rt hp,tidy_rd rt hi];have hx: ∀(raw:Bool) (s:ByteArray) (x y:IN),x.f0=y.f0→x.f1=y.f1→x.f2=y.f2→x.f3=y.f3→nodeT raw s x=nodeT raw s y:=by
      intro raw s x y e0 e1 e2 e3;unfold nodeT;rw[e0,e1,e2,e3]
    exact hx _ _ _ _ rfl rfl rfl rfl
theorem prK_tidy(rt:RT xs)(m:Nat):prK (prN (tidyT xs) m) (kd (tidyT xs) 0)=prK (prN xs m) (kd xs 0):=by
  have h:=tidy_kd rt (zero_T rt);rw[posT_zero rt]at h;rw[h];exact prK_map _ (fun k hk=>prN_tidy rt m k (kid_T rt (zero_T rt) hk) (by have:=(rt.kid 0 rt.zero k hk).1;omega))
theorem tidyT_short'(rt:RT xs)(hs:smallT xs):shortN (tidyT xs):=by
  have h:=tidy_small rt hs;unfold shortN;exact⟨by have:=h.1;omega,fun x hx=>⟨(h.2 x hx).2.1,(h.2 x hx).2.2.2.2.2.1⟩⟩
theorem links_l(rt:RT xs): ∀(d j:Nat),j+d=(tidyT xs).length→1≤j→Ev (fun k=>laws_FnTidy.lk k (j:Int) (tidyT xs)) true:=by
  have hl:(tidyT xs).length≤500:=by rw[tidyT_len rt];exact pre_all rt _ rt.zero
  intro d;induction d with
  |zero=>
    intro j h _;refine ev_succ ?_;simp only[laws_FnTidy.lk];exact ev_neg (by omega) (Ev.now _)
  |succ d ih=>
    intro j h h1;obtain⟨i,hi,e⟩:=pos_of rt (q:=(j:Int)) ⟨by omega,by omega⟩;have hne:i≠0:=fun c=>by subst c;rw[posT_zero rt]at e;omega
    have hb:=pos_before rt hi hne;have hp:=tidy_pa rt hi;rw[if_neg hne,e]at hp;have h0:0≤posT xs (pa xs i):=by unfold posT;omega
    refine ev_succ ?_;simp only[laws_FnTidy.lk];rw[w64 (by omega) (by omega),show(j:Int)+1=((j+1:Nat):Int)by omega];have hp2:(rd_T41 (tidyT xs) (j:Int)).f4=posT xs (pa xs i):=hp;exact ev_pos (by omega) (ev_pos (by omega) (ev_pos ⟨by omega,by omega⟩ (ih (j+1) (by omega) (by omega))))
theorem TreeOk_ev{b:Bool}(hs:smallT xs)(h:b=true↔rightP xs):Ev (fun k=>impl_TreeOk.f k xs) b∧Ev (fun k=>spec_TreeOk.f k xs) b:=by
  obtain⟨u,hu,hu2⟩:=impl_TreeOk_p hs;obtain⟨v,hv,hv2⟩:=spec_TreeOk_p hs;have e:=bool_iff hu2 h;have e2:=bool_iff hv2 h;subst e;subst e2;exact⟨hu,hv⟩
end
theorem DrawTreeTidy_p(l:List Int)(hl:l.length≤1048576):EvP (fun k=>spec_DrawTreeTidy.f k l) smallT:=by
  unfold spec_DrawTreeTidy.f;refine EvP.bind (l1New_p l hl) (fun c hc=> ?_);obtain⟨rfl,hc⟩:=hc;exact EvP.bind (l6DrawTree_p c.1 hl _ _ hc) (fun t ht=>EvP.some ht.1)
theorem FnTidy:laws_FnTidy.Pure:=by
  intro l _ _;refine Ev.rounds (g:=fun k=>laws_FnTidy.f k l) ?_;unfold laws_FnTidy.f laws_big.f;simp only[Option.bind_some];by_cases hb:(l.length:Int)>1048576
  · exact ev_pos (by simpa using hb) (Ev.now _)
  · refine ev_neg (by simpa using hb) ?_;refine EvP.ev (EvP.bind (DrawTreeTidy_p l (by omega)) (fun xs hs=> ?_));by_cases hr:rightP xs
    · have rt:=RT.of hr;have rt':=tidy_RT rt;have hr':=tidy_right rt;have hs':=tidy_small rt hs;have hok:=TreeOk_ev (b:=true) hs ⟨fun _=>hr,fun _=>rfl⟩;have hok':=TreeOk_ev (b:=true) hs' ⟨fun _=>hr',fun _=>rfl⟩;have ht1:Ev (fun k=>impl_TreeTidy.f k xs) (tidyT xs):=by unfold impl_TreeTidy.f;exact Ev.bind hok.1 (ev_pos rfl (impl_tidy_ev rt hs))
      have ht2:Ev (fun k=>impl_TreeTidy.f k (tidyT xs)) (tidyT xs):=by
        have:=impl_tidy_ev rt' hs';rw[tidy_tidy rt]at this;unfold impl_TreeTidy.f;exact Ev.bind hok'.1 (ev_pos rfl this)
      have hsame:Ev (fun k=>impl_TreeSame.f k xs (tidyT xs)) true:=by
        obtain⟨b,hb,hb2⟩:=impl_same (tidyT xs) (tidyT xs) (tidyT_short' rt hs);have e:=hb2.2 rfl;subst e;have h2:=impl_tidy_ev rt' hs';rw[tidy_tidy rt]at h2;unfold impl_TreeSame.f;exact Ev.bind hok.1 (ev_pos rfl (Ev.bind hok'.1 (ev_pos rfl (Ev.bind (impl_tidy_ev rt hs) (Ev.bind h2 hb)))))
      have hlk:=links_l rt ((tidyT xs).length- 1) 1 (by have:=rt'.one;omega) (by omega);obtain⟨s1,_,hx2,_,hx4⟩:=TextOf_both hs' 0 (by omega);obtain⟨s2,hy1,_,_,hy4⟩:=TextOf_both hs 0 (by omega);have e1:=hx4 hr' rt'.zero;have e2:=hy4 hr rt.zero;rw[preT_tidy rt,txt_map rt _ (fun i hi=>hi)]at e1;have hle:=tidy_le rt;obtain⟨_,hp1⟩:=PrintOf_p hs' hr' (xs.length+1) (by omega);obtain⟨hp2,_⟩:=PrintOf_p hs hr (xs.length+1) (Nat.le_refl _);rw[prK_tidy rt]at hp1;subst e1;subst e2;exact EvP.of (Ev.bind ht1 (Ev.bind hok.2 (ev_pos rfl (Ev.bind hok'.1 (Ev.bind hsame (Ev.bind ht2 (Ev.bind hlk (Ev.bind hx2 (Ev.bind hy1 (Ev.bind hp1 (Ev.bind hp2 (ev_pos ⟨⟨rfl,rfl,hle⟩,rfl,rfl,rfl⟩ (Ev.now _))))))))))))) rfl
    · have hok:=TreeOk_ev (b:=false) hs ⟨fun h=>(by cases h),fun h=>absurd h hr⟩;have ht:Ev (fun k=>impl_TreeTidy.f k xs) []:=by unfold impl_TreeTidy.f;exact Ev.bind hok.1 (ev_neg (by simp) (Ev.now _))
      have hsame:Ev (fun k=>impl_TreeSame.f k xs xs) false:=by unfold impl_TreeSame.f;exact Ev.bind hok.1 (ev_neg (by simp) (Ev.now _))
      exact EvP.of (Ev.bind ht (Ev.bind hok.2 (ev_neg (by simp) (Ev.bind hsame (ev_pos ⟨rfl,rfl⟩ (Ev.now _)))))) rfl

end Go.Proofs.YtlnmmcipioagaaaGreatDoor.Pure
