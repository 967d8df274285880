/- Plain lemmas over numbers and lists for FnTidy. Conditions: as each states. -/
import Derived.Lib.Bytes
import Derived.Lib.LazyBuf
import Derived.Lib.Strings
import Derived.Lib.ReplaceLaws
import Derived.Lib.IndexMore
import Derived.Test.YtlnmmcipioagaaaGreatDoorKFnTidyx5
set_option maxHeartbeats 64000000
set_option maxRecDepth 100000
namespace Go.Proofs.YtlnmmcipioagaaaGreatDoor.Y
open Go.RowKit Go.Proofs.YtlnmmcipioagaaaGreatDoor.X Go.Proofs.YtlnmmcipioagaaaGreatDoorW.PrintWords Go.Proofs.YtlnmmcipioagaaaGreatDoorW.PrintLast Go.Proofs.YtlnmmcipioagaaaGreatDoorW.PrintMore Go.Proofs.YtlnmmcipioagaaaGreatDoor.Y
set_option linter.unusedVariables false
set_option linter.unusedSimpArgs false
theorem wf64{x:Int}(h:(Lit.int .i64 x).wf=true): -9223372036854775808≤x∧x≤9223372036854775807:=by
 simp only[Lit.wf,Bool.and_eq_true,decide_eq_true_eq]at h;exact h
theorem wf8{x:Int}(h:(Lit.int .u8 x).wf=true):0≤x∧x≤255:=by
 simp only[Lit.wf,Bool.and_eq_true,decide_eq_true_eq]at h;exact h
theorem w64{x:Int}(h: -9223372036854775808≤x)(h':x≤9223372036854775807):wrap64 x=x:=by unfold wrap64;omega
theorem w64_range(x:Int): -9223372036854775808≤wrap64 x∧wrap64 x≤9223372036854775807:=by unfold wrap64;omega
theorem ev_pos{α:Type}{c:Prop}[Decidable c]{g f:Nat→Option α}{r:α}(hc:c)(h:Ev g r):Ev (fun k=>if c then g k else f k) r:=by
 simpa only[if_pos hc]using h
theorem ev_neg{α:Type}{c:Prop}[Decidable c]{g f:Nat→Option α}{r:α}(hc: ¬c)(h:Ev f r):Ev (fun k=>if c then g k else f k) r:=by
 simpa only[if_neg hc]using h
theorem ev_const{α:Type}{g:Option α}{r:α}(h:g=some r):Ev (fun _=>g) r:=⟨0,fun _ _=>h⟩
theorem ev_some{α:Type}{r r':α}(h:r=r'):Ev (fun _=>some r) r':=⟨0,fun _ _=>by rw[h]⟩
theorem ev_bindS{α β:Type}{g:Option α}{f:Nat→α→Option β}{a:α}{r:β}(h:g=some a)(k:Ev (fun n=>f n a) r):Ev (fun n=>g.bind (f n)) r:=by
 subst h;exact k
theorem rd_app_left{xs ys:List Int}{i:Int}(h0:0≤i)(h:i<xs.length):rd (xs++ys) i=rd xs i:=by
 unfold rd;rw[List.getD_eq_getElem?_getD,List.getD_eq_getElem?_getD,List.getElem?_append_left (by omega)]
theorem rd_drop{xs:List Int}{i:Int}{v:Int}{ys:List Int}(h:xs.drop i.toNat=v::ys):rd xs i=v:=by
 unfold rd;have:xs[i.toNat]? =some v:=by
  have:=congrArg (fun l=>l[0]?) h;simpa using this
 rw[List.getD_eq_getElem?_getD,this];rfl
theorem ev_succ{α:Type}{g:Nat→Option α}{r:α}(h:Ev (fun k=>g (k+1)) r):Ev g r:=Ev.step (fun _=>rfl) h
theorem ev_cast{α:Type}{g:Nat→Option α}{r r':α}(h:Ev g r)(e:r=r'):Ev g r':=by subst e;exact h
def numForm:Nat→Int→List Int
 |0,x=> [x]
 |n+1,x=>if x>127 then(x % 128+128)::numForm n (x / 128)else [x]
theorem numForm_len(n:Nat): ∀x,(numForm n x).length≤n+1:=by
 induction n with
 |zero=>intro x;simp [numForm]
 |succ n ih=>intro x;unfold numForm;split<;>simp [ih]
theorem wraps_i64(n:Int)(h₀:0≤n)(h₁:n<2 ^ 63):IntKind.i64.wrap n=n:=by rw[IntKind.wrap_i64];omega
theorem and127{x:Int}(h0:0≤x)(h1:x≤9223372036854775807):Go.bits .and .i64 x 127=x % 128:=bits_mask .i64 63 (by decide) wraps_i64 7 (by decide) x h0 (by omega)
theorem or128{y:Int}(h0:0≤y)(h1:y<128):Go.bits .or .i64 128 y=128+y:=bits_join .i64 63 (by decide) wraps_i64 7 128 y (by decide) (by decide) (by decide) h0 h1 (by omega)
theorem pow128(x:Int)(n:Nat)(h:x<128 ^ (n+1+1)):x / 128<128 ^ (n+1):=by
 rw[Int.pow_succ]at h;generalize (128:Int) ^ (n+1)=p at*;omega
theorem and_range(x:Int)(m:Nat)(hm:m<2 ^ 31):0≤Go.bits .and .i64 x m∧Go.bits .and .i64 x m≤m:=by
 have h:(BitVec.ofInt IntKind.i64.bits x &&& BitVec.ofInt IntKind.i64.bits (m:Int)).toNat≤m:=by
  rw[BitVec.toNat_and];refine Nat.le_trans Nat.and_le_right ?_;rw[BitVec.ofInt_natCast,BitVec.toNat_ofNat];exact Nat.mod_le _ _
 simp only[Go.bits];generalize (BitVec.ofInt IntKind.i64.bits x &&& BitVec.ofInt IntKind.i64.bits (m:Int)).toNat=t at*;rw[wraps_i64 _ (by omega) (by omega)];omega
theorem l1Byte_ok(l:List Int)(i h:Int)(hl:l.length≤1048576)(h0:0≤i)(h1:i≤l.length): ∃v i' h',spec_l1Byte.f l i h=some (v,i',h')∧(0≤v∧v≤255)∧0≤i'∧i'≤l.length:=by
 unfold spec_l1Byte.f;by_cases c:i<l.length
 ·rw[if_pos c,if_pos h0,w64 (x:=i+1) (by omega) (by omega)];exact⟨_,_,_,rfl,and_range _ 255 (by decide),by omega,by omega⟩
 ·rw[if_neg c];exact⟨_,_,_,rfl,and_range _ 255 (by decide),h0,h1⟩
theorem l1Below_ok(l:List Int)(i h n:Int)(hl:l.length≤1048576)(h0:0≤i)(h1:i≤l.length)(hn:n≤1000000000): ∃v i' h',spec_l1Below.f l i h n=some (v,i',h')∧(0≤v∧(v<n∨n≤0∧v=0))∧0≤i'∧i'≤l.length:=by
 unfold spec_l1Below.f;by_cases c:n≤0
 ·rw[if_pos c];exact⟨_,_,_,rfl,⟨by omega, .inr ⟨c,rfl⟩⟩,h0,h1⟩
 ·rw[if_neg c];by_cases d:n≤256
  ·obtain⟨v,i',h',e,hv,hi⟩:=l1Byte_ok l i h hl h0 h1;rw[if_pos d,e];refine⟨_,_,_,by rw[Option.bind_some,if_neg (by omega)],⟨?_, .inl ?_⟩,hi⟩
   ·rw[Int.tmod_eq_emod_of_nonneg hv.1];exact Int.emod_nonneg _ (by omega)
   ·rw[Int.tmod_eq_emod_of_nonneg hv.1];exact Int.emod_lt_of_pos _ (by omega)
  ·obtain⟨v1,i1,h1',e1,hv1,hi1⟩:=l1Byte_ok l i h hl h0 h1;obtain⟨v2,i2,h2',e2,hv2,hi2⟩:=l1Byte_ok l i1 h1' hl hi1.1 hi1.2;obtain⟨v3,i3,h3',e3,hv3,hi3⟩:=l1Byte_ok l i2 h2' hl hi2.1 hi2.2;obtain⟨v4,i4,h4',e4,hv4,hi4⟩:=l1Byte_ok l i3 h3' hl hi3.1 hi3.2;rw[if_neg d,e1,Option.bind_some,e2,Option.bind_some,e3,Option.bind_some,e4,Option.bind_some,if_neg (by omega)];have hw:wrap64 ((wrap64 ((wrap64 ((wrap64 (v1*16777216))+(wrap64 (v2*65536))))+(wrap64 (v3*256))))+v4)=v1*16777216+v2*65536+v3*256+v4:=by
    rw[w64 (x:=v1*_) (by omega) (by omega),w64 (x:=v2*_) (by omega) (by omega),w64 (x:=v3*_) (by omega) (by omega),w64 (x:=v1*16777216+v2*65536) (by omega) (by omega),w64 (x:=v1*16777216+v2*65536+v3*256) (by omega) (by omega),w64 (by omega) (by omega)]
   refine⟨_,_,_,rfl,⟨?_, .inl ?_⟩,hi4⟩
   ·simp only[hw];rw[Int.tmod_eq_emod_of_nonneg (by omega)];exact Int.emod_nonneg _ (by omega)
   ·simp only[hw];rw[Int.tmod_eq_emod_of_nonneg (by omega)];exact Int.emod_lt_of_pos _ (by omega)
theorem l1New_l0(l:List Int)(hl:l.length≤1048576): ∀(d:Nat) (i h:Int),0≤i→i+d=l.length→ ∃h',Ev (fun k=>spec_l1New.l0 k l h i) (l,0,h'):=by
 intro d;induction d with
 |zero=>
  intro i h h0 hd;exact⟨h,Ev.step (f:=fun _=>some (l,0,h)) (fun k=>by simp only[spec_l1New.l0];rw[if_neg (by omega)]) (Ev.now _)⟩
 |succ d ih=>
  intro i h h0 hd;by_cases c:i<4000
  ·obtain⟨h',e⟩:=ih (i+1) (Go.bits .and .i64 (wrap64 ((wrap64 ((wrap64 (h*131))+(wrap64 (rd l i))))+7)) 1073741823) (by omega) (by omega);refine⟨h',Ev.step (fun k=> ?_) e⟩;simp only[spec_l1New.l0];rw[if_pos (by omega),if_pos c,if_pos h0,w64 (x:=i+1) (by omega) (by omega)]
  ·exact⟨h,Ev.step (f:=fun _=>some (l,0,h)) (fun k=>by simp only[spec_l1New.l0];rw[if_pos (by omega),if_neg c]) (Ev.now _)⟩
theorem l1New_ok(l:List Int)(hl:l.length≤1048576): ∃h',Ev (fun k=>spec_l1New.f k l) (l,0,h'):=by
 unfold spec_l1New.f;exact l1New_l0 l hl l.length 0 _ (by omega) (by omega)
def EvP{α:Type}(g:Nat→Option α)(Q:α→Prop):Prop:= ∃r,Ev g r∧Q r
theorem EvP.bind{α β:Type}{g:Nat→Option α}{f:Nat→α→Option β}{P:α→Prop}{Q:β→Prop}(h:EvP g P)(hf: ∀a,P a→EvP (fun k=>f k a) Q):EvP (fun k=>(g k).bind (f k)) Q:=by
 obtain⟨a,e,hp⟩:=h;obtain⟨r,e2,hq⟩:=hf a hp;exact⟨r,Ev.bind e e2,hq⟩
theorem EvP.pos{α:Type}{c:Prop}[Decidable c]{g f:Nat→Option α}{Q:α→Prop}(hc:c)(h:EvP g Q):EvP (fun k=>if c then g k else f k) Q:=by
 obtain⟨r,e,hq⟩:=h;exact⟨r,ev_pos hc e,hq⟩
theorem EvP.neg{α:Type}{c:Prop}[Decidable c]{g f:Nat→Option α}{Q:α→Prop}(hc: ¬c)(h:EvP f Q):EvP (fun k=>if c then g k else f k) Q:=by
 obtain⟨r,e,hq⟩:=h;exact⟨r,ev_neg hc e,hq⟩
theorem EvP.ite{α:Type}{c:Prop}[Decidable c]{g f:Nat→Option α}{Q:α→Prop}(h1:c→EvP g Q)(h2: ¬c→EvP f Q):EvP (fun k=>if c then g k else f k) Q:=by
 by_cases hc:c
 ·exact EvP.pos hc (h1 hc)
 ·exact EvP.neg hc (h2 hc)
theorem EvP.some{α:Type}{r:α}{Q:α→Prop}(h:Q r):EvP (fun _=>Option.some r) Q:=⟨r,Ev.now _,h⟩
theorem EvP.const{α:Type}{g:Option α}{P:α→Prop}(h: ∃a,g=Option.some a∧P a):EvP (fun _=>g) P:=by
 obtain⟨a,e,hp⟩:=h;exact⟨a,ev_const e,hp⟩
theorem EvP.succ{α:Type}{g:Nat→Option α}{Q:α→Prop}(h:EvP (fun k=>g (k+1)) Q):EvP g Q:=by
 obtain⟨r,e,hq⟩:=h;exact⟨r,ev_succ e,hq⟩
theorem EvP.mono{α:Type}{g:Nat→Option α}{P Q:α→Prop}(h:EvP g P)(hi: ∀a,P a→Q a):EvP g Q:=by
 obtain⟨r,e,hq⟩:=h;exact⟨r,e,hi r hq⟩
theorem EvP.of{α:Type}{g:Nat→Option α}{r:α}{Q:α→Prop}(h:Ev g r)(hq:Q r):EvP g Q:=⟨r,h,hq⟩
theorem EvP.ev{α:Type}{g:Nat→Option α}{r:α}(h:EvP g (fun x=>x=r)):Ev g r:=by
 obtain⟨x,e,hx⟩:=h;subst hx;exact e
theorem EvP.bindS{α β:Type}{g:Option α}{f:Nat→α→Option β}{P:α→Prop}{Q:β→Prop}(h: ∃a,g=Option.some a∧P a)(hf: ∀a,P a→EvP (fun k=>f k a) Q):EvP (fun k=>g.bind (f k)) Q:=by
 obtain⟨a,rfl,hp⟩:=h;exact hf a hp
theorem l1Byte_p(l:List Int)(i h:Int)(hl:l.length≤1048576)(hi:0≤i∧i≤l.length): ∃a,spec_l1Byte.f l i h=some a∧(0≤a.1∧a.1≤255)∧0≤a.2.1∧a.2.1≤l.length:=by
 obtain⟨v,i',h',e,hv,hj⟩:=l1Byte_ok l i h hl hi.1 hi.2;exact⟨_,e,hv,hj⟩
theorem l1Below_p(l:List Int)(i h n:Int)(hl:l.length≤1048576)(hi:0≤i∧i≤l.length)(hn:n≤1000000000): ∃a,spec_l1Below.f l i h n=some a∧(0≤a.1∧(a.1<n∨n≤0∧a.1=0))∧0≤a.2.1∧a.2.1≤l.length:=by
 obtain⟨v,i',h',e,hv,hj⟩:=l1Below_ok l i h n hl hi.1 hi.2 hn;exact⟨_,e,hv,hj⟩
theorem l1New_p(l:List Int)(hl:l.length≤1048576):EvP (fun k=>spec_l1New.f k l) (fun a=>a.1=l∧0≤a.2.1∧a.2.1≤(l.length:Int)):=by
 obtain⟨h',e⟩:=l1New_ok l hl;exact⟨_,e,rfl,by simp,by simp⟩
theorem l1Pick_p(l:List Int)(i h:Int)(m:List ByteArray)(hl:l.length≤1048576)(hi:0≤i∧i≤l.length)(hm:0<m.length)(hm2:m.length≤1000): ∃a,spec_l1Pick.f l i h m=some a∧a.1∈m∧0≤a.2.1∧a.2.1≤l.length:=by
 unfold spec_l1Pick.f;obtain⟨b,e,hv,hj⟩:=l1Below_p l i h m.length hl hi (by omega);rw[e,Option.bind_some,if_pos hv.1,if_pos (by omega)];refine⟨_,rfl, ?_,hj⟩;show rdOf ByteArray.empty m b.1∈m
 unfold rdOf;rw[List.getD_eq_getElem?_getD,List.getElem?_eq_getElem (by omega)];exact List.getElem_mem _
theorem l4DrawText_p(l:List Int)(i h:Int)(hl:l.length≤1048576)(hi:0≤i∧i≤l.length): ∃a,spec_l4DrawText.f l i h=some a∧a.1.size≤20∧0≤a.2.1∧a.2.1≤l.length:=by
 unfold spec_l4DrawText.f;obtain⟨b,e,hv,hj⟩:=l1Pick_p l i h [(⟨#[]⟩:ByteArray),(⟨#[97]⟩:ByteArray),(⟨#[120,32,121]⟩:ByteArray),(⟨#[195,169]⟩:ByteArray),(⟨#[60,98,62]⟩:ByteArray),(⟨#[34]⟩:ByteArray),(⟨#[38]⟩:ByteArray),(⟨#[194,160,122]⟩:ByteArray),(⟨#[49]⟩:ByteArray)] hl hi (by simp) (by simp);rw[e,Option.bind_some];refine⟨_,rfl, ?_,hj⟩;have: ∀s∈ [(⟨#[]⟩:ByteArray),(⟨#[97]⟩:ByteArray),(⟨#[120,32,121]⟩:ByteArray),(⟨#[195,169]⟩:ByteArray),(⟨#[60,98,62]⟩:ByteArray),(⟨#[34]⟩:ByteArray),(⟨#[38]⟩:ByteArray),(⟨#[194,160,122]⟩:ByteArray),(⟨#[49]⟩:ByteArray)],s.size≤20:=by decide
 exact this _ hv
theorem l1Once_p(l:List Int)(i h n:Int)(hl:l.length≤1048576)(hi:0≤i∧i≤l.length)(hn:n≤1000000000): ∃a,spec_l1Once.f l i h n=some a∧True∧0≤a.2.1∧a.2.1≤l.length:=by
 obtain⟨a,e,_,hj⟩:=l1Below_p l i h n hl hi hn;unfold spec_l1Once.f;rw[e,Option.bind_some];exact⟨_,rfl,True.intro,hj⟩
def pointOk(x:Int):Bool:=decide (0≤x∧x≤1114111) && !decide (55296≤x∧x≤57343)
def utf8(x:Int):List Int:=
 if x<128 then [x]else if x<2048 then [192+x / 64,128+x % 64]else if x<65536 then [224+x / 4096,128+x / 64 % 64,128+x % 64]else [240+x / 262144,128+x / 4096 % 64,128+x / 64 % 64,128+x % 64]
def point(x:Int):Int:=if pointOk x=true then x else 65533
def pointPut(x:Int):List Int:=utf8 (point x)
theorem pointOk_iff(x:Int):pointOk x=true↔(0≤x∧x≤1114111)∧ ¬(55296≤x∧x≤57343):=by unfold pointOk;simp;omega
theorem pointOk_point(x:Int):pointOk (point x)=true:=by
 unfold point;split
 ·assumption
 ·decide
theorem point_of{x:Int}(h:pointOk x=true):point x=x:=by unfold point;rw[if_pos h]
theorem point_range(x:Int):0≤point x∧point x≤1114111:=((pointOk_iff _).1 (pointOk_point x)).1
theorem utf8_len(x:Int):1≤(utf8 x).length∧(utf8 x).length≤4:=by
 unfold utf8;split
 ·simp
 ·split
  ·simp
  ·split<;>simp
theorem pointPut_len(x:Int):1≤(pointPut x).length∧(pointPut x).length≤4:=utf8_len _
theorem utf8_bytes{x:Int}(h0:0≤x)(h1:x≤1114111): ∀b∈utf8 x,0≤b∧b≤255:=by
 intro b hb;unfold utf8 at hb;split at hb
 ·simp at hb;omega
 ·split at hb
  ·simp at hb;omega
  ·split at hb
   ·simp at hb;omega
   ·simp at hb;omega
theorem and63{x:Int}(h0:0≤x)(h1:x≤9223372036854775807):Go.bits .and .i64 x 63=x % 64:=bits_mask .i64 63 (by decide) wraps_i64 6 (by decide) x h0 (by omega)
theorem or192{y:Int}(h0:0≤y)(h1:y<32):Go.bits .or .i64 192 y=192+y:=bits_join .i64 63 (by decide) wraps_i64 5 192 y (by decide) (by decide) (by decide) h0 h1 (by omega)
theorem or224{y:Int}(h0:0≤y)(h1:y<16):Go.bits .or .i64 224 y=224+y:=bits_join .i64 63 (by decide) wraps_i64 4 224 y (by decide) (by decide) (by decide) h0 h1 (by omega)
theorem or240{y:Int}(h0:0≤y)(h1:y<8):Go.bits .or .i64 240 y=240+y:=bits_join .i64 63 (by decide) wraps_i64 3 240 y (by decide) (by decide) (by decide) h0 h1 (by omega)
theorem m256{y:Int}(h0:0≤y)(h1:y<256):y % 256=y:=Int.emod_eq_of_lt h0 h1
def putAll(l:List Int):List Int:=l.flatMap pointPut
theorem putAll_len(l:List Int):l.length≤(putAll l).length∧(putAll l).length≤4*l.length:=by
 induction l with
 |nil=>simp [putAll]
 |cons x xs ih=>
  have:=pointPut_len x;simp only[putAll,List.flatMap_cons,List.length_append,List.length_cons]at*;omega
theorem rd_get{l:List Int}{i:Int}(h0:0≤i)(h:i<l.length):rd l i=l[i.toNat]'(by omega):=by
 unfold rd;rw[List.getD_eq_getElem?_getD,List.getElem?_eq_getElem (by omega)];rfl
theorem drop_cons{l:List Int}{i:Int}(h0:0≤i)(h:i<l.length):l.drop i.toNat=rd l i::l.drop (i+1).toNat:=by
 have e:(i+1).toNat=i.toNat+1:=by omega
 rw[e,rd_get h0 h];exact List.drop_eq_getElem_cons (by omega)
def formN(b:Int):Nat:=if b<128 then 1 else if 194≤b∧b≤223 then 2 else if 224≤b∧b≤239 then 3 else if 240≤b∧b≤244 then 4 else 0
def formX(b:Int):Int:=if b<128 then b else if b≤223 then b- 192 else if b≤239 then b- 224 else b- 240
def low1(b:Int):Int:=if b=224 then 160 else if b=240 then 144 else 128
def high1(b:Int):Int:=if b=237 then 159 else if b=244 then 143 else 191
def mk:Nat→List Int→Int→Int→Nat
 |0,_,_,_=>0
 |_+1,[],_,_=>0
 |d+1,b::r,lo,hi=>if lo≤b∧b≤hi then mk d r 128 191+1 else 0
def vl:Nat→List Int→Int→Int
 |0,_,x=>x
 |_+1,[],x=>x
 |d+1,b::r,x=>vl d r (64*x+b- 128)
def readPt:List Int→Int×Nat
 | []=>(65533,1)
 |b::r=>if formN b=0 then(65533,1)else if mk (formN b- 1) r (low1 b) (high1 b)<formN b- 1 then(65533,mk (formN b- 1) r (low1 b) (high1 b)+1)else(vl (formN b- 1) r (formX b),formN b)
def ur:Nat→List Int→List Int
 |0,_=> []
 |_+1,[]=> []
 |n+1,b::r=>(readPt (b::r)).1::ur n ((b::r).drop (readPt (b::r)).2)
theorem mk_le: ∀(d:Nat) (r:List Int) (lo hi:Int),mk d r lo hi≤d∧mk d r lo hi≤r.length
 |0,r,lo,hi=>by simp [mk]
 |d+1,[],lo,hi=>by simp [mk]
 |d+1,b::r,lo,hi=>by
  unfold mk;split
  ·have:=mk_le d r 128 191;simp only[List.length_cons];omega
  ·simp
theorem formN_le(b:Int):formN b≤4:=by
 unfold formN;split
 ·omega
 ·split
  ·omega
  ·split
   ·omega
   ·split<;>omega
theorem readPt_n(b:Int)(r:List Int):1≤(readPt (b::r)).2∧(readPt (b::r)).2≤(b::r).length:=by
 have h:=mk_le (formN b- 1) r (low1 b) (high1 b);simp only[readPt];by_cases h0:formN b=0
 ·rw[if_pos h0];simp
 ·rw[if_neg h0];by_cases h1:mk (formN b- 1) r (low1 b) (high1 b)<formN b- 1
  ·rw[if_pos h1];simp only[List.length_cons];omega
  ·rw[if_neg h1];simp only[List.length_cons];omega
theorem ur_nil(n:Nat):ur n []= []:=by cases n<;>rfl
theorem ur_len: ∀(n:Nat) (l:List Int),(ur n l).length≤l.length
 |0,l=>by simp [ur]
 |n+1,[]=>by simp [ur]
 |n+1,b::r=>by
  have h:=readPt_n b r;have:=ur_len n ((b::r).drop (readPt (b::r)).2);simp only[ur,List.length_cons,List.length_drop]at*;omega
theorem ur_more: ∀(n m:Nat) (l:List Int),l.length≤n→l.length≤m→ur n l=ur m l:=by
 intro n;induction n with
 |zero=>
  intro m l h _;have:l= []:=List.length_eq_zero_iff.1 (by omega);subst this;rw[ur_nil,ur_nil]
 |succ n ih=>
  intro m l h h';cases l with
  |nil=>rw[ur_nil,ur_nil]
  |cons b r=>
   cases m with
   |zero=>simp at h'
   |succ m=>
    have hn:=readPt_n b r;simp only[List.length_cons]at h h' hn;simp only[ur];rw[ih m _ (by simp only[List.length_drop,List.length_cons];omega) (by simp only[List.length_drop,List.length_cons];omega)]
def urAll(l:List Int):List Int:=ur l.length l
theorem urAll_cons(b:Int)(r:List Int):urAll (b::r)=(readPt (b::r)).1::urAll ((b::r).drop (readPt (b::r)).2):=by
 have hn:=readPt_n b r;show(readPt (b::r)).1::ur r.length _=_
 unfold urAll;rw[ur_more r.length _ _ (by simp only[List.length_drop,List.length_cons]at*;omega) (Nat.le_refl _)]
theorem urAll_len(l:List Int):(urAll l).length≤l.length:=ur_len _ _
def unBom(l:List Int):List Int:=if l.take 3= [239,187,191]then l.drop 3 else l
def utfRead(l:List Int):List Int:=if(l.length:Int)>3000 then []else urAll (unBom l)
theorem unBom_len(l:List Int):(unBom l).length≤l.length:=by unfold unBom;split<;>simp
theorem utfRead_len(l:List Int):(utfRead l).length≤3000∧(utfRead l).length≤l.length:=by
 unfold utfRead;split
 ·simp
 ·have:=urAll_len (unBom l);have:=unBom_len l;omega
theorem rd_bytes{l:List Int}(hw: ∀x∈l,(Lit.int .u8 x).wf=true)(i:Int):0≤rd l i∧rd l i≤255:=by
 unfold rd;rw[List.getD_eq_getElem?_getD];cases h:l[i.toNat]? with
 |none=>simp
 |some v=>exact wf8 (hw v (List.mem_of_getElem? h))
theorem wf_drop{l:List Int}(hw: ∀x∈l,(Lit.int .u8 x).wf=true)(n:Nat): ∀x∈l.drop n,(Lit.int .u8 x).wf=true:=fun x hx=>hw x (List.mem_of_mem_drop hx)
def lim:Nat→Int
 |0=>1099511627776
 |1=>4294967296
 |2=>16777216
 |_=>65536
theorem spec_l1In_eq(x a b:Int):spec_l1In.f x a b=some (decide (a≤x∧x≤b)):=by
 unfold spec_l1In.f;by_cases h:x≥a
 ·rw[if_pos h];congr 1;simp;omega
 ·rw[if_neg h];congr 1;simp;omega
theorem l1Forms_eq(b:Int):spec_l1Forms.f b=some (formN b:Int):=by
 unfold spec_l1Forms.f formN;simp only[spec_l1In_eq,Option.bind_some,decide_eq_true_eq];by_cases a:b<128
 ·simp [a]
 ·simp only[if_neg a];split
  ·rfl
  ·split
   ·rfl
   ·split<;>rfl
theorem l1Fits_eq(b:Int)(c:Int)(x:Int):spec_l1Fits.f b c x=some (decide ((if c=1 then low1 b else 128)≤x∧x≤(if c=1 then high1 b else 191))):=by
 unfold spec_l1Fits.f low1 high1;simp only[spec_l1In_eq,Option.bind_some];by_cases hc:c=1
 ·simp only[if_pos hc];by_cases h1:b=224
  ·subst h1;simp
  ·by_cases h2:b=237
   ·subst h2;simp
   ·by_cases h3:b=240
    ·subst h3;simp
    ·by_cases h4:b=244
     ·subst h4;simp
     ·simp [h1,h2,h3,h4]
 ·simp [hc]
theorem l1Read_l1(l acc:List Int)(hl:l.length≤1000000000)(hw: ∀x∈l,(Lit.int .u8 x).wf=true)(a n:Int)(ha:0≤a)(ha2:a<l.length)(b:Int)(res:List Int): ∀(d:Nat) (c:Nat),1≤c→(c:Int)+d=n→n≤4→(m:Nat)→m=mk d (l.drop (a+c).toNat) (if(c:Int)=1 then low1 b else 128) (if(c:Int)=1 then high1 b else 191)→
 Ev (fun k=>spec_l1Read.j2 k l acc a b n ((c+m:Nat):Int)) res→Ev (fun k=>spec_l1Read.l1 k l acc a b n c) res:=by
 intro d;induction d with
 |zero=>
  intro c h1 hd h4 m hm hj;have:m=0:=by rw[hm];simp [mk]
  subst this;refine Ev.step (f:=fun k=>spec_l1Read.j2 k l acc a b n c) (fun k=> ?_) hj;simp only[spec_l1Read.l1];rw[if_neg (by omega)]
 |succ d ih=>
  intro c h1 hd h4 m hm hj;have e1:wrap64 (a+c)=a+c:=w64 (by omega) (by omega);by_cases hlt:a+c<l.length
  ·rw[drop_cons (by omega) hlt]at hm;have hb:=rd_bytes hw (a+c);unfold mk at hm;by_cases hf:(if(c:Int)=1 then low1 b else 128)≤rd l (a+c)∧rd l (a+c)≤(if(c:Int)=1 then high1 b else 191)
   ·rw[if_pos hf]at hm;refine Ev.step (f:=fun k=>spec_l1Read.l1 k l acc a b n ((c+1:Nat):Int)) (fun k=> ?_) (ih (c+1) (by omega) (by omega) h4 (m- 1) ?_ ?_)
    ·simp only[spec_l1Read.l1,e1,l1Fits_eq,Option.bind_some];rw[w64 (x:=rd l (a+c)) (by omega) (by omega),decide_eq_true hf,if_pos (by omega),if_pos hlt,if_pos (by omega),if_pos rfl,w64 (x:=(c:Int)+1) (by omega) (by omega)];rfl
    ·rw[if_neg (by omega),if_neg (by omega),show a+((c+1:Nat):Int)=a+c+1 by omega];omega
    ·rwa [show c+1+(m- 1)=c+m by omega]
   ·rw[if_neg hf]at hm;subst hm;refine Ev.step (f:=fun k=>spec_l1Read.j2 k l acc a b n c) (fun k=> ?_) hj;simp only[spec_l1Read.l1,e1,l1Fits_eq,Option.bind_some];rw[w64 (x:=rd l (a+c)) (by omega) (by omega),decide_eq_false hf,if_pos (by omega),if_pos hlt,if_pos (by omega),if_neg (by simp)]
  ·rw[List.drop_of_length_le (by omega)]at hm;unfold mk at hm;subst hm;refine Ev.step (f:=fun k=>spec_l1Read.j2 k l acc a b n c) (fun k=> ?_) hj;simp only[spec_l1Read.l1,e1];rw[if_pos (by omega),if_neg hlt]
theorem l1Read_l2(l acc:List Int)(hl:l.length≤1000000000)(hacc:acc.length≤1000000000)(hw: ∀x∈l,(Lit.int .u8 x).wf=true)(a n:Int)(ha:0≤a)(han:a+n≤l.length)(res:List Int): ∀(d:Nat) (c:Nat) (x:Int),1≤c→(c:Int)+d=n→n≤4→(m:Int)→m=vl d (l.drop (a+c).toNat) x→mk d (l.drop (a+c).toNat) 0 255=0∨True→ -lim d≤x→x≤lim d→
 Ev (fun k=>spec_l1Read.l0 k l (acc++ [m]) (a+n)) res→Ev (fun k=>spec_l1Read.l2 k l acc a n x c) res:=by
 intro d;induction d with
 |zero=>
  intro c x h1 hd h4 m hm _ hx0 hx1 hj;simp only[vl]at hm;subst hm;refine Ev.step (f:=fun k=>spec_l1Read.l0 k l (acc++ [m]) (a+n)) (fun k=> ?_) hj;simp only[spec_l1Read.l2];rw[if_neg (by omega),if_pos (by omega),w64 (by omega) (by omega)]
 |succ d ih=>
  intro c x h1 hd h4 m hm _ hx0 hx1 hj;have e1:wrap64 (a+c)=a+c:=w64 (by omega) (by omega);have hlt:a+c<l.length:=by omega
  rw[drop_cons (by omega) hlt]at hm;have hb:=rd_bytes hw (a+c);simp only[vl]at hm;have hL:lim (d+1)≤4294967296∧64*lim (d+1)+255≤lim d:=by
   have:d=0∨d=1∨d=2:=by omega
   rcases this with rfl|rfl|rfl<;>simp [lim]
  refine Ev.step (f:=fun k=>spec_l1Read.l2 k l acc a n (64*x+rd l (a+c)- 128) ((c+1:Nat):Int)) (fun k=> ?_) (ih (c+1) _ (by omega) (by omega) h4 m ?_ (.inr trivial) (by omega) (by omega) hj)
  ·simp only[spec_l1Read.l2,e1];rw[w64 (x:=rd l (a+c)) (by omega) (by omega),w64 (x:=64*x) (by omega) (by omega),w64 (x:=64*x+_) (by omega) (by omega),w64 (x:=_- 128) (by omega) (by omega),w64 (x:=(c:Int)+1) (by omega) (by omega),if_pos (by omega),if_pos (by omega),if_pos hlt];rfl
  ·rw[hm,show a+((c+1:Nat):Int)=a+c+1 by omega]
theorem l1Read_l0(l:List Int)(hl:l.length≤1000000000)(hw: ∀x∈l,(Lit.int .u8 x).wf=true): ∀(d:Nat) (a:Int) (acc:List Int),0≤a→a≤l.length→l.length- a≤d→acc.length≤a→
 Ev (fun k=>spec_l1Read.l0 k l acc a) (acc++urAll (l.drop a.toNat)):=by
 intro d;induction d with
 |zero=>
  intro a acc h0 h1 h2 h3;refine Ev.step (f:=fun _=>some acc) (fun k=> ?_) (ev_some ?_)
  ·simp only[spec_l1Read.l0];rw[if_neg (by omega)]
  ·rw[List.drop_of_length_le (by omega)];simp [urAll,ur]
 |succ d ih=>
  intro a acc h0 h1 h2 h3;by_cases hlt:a<l.length
  ·have hb:=rd_bytes hw a;have hr:=readPt_n (rd l a) (l.drop (a+1).toNat);have hcons:=drop_cons h0 hlt;have hmk:=mk_le (formN (rd l a)- 1) (l.drop (a+1).toNat) (low1 (rd l a)) (high1 (rd l a));have hf4:=formN_le (rd l a);have hlen:(l.drop (a+1).toNat).length=l.length- a.toNat- 1:=by rw[List.length_drop];omega
   rw[hlen]at hmk;rw[hcons,urAll_cons,←hcons];have hdd: ∀m:Nat,(l.drop a.toNat).drop m=l.drop (a+m).toNat:=fun m=>by rw[List.drop_drop];congr 1;omega
   rw[hdd];have key:Ev (fun k=>spec_l1Read.l0 k l (acc++ [(readPt (l.drop a.toNat)).1]) (a+((readPt (l.drop a.toNat)).2:Int))) (acc++(readPt (l.drop a.toNat)).1::urAll (l.drop (a+((readPt (l.drop a.toNat)).2:Int)).toNat)):=by
    rw[←hcons]at hr;rw[List.length_drop]at hr;have:=ih (a+((readPt (l.drop a.toNat)).2:Int)) (acc++ [(readPt (l.drop a.toNat)).1]) (by omega) (by omega) (by omega) (by simp;omega);simpa using this
   generalize hres:acc++(readPt (l.drop a.toNat)).1::urAll (l.drop (a+((readPt (l.drop a.toNat)).2:Int)).toNat)=res at*;rw[hcons]at key;simp only[readPt]at key;refine Ev.step (f:=fun k=>spec_l1Read.l1 k l acc a (rd l a) (formN (rd l a):Int) ((1:Nat):Int)) (fun k=> ?_) ?_
   ·simp only[spec_l1Read.l0,l1Forms_eq,Option.bind_some];rw[if_pos hlt,if_pos h0,w64 (x:=rd l a) (by omega) (by omega)];rfl
   by_cases hz:formN (rd l a)=0
   ·rw[if_pos hz]at key;refine Ev.step (f:=fun k=>spec_l1Read.j2 k l acc a (rd l a) (formN (rd l a):Int) 1) (fun k=> ?_) (Ev.step (f:=fun k=>spec_l1Read.j3 k l acc a (rd l a) (formN (rd l a):Int) 1 true) (fun k=> ?_) (Ev.step (fun k=> ?_) key))
    ·simp only[spec_l1Read.l1];rw[if_neg (by omega)];rfl
    ·simp only[spec_l1Read.j2];rw[if_pos (by omega)]
    ·simp only[spec_l1Read.j3,if_true];rw[if_pos (by omega),w64 (by omega) (by omega)];rfl
   ·rw[if_neg hz]at key;refine l1Read_l1 l acc hl hw a _ h0 hlt (rd l a) res (formN (rd l a)- 1) 1 (by omega) (by omega) (by omega) (mk (formN (rd l a)- 1) (l.drop (a+1).toNat) (low1 (rd l a)) (high1 (rd l a))) rfl ?_;generalize hm:mk (formN (rd l a)- 1) (l.drop (a+1).toNat) (low1 (rd l a)) (high1 (rd l a))=m at*;by_cases hs:m<formN (rd l a)- 1
    ·rw[if_pos hs]at key;refine Ev.step (f:=fun k=>spec_l1Read.j3 k l acc a (rd l a) (formN (rd l a):Int) ((1+m:Nat):Int) true) (fun k=> ?_) (Ev.step (fun k=> ?_) key)
     ·simp only[spec_l1Read.j2];rw[if_neg (by omega),decide_eq_true (by omega)]
     ·simp only[spec_l1Read.j3,if_true];rw[if_pos (by omega),w64 (by omega) (by omega),Nat.add_comm 1 m]
    ·rw[if_neg hs]at key;refine Ev.step (f:=fun k=>spec_l1Read.j3 k l acc a (rd l a) (formN (rd l a):Int) ((1+m:Nat):Int) false) (fun k=> ?_) (Ev.step (f:=fun k=>spec_l1Read.j4 k l acc a (formN (rd l a):Int) (formX (rd l a))) (fun k=> ?_) (Ev.step (f:=fun k=>spec_l1Read.l2 k l acc a (formN (rd l a):Int) (formX (rd l a)) ((1:Nat):Int)) (fun k=> ?_) ?_))
     ·simp only[spec_l1Read.j2];rw[if_neg (by omega),decide_eq_false (by omega)]
     ·simp only[spec_l1Read.j3,Bool.false_eq_true,if_false];have:formN (rd l a)=1∧rd l a<128∨formN (rd l a)=2∧194≤rd l a∧rd l a≤223∨formN (rd l a)=3∧224≤rd l a∧rd l a≤239∨formN (rd l a)=4∧240≤rd l a∧rd l a≤244:=by
       unfold formN at hz⊢;by_cases a1:rd l a<128
       ·simp [a1]
       ·by_cases a2:194≤rd l a∧rd l a≤223
        ·simp [a1,a2]
        ·by_cases a3:224≤rd l a∧rd l a≤239
         ·simp [a1,a2,a3]
         ·by_cases a4:240≤rd l a∧rd l a≤244
          ·simp [a1,a2,a3,a4]
          ·simp [a1,a2,a3,a4]at hz
      have hx:formN (rd l a)=1∧formX (rd l a)=rd l a∨formN (rd l a)=2∧formX (rd l a)=rd l a- 192∨formN (rd l a)=3∧formX (rd l a)=rd l a- 224∨formN (rd l a)=4∧formX (rd l a)=rd l a- 240:=by
       unfold formX;rcases this with⟨h,g⟩|⟨h,g,g'⟩|⟨h,g,g'⟩|⟨h,g,g'⟩
       ·exact .inl ⟨h,by rw[if_pos g]⟩
       ·exact .inr (.inl ⟨h,by rw[if_neg (by omega),if_pos (by omega)]⟩)
       ·exact .inr (.inr (.inl ⟨h,by rw[if_neg (by omega),if_neg (by omega),if_pos (by omega)]⟩))
       ·exact .inr (.inr (.inr ⟨h,by rw[if_neg (by omega),if_neg (by omega),if_neg (by omega)]⟩))
      rcases hx with⟨h,g⟩|⟨h,g⟩|⟨h,g⟩|⟨h,g⟩
      ·rw[h,g];rfl
      ·rw[h,g,w64 (x:=rd l a- 192) (by omega) (by omega)];rfl
      ·rw[h,g,w64 (x:=rd l a- 224) (by omega) (by omega)];rfl
      ·rw[h,g,w64 (x:=rd l a- 240) (by omega) (by omega)];rfl
     ·simp only[spec_l1Read.j4];rfl
     ·have hX: -255≤formX (rd l a)∧formX (rd l a)≤255:=by
       unfold formX;split
       ·omega
       ·split
        ·omega
        ·split<;>omega
      have hL:255≤lim (formN (rd l a)- 1):=by
       unfold lim;split<;>omega
      exact l1Read_l2 l acc hl (by omega) hw a _ h0 (by omega) res (formN (rd l a)- 1) 1 (formX (rd l a)) (by omega) (by omega) (by omega) _ rfl (.inr trivial) (by omega) (by omega) key
  ·refine Ev.step (f:=fun _=>some acc) (fun k=> ?_) (ev_some ?_)
   ·simp only[spec_l1Read.l0];rw[if_neg hlt]
   ·rw[List.drop_of_length_le (by omega)];simp [urAll,ur]
theorem l1Read_ev(l:List Int)(hl:l.length≤1000000000)(hw: ∀x∈l,(Lit.int .u8 x).wf=true):Ev (fun k=>spec_l1Read.f k l) (urAll l):=by
 unfold spec_l1Read.f;simpa using l1Read_l0 l hl hw l.length 0 [] (by omega) (by omega) (by omega) (by simp)
theorem spec_UtfRead_ev(l:List Int)(hw: ∀x∈l,(Lit.int .u8 x).wf=true):Ev (fun k=>spec_UtfRead.f k l) (utfRead l):=by
 unfold spec_UtfRead.f utfRead;by_cases h:(l.length:Int)>3000
 ·simp only[if_pos h];exact Ev.now _
 simp only[if_neg h];have hj: ∀c:Bool,(c=true→3≤l.length)→Ev (fun k=>spec_UtfRead.j0 k l c) (urAll (if c=true then l.drop 3 else l)):=by
  intro c hc;refine ev_succ ?_;simp only[spec_UtfRead.j0];cases c with
  |true=>exact ev_pos rfl (ev_pos (by have:=hc rfl;omega) (Ev.bind (l1Read_ev _ (by simp only[List.length_drop];omega) (wf_drop hw 3)) (Ev.now _)))
  |false=>exact ev_neg (by simp) (Ev.bind (l1Read_ev l (by omega) hw) (Ev.now _))
 by_cases h3:l.length≥3
 ·obtain⟨a,b,c,r,rfl⟩: ∃a b c r,l=a::b::c::r:=by
   match l,h3 with
   |a::b::c::r,_=>exact⟨a,b,c,r,rfl⟩
  have e0:rd (a::b::c::r) 0=a:=rfl;have e1:rd (a::b::c::r) 1=b:=rfl;have e2:rd (a::b::c::r) 2=c:=rfl;refine ev_pos (by omega) (ev_pos (by simp only[List.length_cons];omega) ?_);simp only[e0,e1,e2];have hu:unBom (a::b::c::r)=if(decide (a=239) && decide (b=187) && decide (c=191))=true then(a::b::c::r).drop 3 else a::b::c::r:=by
   unfold unBom;have:(a::b::c::r).take 3= [a,b,c]:=rfl;rw[this];by_cases g:a=239∧b=187∧c=191
   ·obtain⟨rfl,rfl,rfl⟩:=g;simp
   ·rw[if_neg (by simpa using g),if_neg (by simpa [and_assoc]using g)]
  rw[hu];by_cases g1:a=239
  ·refine ev_pos g1 (ev_pos (by simp only[List.length_cons];omega) ?_);by_cases g2:b=187
   ·refine ev_pos g2 (ev_pos (by simp only[List.length_cons];omega) ?_);have:=hj (c==191) (fun _=>h3);rw[show(decide (a=239) && decide (b=187) && decide (c=191))=(c==191)by simp [g1,g2];rfl];exact this
   ·refine ev_neg g2 ?_;rw[show(decide (a=239) && decide (b=187) && decide (c=191))=false by simp [g2]];exact hj false (by simp)
  ·refine ev_neg g1 ?_;rw[show(decide (a=239) && decide (b=187) && decide (c=191))=false by simp [g1]];exact hj false (by simp)
 ·refine ev_neg (by omega) ?_;have:unBom l=l:=by
   unfold unBom;rw[if_neg];intro g;have:=congrArg List.length g;simp at this;omega
  rw[this];exact hj false (by simp)
theorem byte_inj{a b:Int}(ha:0≤a∧a≤255)(hb:0≤b∧b≤255)(h:UInt8.ofNat a.toNat=UInt8.ofNat b.toNat):a=b:=by
 have:=congrArg UInt8.toNat h;simp only[UInt8.toNat_ofNat']at this;omega
theorem bytes_inj: ∀(l m:List Int),(∀x∈l,(Lit.int .u8 x).wf=true)→(∀x∈m,(Lit.int .u8 x).wf=true)→Lib.bytesOf l=Lib.bytesOf m→l=m
 | [],[],_,_,_=>rfl
 | [],b::m,_,_,h=>by simp [Lib.bytesOf]at h
 |a::l,[],_,_,h=>by simp [Lib.bytesOf]at h
 |a::l,b::m,hl,hm,h=>by
  simp only[Lib.bytesOf,List.map_cons,List.cons.injEq]at h;have e1:=byte_inj (wf8 (hl a (by simp))) (wf8 (hm b (by simp))) h.1;have e2:=bytes_inj l m (fun x hx=>hl x (by simp [hx])) (fun x hx=>hm x (by simp [hx])) h.2;rw[e1,e2]
theorem nums_eq(l m:List Int)(hl: ∀x∈l,(Lit.int .u8 x).wf=true)(hm: ∀x∈m,(Lit.int .u8 x).wf=true):((strOfNums l).toList==(strOfNums m).toList)=decide (l=m):=by
 rw[Lib.strOfNums_toList,Lib.strOfNums_toList];by_cases h:l=m
 ·subst h;simp
 ·have:Lib.bytesOf l≠Lib.bytesOf m:=fun e=>h (bytes_inj l m hl hm e)
  simp [h,this]
theorem and31{x:Int}(h0:0≤x)(h1:x≤255):Go.bits .and .u8 x 31=x % 32:=bits_mask .u8 8 (by decide) wraps_u8 5 (by decide) x h0 (by omega)
theorem and15{x:Int}(h0:0≤x)(h1:x≤255):Go.bits .and .u8 x 15=x % 16:=bits_mask .u8 8 (by decide) wraps_u8 4 (by decide) x h0 (by omega)
theorem and7{x:Int}(h0:0≤x)(h1:x≤255):Go.bits .and .u8 x 7=x % 8:=bits_mask .u8 8 (by decide) wraps_u8 3 (by decide) x h0 (by omega)
theorem and63b{x:Int}(h0:0≤x)(h1:x≤255):Go.bits .and .u8 x 63=x % 64:=bits_mask .u8 8 (by decide) wraps_u8 6 (by decide) x h0 (by omega)
theorem formOf_ev(b:Int)(h0:0≤b)(h1:b≤255):Ev (fun k=>impl_formOf.f k b) ((formN b:Int),if formN b=0 then 0 else formX b):=by
 unfold impl_formOf.f;by_cases a:b<128
 ·refine ev_pos a (ev_some ?_);have e:formN b=1:=by unfold formN;rw[if_pos a]
  rw[e];unfold formX;rw[if_pos a,w64 (by omega) (by omega)];rfl
 refine ev_neg a ?_;have step:Ev (fun k=>impl_formOf.j0 k b (decide (194≤b∧b≤223))) ((formN b:Int),if formN b=0 then 0 else formX b):=by
  refine ev_succ ?_;simp only[impl_formOf.j0,decide_eq_true_eq];by_cases c:194≤b∧b≤223
  ·refine ev_pos c (ev_some ?_);have e:formN b=2:=by unfold formN;rw[if_neg a,if_pos c]
   rw[e,and31 h0 h1,w64 (by omega) (by omega)];rw[if_neg (by omega)];unfold formX;rw[if_neg a,if_pos (by omega),show b % 32=b- 192 by omega];rfl
  refine ev_neg c ?_;have step:Ev (fun k=>impl_formOf.j1 k b (decide (224≤b∧b≤239))) ((formN b:Int),if formN b=0 then 0 else formX b):=by
   refine ev_succ ?_;simp only[impl_formOf.j1,decide_eq_true_eq];by_cases d:224≤b∧b≤239
   ·refine ev_pos d (ev_some ?_);have e:formN b=3:=by unfold formN;rw[if_neg a,if_neg c,if_pos d]
    rw[e,and15 h0 h1,w64 (by omega) (by omega)];rw[if_neg (by omega)];unfold formX;rw[if_neg a,if_neg (by omega),if_pos (by omega),show b % 16=b- 224 by omega];rfl
   refine ev_neg d ?_;by_cases e:240≤b∧b≤244
   ·refine ev_pos e.1 (ev_pos e.2 (ev_some ?_));have e4:formN b=4:=by unfold formN;rw[if_neg a,if_neg c,if_neg d,if_pos e]
    rw[e4,and7 h0 h1,w64 (by omega) (by omega)];rw[if_neg (by omega)];unfold formX;rw[if_neg a,if_neg (by omega),if_neg (by omega),show b % 8=b- 240 by omega];rfl
   ·have e0:formN b=0:=by unfold formN;rw[if_neg a,if_neg c,if_neg d,if_neg e]
    rw[e0];by_cases g:b≥240
    ·exact ev_pos g (ev_neg (by omega) (ev_some (by simp)))
    ·exact ev_neg g (ev_some (by simp))
  by_cases g:b≥224
  ·refine ev_pos g ?_
   rwa [show decide (224≤b∧b≤239)=decide (b≤239)by simp;omega]at step
  ·refine ev_neg g ?_
   rwa [show decide (224≤b∧b≤239)=false by simp;omega]at step
 by_cases g:b≥194
 ·refine ev_pos g ?_
  rwa [show decide (194≤b∧b≤223)=decide (b≤223)by simp;omega]at step
 ·refine ev_neg g ?_
  rwa [show decide (194≤b∧b≤223)=false by simp;omega]at step
theorem boundsOf_eq(b:Int):impl_boundsOf.f b=some (low1 b,high1 b):=by
 unfold impl_boundsOf.f low1 high1;by_cases h1:b=224
 ·subst h1;simp
 ·by_cases h2:b=237
  ·subst h2;simp
  ·by_cases h3:b=240
   ·subst h3;simp
   ·by_cases h4:b=244
    ·subst h4;simp
    ·simp [h1,h2,h3,h4]
theorem or6{x y:Int}(h0:0≤x)(h1:x≤4294967296)(h2:0≤y)(h3:y<64):Go.bits .or .i64 (x*64) y=x*64+y:=
 bits_join .i64 63 (by decide) wraps_i64 6 (x*64) y (by omega) (by omega) (by omega) h2 h3 (by omega)
theorem readPoint_l0(l:List Int)(hl:l.length≤1000000000)(hw: ∀x∈l,(Lit.int .u8 x).wf=true)(n:Nat)(hn:n≤4): ∀(d i:Nat) (x lo hi:Int),1≤i→i+d=n→0≤x→x≤lim d→128≤lo→hi≤191→
 Ev (fun k=>impl_readPoint.l0 k l n x lo hi i) (if mk d (l.drop i) lo hi<d then(65533,((mk d (l.drop i) lo hi+i:Nat):Int))else(vl d (l.drop i) x,(n:Int))):=by
 intro d;induction d with
 |zero=>
  intro i x lo hi h1 hd h0 hx hlo hhi;refine Ev.step (f:=fun _=>some (x,(n:Int))) (fun k=> ?_) (ev_some ?_)
  ·simp only[impl_readPoint.l0];rw[if_neg (by omega)]
  ·rw[if_neg (by omega)];rfl
 |succ d ih=>
  intro i x lo hi h1 hd h0 hx hlo hhi;by_cases hlt:(i:Int)<l.length
  ·have hb:=rd_bytes hw i;have hc:=drop_cons (l:=l) (i:=(i:Int)) (by omega) hlt;rw[show((i:Int)).toNat=i by omega,show((i:Int)+1).toNat=i+1 by omega]at hc;rw[hc];by_cases hf:lo≤rd l i∧rd l i≤hi
   ·have hL:lim (d+1)≤4294967296∧64*lim (d+1)+255≤lim d:=by
     have:d=0∨d=1∨d=2:=by omega
     rcases this with rfl|rfl|rfl<;>simp [lim]
    have:=ih (i+1) (64*x+rd l i- 128) 128 191 (by omega) (by omega) (by omega) (by omega) (by omega) (by omega);refine Ev.step (f:=fun k=>impl_readPoint.l0 k l n (64*x+rd l i- 128) 128 191 ((i+1:Nat):Int)) (fun k=> ?_) ?_
    ·simp only[impl_readPoint.l0];rw[if_pos (by omega),if_neg (by omega),if_pos (by omega),if_pos hlt,if_neg (by omega),if_neg (by omega),and63b (by omega) (by omega),w64 (x:=rd l i % 64) (by omega) (by omega),w64 (x:=x*64) (by omega) (by omega),or6 h0 (by omega) (by omega) (by omega),w64 (x:=(i:Int)+1) (by omega) (by omega),show x*64+rd l i % 64=64*x+rd l i- 128 by omega];rfl
    ·simp only[mk,vl,if_pos hf];by_cases hm:mk d (l.drop (i+1)) 128 191<d
     ·rw[if_pos hm]at this;rw[if_pos (by omega)]
      rwa [show mk d (l.drop (i+1)) 128 191+1+i=mk d (l.drop (i+1)) 128 191+(i+1)by omega]
     ·rw[if_neg hm]at this;rw[if_neg (by omega)];exact this
   ·simp only[mk,if_neg hf];refine Ev.step (f:=fun _=>some (65533,(i:Int))) (fun k=> ?_) (ev_some ?_)
    ·simp only[impl_readPoint.l0];rw[if_pos (by omega),if_neg (by omega),if_pos (by omega),if_pos hlt];by_cases g:rd l i<lo
     ·rw[if_pos g]
     ·rw[if_neg g,if_pos (by omega)]
    ·rw[if_pos (by omega)];simp
  ·rw[List.drop_of_length_le (by omega)];rw[show mk (d+1) [] lo hi=0 from rfl];refine Ev.step (f:=fun _=>some (65533,(i:Int))) (fun k=> ?_) (ev_some ?_)
   ·simp only[impl_readPoint.l0];rw[if_pos (by omega),if_pos (by omega)]
   ·rw[if_pos (by omega)];simp
theorem readPoint_ev(b:Int)(r:List Int)(hl:(b::r).length≤1000000000)(hw: ∀x∈b::r,(Lit.int .u8 x).wf=true):Ev (fun k=>impl_readPoint.f k (b::r)) ((readPt (b::r)).1,((readPt (b::r)).2:Int)):=by
 have hb:=wf8 (hw b (by simp));have e0:rd (b::r) 0=b:=rfl;unfold impl_readPoint.f;refine ev_pos (by simp only[List.length_cons];omega) ?_;simp only[e0,boundsOf_eq,Option.bind_some];refine Ev.bind (formOf_ev b hb.1 hb.2) ?_;simp only[readPt];by_cases hz:formN b=0
 ·simp only[if_pos hz];exact ev_pos (show(formN b:Int)=0 by omega) (ev_some rfl)
 ·refine ev_neg (show ¬(formN b:Int)=0 by omega) ?_;simp only[if_neg hz];have hX:0≤formX b∧formX b≤255:=by
   unfold formN at hz;unfold formX;by_cases a1:b<128
   ·rw[if_pos a1];omega
   ·by_cases a2:b≤223
    ·rw[if_neg a1,if_pos a2];rw[if_neg a1]at hz;by_cases a3:194≤b∧b≤223
     ·omega
     ·rw[if_neg a3,if_neg (by omega),if_neg (by omega)]at hz;simp at hz
    ·by_cases a3:b≤239
     ·rw[if_neg a1,if_neg a2,if_pos a3];omega
     ·rw[if_neg a1,if_neg a2,if_neg a3];omega
  have hL:255≤lim (formN b- 1):=by
   unfold lim;split<;>omega
  have hlo:128≤low1 b∧high1 b≤191:=by
   unfold low1 high1;constructor
   ·split
    ·omega
    ·split<;>omega
   ·split
    ·omega
    ·split<;>omega
  have:=readPoint_l0 (b::r) hl hw (formN b) (formN_le b) (formN b- 1) 1 (formX b) (low1 b) (high1 b) (by omega) (by omega) hX.1 (by omega) hlo.1 hlo.2;refine Ev.congr (fun k=> ?_) (ev_cast this ?_)
  ·rfl
  ·simp only[List.drop_succ_cons,List.drop_zero];split<;>rfl
theorem trim_eq(l:List Int)(hw: ∀x∈l,(Lit.int .u8 x).wf=true):bytes_TrimPrefix.f l [239,187,191]=some (unBom l):=by
 have hp:bytes_HasPrefix.f l [239,187,191]=some (decide (l.take 3= [239,187,191])):=by
  unfold bytes_HasPrefix.f bytes_Equal.f;by_cases h:l.length≥3
  ·rw[if_pos (by simp only[List.length_cons,List.length_nil];omega)];show some (_==_)=_
   rw[nums_eq _ _ (fun x hx=>hw x (List.mem_of_mem_take hx)) (by decide)];rfl
  ·rw[if_neg (by simp only[List.length_cons,List.length_nil];omega)];have: ¬l.take 3= [239,187,191]:=by
    intro g;have:=congrArg List.length g;simp at this;omega
   rw[decide_eq_false this]
 unfold bytes_TrimPrefix.f unBom;rw[hp,Option.bind_some];by_cases h:l.take 3= [239,187,191]
 ·have h3:3≤l.length:=by have:=congrArg List.length h;simp at this;omega
  rw[decide_eq_true h,if_pos rfl,if_pos h,if_pos (by simp),if_pos (by simp only[List.length_cons,List.length_nil];omega)];rfl
 ·rw[decide_eq_false h,if_neg (by simp),if_neg h]
theorem impl_UtfRead_l0: ∀(d:Nat) (l acc:List Int),l.length≤d→d≤100000→(∀x∈l,(Lit.int .u8 x).wf=true)→acc.length+l.length≤100000→
 Ev (fun k=>impl_UtfRead.l0 k l acc) (acc++urAll l):=by
 intro d;induction d with
 |zero=>
  intro l acc h _ hw ha;have:l= []:=List.length_eq_zero_iff.1 (by omega);subst this;refine Ev.step (f:=fun _=>some acc) (fun k=> ?_) (ev_some (by simp [urAll,ur]));simp [impl_UtfRead.l0]
 |succ d ih=>
  intro l acc h hd hw ha;cases l with
  |nil=>
   refine Ev.step (f:=fun _=>some acc) (fun k=> ?_) (ev_some (by simp [urAll,ur]));simp [impl_UtfRead.l0]
  |cons b r=>
   have hn:=readPt_n b r;refine Ev.step (f:=fun k=>(impl_readPoint.f k (b::r)).bind fun bt=>if acc.length<17592186044416 then(if 0≤bt.2 then(if bt.2≤((b::r).length:Int)then impl_UtfRead.l0 k ((b::r).drop (bt.2:Int).toNat) (acc++ [bt.1])else none)else none)else none) (fun k=> ?_) (Ev.bind (readPoint_ev b r (by omega) hw) ?_)
   ·simp only[impl_UtfRead.l0];rw[if_pos (by simp only[List.length_cons];omega)]
   ·refine ev_pos (by omega) (ev_pos (by simp only;omega) (ev_pos (by simp only;omega) ?_));have:=ih ((b::r).drop (readPt (b::r)).2) (acc++ [(readPt (b::r)).1]) (by simp only[List.length_drop,List.length_cons]at*;omega) (by omega) (wf_drop hw _) (by simp only[List.length_append,List.length_drop,List.length_cons,List.length_nil]at*;omega);rw[urAll_cons];simpa using this
theorem wf_unBom{l:List Int}(hw: ∀x∈l,(Lit.int .u8 x).wf=true): ∀x∈unBom l,(Lit.int .u8 x).wf=true:=by
 unfold unBom;split
 ·exact wf_drop hw 3
 ·exact hw
theorem impl_UtfRead_ev(l:List Int)(hw: ∀x∈l,(Lit.int .u8 x).wf=true):Ev (fun k=>impl_UtfRead.f k l) (utfRead l):=by
 unfold impl_UtfRead.f utfRead;by_cases h:(l.length:Int)>3000
 ·simp only[if_pos h];exact Ev.now _
 simp only[if_neg h,trim_eq l hw,Option.bind_some];have hu:=unBom_len l;simpa using impl_UtfRead_l0 (unBom l).length (unBom l) [] (Nat.le_refl _) (by omega) (wf_unBom hw) (by simp;omega)
theorem impl_inRange_eq(x a b:Int):impl_inRange.f x a b=some (decide (a≤x∧x≤b)):=by
 unfold impl_inRange.f;by_cases h:x≥a
 ·rw[if_pos h];congr 1;simp;omega
 ·rw[if_neg h];congr 1;simp;omega
theorem impl_PointOk_eq(x:Int):impl_PointOk.f x=some (pointOk x):=by
 unfold impl_PointOk.f pointOk;simp only[impl_inRange_eq,Option.bind_some];by_cases h:0≤x∧x≤1114111<;>simp [h]
theorem impl_putPoint_good(k:Nat)(l:List Int)(x:Int)(hl:l.length+4<140737488355328)(hp:pointOk x=true):impl_putPoint.f (k+1) l x=some (l++utf8 x):=by
 obtain⟨h0,h1⟩:=((pointOk_iff x).1 hp).1;simp only[impl_putPoint.f,impl_PointOk_eq,Option.bind_some,hp,if_true];unfold utf8;by_cases a:x<128
 ·simp only[if_pos a];rw[if_pos (by omega),Int.emod_eq_of_lt h0 (by omega)]
 ·by_cases b:x<2048
  ·simp only[if_neg a,if_pos b,List.length_cons,List.length_nil];rw[if_pos (by omega),and63 h0 (by omega),or192 (by omega) (by omega),or128 (by omega) (by omega),m256 (y:=192+x / 64) (by omega) (by omega),m256 (y:=128+x % 64) (by omega) (by omega)]
  ·by_cases c:x<65536
   ·simp only[if_neg a,if_neg b,if_pos c,List.length_cons,List.length_nil];rw[if_pos (by omega),and63 (x:=x / 64) (by omega) (by omega),and63 h0 (by omega),or224 (by omega) (by omega),or128 (by omega) (by omega),or128 (by omega) (by omega),m256 (y:=224+x / 4096) (by omega) (by omega),m256 (y:=128+x / 64 % 64) (by omega) (by omega),m256 (y:=128+x % 64) (by omega) (by omega)]
   ·simp only[if_neg a,if_neg b,if_neg c,List.length_cons,List.length_nil];rw[if_pos (by omega),and63 (x:=x / 64) (by omega) (by omega),and63 (x:=x / 4096) (by omega) (by omega),and63 h0 (by omega),or240 (by omega) (by omega),or128 (by omega) (by omega),or128 (by omega) (by omega),or128 (by omega) (by omega),m256 (y:=240+x / 262144) (by omega) (by omega),m256 (y:=128+x / 4096 % 64) (by omega) (by omega),m256 (y:=128+x / 64 % 64) (by omega) (by omega),m256 (y:=128+x % 64) (by omega) (by omega)]
theorem impl_putPoint_eq(k:Nat)(l:List Int)(x:Int)(hl:l.length+4<140737488355328):impl_putPoint.f (k+2) l x=some (l++pointPut x):=by
 unfold pointPut point;by_cases hp:pointOk x=true
 ·rw[if_pos hp];exact impl_putPoint_good (k+1) l x hl hp
 ·rw[if_neg hp];have:pointOk x=false:=by simpa using hp
  simp only[impl_putPoint.f,impl_PointOk_eq,Option.bind_some,this,Bool.false_eq_true,if_false];have h:=impl_putPoint_good k l 65533 hl (by decide);simp only[impl_putPoint.f,impl_PointOk_eq,Option.bind_some]at h;rw[h];rfl
theorem impl_putPoint_ev(l:List Int)(x:Int)(hl:l.length+4<140737488355328):Ev (fun k=>impl_putPoint.f k l x) (l++pointPut x):=
 ⟨2,fun k hk=>by
  obtain⟨m,rfl⟩: ∃m,k=m+2:=⟨k- 2,by omega⟩
  exact impl_putPoint_eq m l x hl⟩
theorem impl_PointsPut_l(l:List Int)(hl:l.length≤3000): ∀(d:Nat) (i:Int) (acc:List Int),0≤i→i+d=l.length→acc.length+4*d≤100000→
 Ev (fun k=>impl_PointsPut.l0 k acc l (l.length:Int) i) (acc++putAll (l.drop i.toNat)):=by
 intro d;induction d with
 |zero=>
  intro i acc h0 h ha;refine Ev.step (f:=fun _=>some acc) (fun k=> ?_) (ev_some ?_)
  ·simp only[impl_PointsPut.l0];rw[if_neg (by omega)]
  ·rw[List.drop_of_length_le (by omega)];simp [putAll]
 |succ d ih=>
  intro i acc h0 h ha;have hp:=pointPut_len (rd l i);refine Ev.step (f:=fun k=>(impl_putPoint.f k acc (rd l i)).bind fun t=>impl_PointsPut.l0 k t l (l.length:Int) (i+1)) (fun k=> ?_) (Ev.bind (impl_putPoint_ev acc (rd l i) (by omega)) ?_)
  ·simp only[impl_PointsPut.l0];rw[if_pos (by omega),if_pos h0,if_pos (by omega),w64 (by omega) (by omega)]
  ·have:=ih (i+1) (acc++pointPut (rd l i)) (by omega) (by omega) (by simp;omega);rw[drop_cons h0 (by omega)];simpa [putAll]using this
def pointsPut(l:List Int):List Int:=if(l.length:Int)>3000 then []else putAll l
theorem impl_PointsPut_ev(l:List Int):Ev (fun k=>impl_PointsPut.f k l) (pointsPut l):=by
 unfold impl_PointsPut.f pointsPut;by_cases h:(l.length:Int)>3000
 ·simp only[if_pos h];exact Ev.now _
 ·simp only[if_neg h];simpa using impl_PointsPut_l l (by omega) l.length 0 [] (by omega) (by omega) (by simp;omega)
theorem spec_PointOk_eq(x:Int):spec_PointOk.f x=some (pointOk x):=by
 unfold spec_PointOk.f pointOk;simp only[spec_l1In_eq,Option.bind_some];by_cases h:0≤x∧x≤1114111<;>simp [h]
theorem spec_l1Point_eq(x:Int):spec_l1Point.f x=some (point x):=by
 unfold spec_l1Point.f point;simp only[spec_PointOk_eq,Option.bind_some];split<;>rfl
theorem spec_PointPut_eq(x:Int):spec_PointPut.f x=some (pointPut x):=by
 unfold spec_PointPut.f pointPut utf8;simp only[spec_l1Point_eq,Option.bind_some];obtain⟨h0,h1⟩:=point_range x;generalize point x=p at*;by_cases a:p<128
 ·simp only[if_pos a];congr 2;omega
 ·by_cases b:p<2048
  ·simp only[if_neg a,if_pos b,Int.tdiv_eq_ediv_of_nonneg h0,Int.tmod_eq_emod_of_nonneg h0];rw[w64 (x:=p / 64) (by omega) (by omega),w64 (by omega) (by omega),w64 (by omega) (by omega),m256 (y:=192+p / 64) (by omega) (by omega),m256 (y:=128+p % 64) (by omega) (by omega)]
  ·by_cases c:p<65536
   ·simp only[if_neg a,if_neg b,if_pos c,Int.tdiv_eq_ediv_of_nonneg h0,Int.tmod_eq_emod_of_nonneg h0];rw[w64 (x:=p / 64) (by omega) (by omega),w64 (x:=p / 4096) (by omega) (by omega),Int.tmod_eq_emod_of_nonneg (by omega),w64 (by omega) (by omega),w64 (by omega) (by omega),w64 (by omega) (by omega),m256 (y:=224+p / 4096) (by omega) (by omega),m256 (y:=128+p / 64 % 64) (by omega) (by omega),m256 (y:=128+p % 64) (by omega) (by omega)]
   ·simp only[if_neg a,if_neg b,if_neg c,Int.tdiv_eq_ediv_of_nonneg h0,Int.tmod_eq_emod_of_nonneg h0];rw[w64 (x:=p / 64) (by omega) (by omega),w64 (x:=p / 4096) (by omega) (by omega),w64 (x:=p / 262144) (by omega) (by omega),Int.tmod_eq_emod_of_nonneg (by omega),Int.tmod_eq_emod_of_nonneg (by omega),w64 (by omega) (by omega),w64 (by omega) (by omega),w64 (by omega) (by omega),w64 (by omega) (by omega),m256 (y:=240+p / 262144) (by omega) (by omega),m256 (y:=128+p / 4096 % 64) (by omega) (by omega),m256 (y:=128+p / 64 % 64) (by omega) (by omega),m256 (y:=128+p % 64) (by omega) (by omega)]
theorem spec_l1Put_l(l:List Int)(hl:l.length≤1000000): ∀(d:Nat) (i:Int) (acc:List Int),0≤i→i+d=l.length→acc.length+4*d≤100000000→
 Ev (fun k=>spec_l1Put.l0 k l acc i) (acc++putAll (l.drop i.toNat)):=by
 intro d;induction d with
 |zero=>
  intro i acc h0 h ha;refine Ev.step (f:=fun _=>some acc) (fun k=> ?_) (ev_some ?_)
  ·simp only[spec_l1Put.l0];rw[if_neg (by omega)]
  ·rw[List.drop_of_length_le (by omega)];simp [putAll]
 |succ d ih=>
  intro i acc h0 h ha;have hp:=pointPut_len (rd l i);refine Ev.step (f:=fun k=>spec_l1Put.l0 k l (acc++pointPut (rd l i)) (i+1)) (fun k=> ?_) ?_
  ·simp only[spec_l1Put.l0,spec_PointPut_eq,Option.bind_some];rw[if_pos (by omega),if_pos h0,if_pos (by omega),w64 (by omega) (by omega)]
  ·have:=ih (i+1) (acc++pointPut (rd l i)) (by omega) (by omega) (by simp;omega);rw[drop_cons h0 (by omega)];simpa [putAll]using this
theorem spec_l1Put_ev(l:List Int)(hl:l.length≤1000000):Ev (fun k=>spec_l1Put.f k l) (putAll l):=by
 unfold spec_l1Put.f;simpa using spec_l1Put_l l hl l.length 0 [] (by omega) (by omega) (by simp;omega)
theorem spec_PointsPut_ev(l:List Int):Ev (fun k=>spec_PointsPut.f k l) (if(l.length:Int)>3000 then []else putAll l):=by
 unfold spec_PointsPut.f;by_cases h:(l.length:Int)>3000
 ·simp only[if_pos h];exact Ev.now _
 ·simp only[if_neg h];exact Ev.bind (spec_l1Put_ev l (by omega)) (Ev.now _)
theorem wf_of8{x:Int}(h:0≤x∧x≤255):(Lit.int .u8 x).wf=true:=by
 simp only[Lit.wf,Bool.and_eq_true,decide_eq_true_eq];exact h
theorem putAll_wf(l:List Int): ∀x∈putAll l,(Lit.int .u8 x).wf=true:=by
 intro x hx;simp only[putAll,List.mem_flatMap]at hx;obtain⟨a,_,hx⟩:=hx;exact wf_of8 (utf8_bytes (point_range a).1 (point_range a).2 x hx)
theorem pointsPut_wf(l:List Int): ∀x∈pointsPut l,(Lit.int .u8 x).wf=true:=by
 unfold pointsPut;split
 ·simp
 ·exact putAll_wf l
def utfOk(l:List Int):Bool:=decide (l.length≤3000) && decide (pointsPut (utfRead l)=l)
theorem spec_UtfOk_ev(l:List Int)(hw: ∀x∈l,(Lit.int .u8 x).wf=true):Ev (fun k=>spec_UtfOk.f k l) (utfOk l):=by
 unfold spec_UtfOk.f utfOk;by_cases h:(l.length:Int)≤3000
 ·refine ev_pos h (Ev.bind (spec_UtfRead_ev l hw) (Ev.bind (spec_PointsPut_ev _) (ev_some ?_)));show(_==_)=_
  have e:(if((utfRead l).length:Int)>3000 then []else putAll (utfRead l))=pointsPut (utfRead l):=rfl;rw[e,nums_eq _ _ (pointsPut_wf _) hw,decide_eq_true (show l.length≤3000 by omega),Bool.true_and]
 ·exact ev_neg h (ev_some (by rw[decide_eq_false (show ¬l.length≤3000 by omega),Bool.false_and]))
theorem impl_UtfOk_ev(l:List Int)(hw: ∀x∈l,(Lit.int .u8 x).wf=true):Ev (fun k=>impl_UtfOk.f k l) (utfOk l):=by
 unfold impl_UtfOk.f utfOk;by_cases h:(l.length:Int)≤3000
 ·refine ev_pos h (Ev.bind (impl_UtfRead_ev l hw) (Ev.bind (impl_PointsPut_ev _) ?_));simp only[bytes_Equal.f,Option.bind_some];refine ev_some ?_;rw[nums_eq _ _ (pointsPut_wf _) hw,decide_eq_true (show l.length≤3000 by omega),Bool.true_and]
 ·exact ev_neg h (ev_some (by rw[decide_eq_false (show ¬l.length≤3000 by omega),Bool.false_and]))
theorem data_eta(s:ByteArray):(⟨s.data.toList.toArray⟩:ByteArray)=s:=by cases s;simp
theorem str_bytes(s:ByteArray):strOfNums (bytesOf s)=s:=by
 unfold bytesOf;rw[Lib.Lz.strOfNums_map]
theorem bytes_str{b:List Int}(h: ∀x∈b,0≤x∧x≤255):bytesOf (strOfNums b)=b:=by
 have e:(strOfNums b).data.toList=Lib.bytesOf b:=by rw[←Lib.toList_data,Lib.strOfNums_toList]
 unfold bytesOf;rw[e];unfold Lib.bytesOf;rw[List.map_map]
 conv=>rhs;rw[←List.map_id b]
 refine List.map_congr_left (fun x hx=> ?_);have:=h x hx;simp only[Function.comp,id];have:(UInt8.ofNat x.toNat).toNat=x.toNat:=by simp;omega
 omega
theorem bytesOf_range(s:ByteArray): ∀x∈bytesOf s,0≤x∧x≤255:=by
 intro x hx;unfold bytesOf at hx;obtain⟨b,_,rfl⟩:=List.mem_map.1 hx;have:=b.toNat_lt;omega
theorem bytesOf_wf(s:ByteArray): ∀x∈bytesOf s,(Lit.int .u8 x).wf=true:=fun x hx=>by
 simp only[Lit.wf,Bool.and_eq_true,decide_eq_true_eq];exact bytesOf_range s x hx
theorem bytes_ext{s t:ByteArray}(h:bytesOf s=bytesOf t):s=t:=by rw[←str_bytes s,h,str_bytes]
theorem toList_ext{s t:ByteArray}(h:s.toList=t.toList):s=t:=by
 rw[Lib.toList_data,Lib.toList_data]at h;rw[←data_eta s,h,data_eta]
theorem str_size(b:List Int):(strOfNums b).size=b.length:=by
 have e:(strOfNums b).data.toList=Lib.bytesOf b:=by rw[←Lib.toList_data,Lib.strOfNums_toList]
 have:=congrArg List.length e;simpa [Lib.bytesOf]using this
def blank(x:Int):Bool:=decide (x=9)||decide (x=10)||decide (x=12)||decide (x=32)
def outer(x:Int):Bool:=blank x||decide (x=47)||decide (x=62)||decide (x=0)||decide (65≤x∧x≤90)
def textOk(s:ByteArray):Bool:=utfOk (bytesOf s)
def nameOk(s:ByteArray):Bool:=decide (1≤s.size∧s.size≤60) && (decide (97≤bt s 0∧bt s 0≤122) && textOk s) && (bytesOf s).all (fun x=> !outer x)
theorem bt_0(s:ByteArray)(i:Int):0≤bt s i∧bt s i≤255:=bt_range s i
abbrev IA:=S72
abbrev LA:=S107
theorem toList_iff{s t:ByteArray}:s.toList=t.toList↔s=t:=⟨toList_ext,fun h=>by rw[h]⟩
theorem rdA{l:List IA}{i:Int}(h0:0≤i)(h:i<l.length):rd_T72 l i=l[i.toNat]'(by omega):=by
 unfold rd_T72;rw[List.getD_eq_getElem?_getD,List.getElem?_eq_getElem (by omega)];rfl
theorem rdLA{l:List LA}{i:Int}(h0:0≤i)(h:i<l.length):rd_T107 l i=l[i.toNat]'(by omega):=by
 unfold rd_T107;rw[List.getD_eq_getElem?_getD,List.getElem?_eq_getElem (by omega)];rfl
theorem dropA{α:Type}{l:List α}{i:Int}(h0:0≤i)(h:i<l.length):l.drop i.toNat=l[i.toNat]'(by omega)::l.drop (i+1).toNat:=by
 have e:(i+1).toNat=i.toNat+1:=by omega
 rw[e];exact List.drop_eq_getElem_cons (by omega)
def cv(x:LA):IA:=⟨x.f0,x.f1⟩
def attrOf:List IA→ByteArray→ByteArray×Bool
 | [],_=>(⟨#[]⟩,false)
 |x::r,s=>if x.f0.toList=s.toList then(x.f1,true)else attrOf r s
def attrIx:List IA→ByteArray→Int→Int
 | [],_,_=> -1
 |x::r,s,i=>if x.f0.toList=s.toList then i else attrIx r s (i+1)
def attrOkB(x:IA):Bool:=decide (1≤x.f0.size∧x.f0.size≤60) && (decide (x.f1.size≤3000) && (textOk x.f0 && textOk x.f1))
def namesOnce:List IA→Prop
 | []=>True
 |x::r=>(∀y∈r,y.f0≠x.f0)∧namesOnce r
def attrsOkP(l:List IA):Prop:=l.length≤20∧(∀x∈l,attrOkB x=true)∧namesOnce l
def attrsSameP(a b:List IA):Prop:=a.length=b.length∧ ∀x∈a,attrOf b x.f0=(x.f1,true)
def attrAdd(l:List IA)(a:IA):List IA:=if(attrOf l a.f0).2=true∨l.length≥20∨attrOkB a=false then l else l++ [a]
theorem attrAdd_same{l:List IA}{a:IA}(h:(attrOf l a.f0).2=true∨l.length≥20∨attrOkB a=false):attrAdd l a=l:=by unfold attrAdd;rw[if_pos h]
theorem attrAdd_new{l:List IA}{a:IA}(h: ¬((attrOf l a.f0).2=true∨l.length≥20∨attrOkB a=false)):attrAdd l a=l++ [a]:=by unfold attrAdd;rw[if_neg h]
theorem attrIx_get: ∀(l:List IA) (s:ByteArray) (i:Int),0≤i→(attrIx l s i= -1∧attrOf l s=(⟨#[]⟩,false))∨ ∃j:Nat,∃h:j<l.length,attrIx l s i=i+j∧l[j].f0=s∧attrOf l s=(l[j].f1,true)∧ ∀m (hm:m<j),(l[m]'(by omega)).f0≠s:=by
 intro l;induction l with
 |nil=>intro s i _;exact .inl ⟨rfl,rfl⟩
 |cons x r ih=>
  intro s i hi;by_cases h:x.f0=s
  ·refine .inr ⟨0,by simp, ?_,h, ?_,fun m hm=>by omega⟩
   ·unfold attrIx;rw[if_pos (toList_iff.2 h)];simp
   ·unfold attrOf;rw[if_pos (toList_iff.2 h)];rfl
  ·have e1:attrIx (x::r) s i=attrIx r s (i+1):=by conv=>lhs;unfold attrIx;rw[if_neg (fun g=>h (toList_iff.1 g))]
   have e2:attrOf (x::r) s=attrOf r s:=by conv=>lhs;unfold attrOf;rw[if_neg (fun g=>h (toList_iff.1 g))]
   rw[e1,e2];rcases ih s (i+1) (by omega)with⟨g1,g2⟩|⟨j,hj,g1,g2,g3,g4⟩
   ·exact .inl ⟨g1,g2⟩
   ·refine .inr ⟨j+1,by simp;omega,by rw[g1];omega,by simpa using g2,by simpa using g3,fun m hm=> ?_⟩;cases m with
    |zero=>simpa using h
    |succ m=>simpa using g4 m (by omega)
theorem attrOf_none{l:List IA}{s:ByteArray}(h: ∀x∈l,x.f0≠s):attrOf l s=(⟨#[]⟩,false):=by
 induction l with
 |nil=>rfl
 |cons x r ih=>
  unfold attrOf;rw[if_neg (fun g=>h x (by simp) (toList_iff.1 g))];exact ih (fun y hy=>h y (by simp [hy]))
theorem attrOf_mem{l:List IA}{s:ByteArray}(h:(attrOf l s).2=true): ∃x∈l,x.f0=s∧attrOf l s=(x.f1,true):=by
 rcases attrIx_get l s 0 (by omega)with⟨_,g⟩|⟨j,hj,_,g2,g3,_⟩
 ·rw[g]at h;simp at h
 ·exact⟨l[j],List.getElem_mem _,g2,g3⟩
theorem attrOf_once{l:List IA}(h:namesOnce l): ∀x∈l,attrOf l x.f0=(x.f1,true):=by
 induction l with
 |nil=>intro x hx;simp at hx
 |cons y r ih=>
  intro x hx;unfold attrOf;rcases List.mem_cons.1 hx with rfl|hx
  ·rw[if_pos rfl]
  ·rw[if_neg (fun e=>h.1 x hx (toList_iff.1 e).symm)];exact ih h.2 x hx
theorem eq_attr{x y:IA}(h0:x.f0=y.f0)(h1:x.f1=y.f1):x=y:=by
 cases x;cases y;simp_all
theorem attrOf_iff{l:List IA}(h:namesOnce l)(x:IA):attrOf l x.f0=(x.f1,true)↔x∈l:=by
 constructor
 ·intro e;obtain⟨y,hy,h0,h1⟩:=attrOf_mem (l:=l) (s:=x.f0) (by rw[e]);rw[e]at h1;have:x=y:=eq_attr h0.symm (by simpa using h1);rw[this];exact hy
 ·exact attrOf_once h x
theorem namesOnce_index(l:List IA):namesOnce l↔ ∀i j (hi:i<j) (hj:j<l.length),(l[i]'(by omega)).f0≠l[j].f0:=by
 induction l with
 |nil=>simp [namesOnce]
 |cons x r ih=>
  unfold namesOnce;rw[ih];constructor
  ·rintro⟨h1,h2⟩ i j hi hj;cases j with
   |zero=>omega
   |succ j=>
    cases i with
    |zero=>simpa using(h1 (r[j]'(by simp at hj;omega)) (List.getElem_mem _)).symm
    |succ i=>simpa using h2 i j (by omega) (by simp at hj;omega)
  ·intro h;refine⟨fun y hy=> ?_,fun i j hi hj=> ?_⟩
   rotate_left
   ·have:=h (i+1) (j+1) (by omega) (by simp;omega);simp only[List.getElem_cons_succ]at this;exact this
   obtain⟨j,hj,rfl⟩:=List.getElem_of_mem hy;have:=h 0 (j+1) (by omega) (by simp;omega);simp at this;exact fun e=>this e.symm
theorem bool_iff{a b:Bool}{P:Prop}(ha:a=true↔P)(hb:b=true↔P):a=b:=by
 cases a<;>cases b<;>simp_all
theorem spec_AttrOf_l(l:List IA)(s:ByteArray)(hl:l.length≤1048576): ∀(d:Nat) (i:Int),0≤i→i+d=l.length→Ev (fun k=>spec_AttrOf.l0 k l s i) (attrOf (l.drop i.toNat) s):=by
 intro d;induction d with
 |zero=>
  intro i h0 h;refine ev_succ ?_;simp only[spec_AttrOf.l0];refine ev_neg (by omega) (ev_some ?_);rw[List.drop_of_length_le (by omega)];rfl
 |succ d ih=>
  intro i h0 h;refine ev_succ ?_;simp only[spec_AttrOf.l0];rw[dropA h0 (by omega),rdA h0 (by omega),w64 (x:=i+1) (by omega) (by omega)];refine ev_pos (by omega) (ev_pos h0 ?_);simp only[attrOf];by_cases c:(l[i.toNat]'(by omega)).f0=s
  ·rw[if_pos (toList_iff.2 c)];exact ev_pos (toList_iff.2 c) (Ev.now _)
  ·rw[if_neg (fun g=>c (toList_iff.1 g))];exact ev_neg (fun g=>c (toList_iff.1 g)) (ih (i+1) (by omega) (by omega))
theorem spec_AttrOf_ev(l:List IA)(s:ByteArray)(hl:l.length≤1048576):Ev (fun k=>spec_AttrOf.f k l s) (attrOf l s):=by
 have:=spec_AttrOf_l l s hl l.length 0 (by omega) (by omega);simpa [spec_AttrOf.f]using this
theorem spec_l1Ok_ev(s:ByteArray)(h:s.size≤140737488355328):Ev (fun k=>spec_l1Ok.f k s) (textOk s):=by
 unfold spec_l1Ok.f;exact ev_pos h (Ev.bind (spec_UtfOk_ev _ (bytesOf_wf s)) (Ev.now _))
theorem spec_l4Attr_ev(x:IA)(h:x.f0.size≤1048576∧x.f1.size≤1048576):Ev (fun k=>spec_l4Attr.f k x.f0 x.f1) (attrOkB x):=by
 unfold spec_l4Attr.f attrOkB;simp only[spec_l1In_eq,Option.bind_some];by_cases h1:1≤x.f0.size∧x.f0.size≤60
 ·rw[decide_eq_true h1,Bool.true_and];refine ev_pos (by simp;omega) ?_;by_cases h2:x.f1.size≤3000
  ·rw[decide_eq_true h2,Bool.true_and];refine ev_pos (by omega) (Ev.bind (spec_l1Ok_ev x.f0 (by omega)) ?_);cases textOk x.f0 with
   |true=>exact ev_pos (by simp) (Ev.bind (spec_l1Ok_ev x.f1 (by omega)) (ev_some (by simp)))
   |false=>exact ev_neg (by simp) (ev_some (by simp))
  ·rw[decide_eq_false h2];exact ev_neg (by omega) (ev_some (by simp))
 ·rw[decide_eq_false h1];exact ev_neg (by simp;omega) (ev_some (by simp))
theorem spec_AttrAdd_ev(l:List IA)(a:IA)(hl:l.length≤1048576)(ha:a.f0.size≤1048576∧a.f1.size≤1048576):Ev (fun k=>spec_AttrAdd.f k l a.f0 a.f1) (attrAdd l a):=by
 unfold spec_AttrAdd.f;simp only[Option.bind_some,List.nil_append,List.length_nil];refine ev_pos (by omega) (Ev.bind (spec_AttrOf_ev l a.f0 hl) ?_);by_cases h1:(attrOf l a.f0).2=true
 ·rw[attrAdd_same (.inl h1)];exact ev_pos h1 (Ev.now _)
 ·refine ev_neg h1 ?_;by_cases h2:l.length≥20
  ·rw[attrAdd_same (.inr (.inl h2))];exact ev_pos (by omega) (Ev.now _)
  ·refine ev_neg (by omega) (Ev.bind (spec_l4Attr_ev a ha) ?_);cases h3:attrOkB a with
   |false=>rw[attrAdd_same (.inr (.inr h3))];exact ev_neg (by simp) (Ev.now _)
   |true=>
    rw[attrAdd_new (by simp [h1,h3];omega)];exact ev_pos (by simp) (ev_pos (by omega) (Ev.now _))
def AD(n:Nat)(l:List IA):Prop:=l.length≤n∧ ∀x∈l,x.f0.size≤4000∧x.f1.size≤4000
theorem AD_snoc{n:Nat}{l:List IA}{x:IA}(h:AD n l)(hx:x.f0.size≤4000∧x.f1.size≤4000):AD (n+1) (l++ [x]):=by
 refine⟨by rw[List.length_append,List.length_singleton];have:=h.1;omega,fun y hy=> ?_⟩;rcases List.mem_append.1 hy with hy|hy
 ·exact h.2 y hy
 ·rw[List.mem_singleton]at hy;subst hy;exact hx
theorem AD_mono{n m:Nat}{l:List IA}(h:AD n l)(hnm:n≤m):AD m l:=⟨Nat.le_trans h.1 hnm,h.2⟩
theorem AD_add{n:Nat}{l:List IA}{x:IA}(h:AD n l)(hx:x.f0.size≤4000∧x.f1.size≤4000):AD (n+1) (attrAdd l x):=by
 unfold attrAdd;split
 ·exact AD_mono h (by omega)
 ·exact AD_snoc h hx
theorem l4DrawAttrs_l1(l:List Int)(i h:Int)(hi:0≤i∧i≤l.length): ∀(d:Nat) (acc:List IA) (c:Int),0≤c→c+d=21→AD (25- d) acc→EvP (fun k=>spec_l4DrawAttrs.l1 k acc c l i h) (fun a=>AD 30 a.1∧0≤a.2.1∧a.2.1≤l.length):=by
 intro d;induction d with
 |zero=>
  intro acc c h0 hd ha;refine EvP.succ ?_;simp only[spec_l4DrawAttrs.l1];exact EvP.neg (by omega) (EvP.some ⟨AD_mono ha (by omega),hi⟩)
 |succ d ih=>
  intro acc c h0 hd ha;refine EvP.succ ?_;simp only[spec_l4DrawAttrs.l1];rw[w64 (x:=c+1) (by omega) (by omega)];have:=ha.1;refine EvP.pos (by omega) (EvP.pos (by omega) (ih _ (c+1) (by omega) (by omega) (AD_mono (AD_snoc ha ⟨?_, ?_⟩) (by omega))))
  ·simp only[str_size];simp
  ·exact Nat.zero_le _
theorem l4DrawAttrs_l0(l:List Int)(hl:l.length≤1048576): ∀(d:Nat) (acc:List IA) (c i h:Int),0≤i∧i≤l.length→0≤c→c+d=4→AD (4- d) acc→EvP (fun k=>spec_l4DrawAttrs.l0 k acc c l i h) (fun a=>AD 30 a.1∧0≤a.2.1∧a.2.1≤l.length):=by
 intro d;induction d with
 |zero=>
  intro acc c i h hi h0 hd ha;refine EvP.succ ?_;simp only[spec_l4DrawAttrs.l0];refine EvP.bindS (l1Below_p l i h 4 hl hi (by omega)) (fun a hA=>EvP.neg (by omega) ?_);have:=ha.1;refine EvP.bindS (l1Below_p l _ _ 20 hl hA.2 (by omega)) (fun b hb=>EvP.ite (fun _=> ?_) (fun _=>EvP.ite (fun _=> ?_) (fun _=>EvP.ite (fun _=> ?_) (fun _=>EvP.ite (fun _=> ?_) (fun _=> ?_)))))
  ·simp only[Option.bind_some];refine EvP.pos (by simp only[List.length_cons,List.length_nil];omega) (EvP.some ⟨?_,hb.2⟩);have e:acc++ [(⟨(⟨#[105,100]⟩:ByteArray),(⟨#[]⟩:ByteArray)⟩:IA),(⟨(⟨#[105,100]⟩:ByteArray),(⟨#[]⟩:ByteArray)⟩:IA)]=(acc++ [⟨(⟨#[105,100]⟩:ByteArray),(⟨#[]⟩:ByteArray)⟩])++ [⟨(⟨#[105,100]⟩:ByteArray),(⟨#[]⟩:ByteArray)⟩]:=by simp
   rw[e];exact AD_mono (AD_snoc (AD_snoc ha (by decide)) (by decide)) (by omega)
  ·exact l4DrawAttrs_l1 l _ _ hb.2 21 acc 0 (by omega) (by omega) (AD_mono ha (by omega))
  ·refine EvP.bindS (l1Below_p l _ _ 2 hl hb.2 (by omega)) (fun q hq=> ?_);rw[w64 (x:=3000+q.1) (by omega) (by omega)];refine EvP.pos (by omega) (EvP.pos (by omega) (EvP.pos (by omega) (EvP.some ⟨AD_mono (AD_snoc ha ⟨by show 1≤4000;omega, ?_⟩) (by omega),hq.2⟩)));simp only[str_size,List.length_replicate];omega
  ·exact EvP.pos (by omega) (EvP.some ⟨AD_mono (AD_snoc ha (by decide)) (by omega),hb.2⟩)
  ·exact EvP.some ⟨AD_mono ha (by omega),hb.2⟩
 |succ d ih=>
  intro acc c i h hi h0 hd ha;refine EvP.succ ?_;simp only[spec_l4DrawAttrs.l0];rw[w64 (x:=c+1) (by omega) (by omega)];have:=ha.1;refine EvP.bindS (l1Below_p l i h 4 hl hi (by omega)) (fun a hA=>EvP.ite (fun _=> ?_) (fun _=> ?_))
  ·refine EvP.bindS (l1Pick_p l _ _ [(⟨#[105,100]⟩:ByteArray),(⟨#[99,108,97,115,115]⟩:ByteArray),(⟨#[120]⟩:ByteArray),(⟨#[61,121]⟩:ByteArray),(⟨#[195,169]⟩:ByteArray)] hl hA.2 (by simp) (by simp)) (fun b hb=>EvP.bindS (l4DrawText_p l _ _ hl hb.2) (fun t ht=> ?_));have hs: ∀s∈ [(⟨#[105,100]⟩:ByteArray),(⟨#[99,108,97,115,115]⟩:ByteArray),(⟨#[120]⟩:ByteArray),(⟨#[61,121]⟩:ByteArray),(⟨#[195,169]⟩:ByteArray)],s.size≤20:=by decide
   have hb1:=hs _ hb.1;refine EvP.bind (EvP.of (spec_AttrAdd_ev acc ⟨b.1,t.1⟩ (by omega) ⟨by show b.1.size≤_;omega,by show t.1.size≤_;omega⟩) rfl) (fun q hq=> ?_);subst hq;exact ih _ (c+1) _ _ ht.2 (by omega) (by omega) (AD_mono (AD_add ha ⟨by show b.1.size≤_;omega,by show t.1.size≤_;omega⟩) (by omega))
  ·refine EvP.bindS (l1Below_p l _ _ 20 hl hA.2 (by omega)) (fun b hb=>EvP.ite (fun _=> ?_) (fun _=>EvP.ite (fun _=> ?_) (fun _=>EvP.ite (fun _=> ?_) (fun _=>EvP.ite (fun _=> ?_) (fun _=> ?_)))))
   ·simp only[Option.bind_some];refine EvP.pos (by simp only[List.length_cons,List.length_nil];omega) (EvP.some ⟨?_,hb.2⟩);have e:acc++ [(⟨(⟨#[105,100]⟩:ByteArray),(⟨#[]⟩:ByteArray)⟩:IA),(⟨(⟨#[105,100]⟩:ByteArray),(⟨#[]⟩:ByteArray)⟩:IA)]=(acc++ [⟨(⟨#[105,100]⟩:ByteArray),(⟨#[]⟩:ByteArray)⟩])++ [⟨(⟨#[105,100]⟩:ByteArray),(⟨#[]⟩:ByteArray)⟩]:=by simp
    rw[e];exact AD_mono (AD_snoc (AD_snoc ha (by decide)) (by decide)) (by omega)
   ·exact l4DrawAttrs_l1 l _ _ hb.2 21 acc 0 (by omega) (by omega) (AD_mono ha (by omega))
   ·refine EvP.bindS (l1Below_p l _ _ 2 hl hb.2 (by omega)) (fun q hq=> ?_);rw[w64 (x:=3000+q.1) (by omega) (by omega)];refine EvP.pos (by omega) (EvP.pos (by omega) (EvP.pos (by omega) (EvP.some ⟨AD_mono (AD_snoc ha ⟨by show 1≤4000;omega, ?_⟩) (by omega),hq.2⟩)));simp only[str_size,List.length_replicate];omega
   ·exact EvP.pos (by omega) (EvP.some ⟨AD_mono (AD_snoc ha (by decide)) (by omega),hb.2⟩)
   ·exact EvP.some ⟨AD_mono ha (by omega),hb.2⟩
theorem l4DrawAttrs_p(l:List Int)(i h:Int)(hl:l.length≤1048576)(hi:0≤i∧i≤l.length):EvP (fun k=>spec_l4DrawAttrs.f k l i h) (fun a=>AD 30 a.1∧0≤a.2.1∧a.2.1≤l.length):=by
 unfold spec_l4DrawAttrs.f;exact l4DrawAttrs_l0 l hl 4 [] 0 i h hi (by omega) (by omega) ⟨by simp,by simp⟩
theorem impl_textOk_ev(s:ByteArray)(h:s.size≤140737488355328):Ev (fun k=>impl_textOk.f k s) (textOk s):=by
 unfold impl_textOk.f;exact ev_pos h (Ev.bind (impl_UtfOk_ev _ (bytesOf_wf s)) (Ev.now _))
theorem impl_attrOk_ev(x:IA)(h:x.f0.size≤1048576∧x.f1.size≤1048576):Ev (fun k=>impl_attrOk.f k x.f0 x.f1) (attrOkB x):=by
 unfold impl_attrOk.f attrOkB;simp only[impl_inRange_eq,Option.bind_some];by_cases h1:1≤x.f0.size∧x.f0.size≤60
 ·rw[decide_eq_true h1,Bool.true_and];refine ev_pos (by simp;omega) ?_;by_cases h2:x.f1.size≤3000
  ·rw[decide_eq_true h2,Bool.true_and];refine ev_pos (by omega) (Ev.bind (impl_textOk_ev x.f0 (by omega)) ?_);cases textOk x.f0 with
   |true=>exact ev_pos (by simp) (Ev.bind (impl_textOk_ev x.f1 (by omega)) (ev_some (by simp)))
   |false=>exact ev_neg (by simp) (ev_some (by simp))
  ·rw[decide_eq_false h2];exact ev_neg (by omega) (ev_some (by simp))
 ·rw[decide_eq_false h1];exact ev_neg (by simp;omega) (ev_some (by simp))
theorem impl_attrAt_l(l:List IA)(s:ByteArray)(hl:l.length≤1048576): ∀(d:Nat) (i:Int),0≤i→i+d=l.length→Ev (fun k=>impl_attrAt.l0 k l s i) (attrIx (l.drop i.toNat) s i):=by
 intro d;induction d with
 |zero=>
  intro i h0 h;refine ev_succ ?_;simp only[impl_attrAt.l0];refine ev_neg (by omega) (ev_some ?_);rw[List.drop_of_length_le (by omega)];rfl
 |succ d ih=>
  intro i h0 h;refine ev_succ ?_;simp only[impl_attrAt.l0];rw[dropA h0 (by omega),rdA h0 (by omega),w64 (x:=i+1) (by omega) (by omega)];refine ev_pos (by omega) (ev_pos h0 ?_);simp only[attrIx];by_cases c:(l[i.toNat]'(by omega)).f0=s
  ·rw[if_pos (toList_iff.2 c)];exact ev_pos (toList_iff.2 c) (Ev.now _)
  ·rw[if_neg (fun g=>c (toList_iff.1 g))];exact ev_neg (fun g=>c (toList_iff.1 g)) (ih (i+1) (by omega) (by omega))
theorem impl_attrAt_ev(l:List IA)(s:ByteArray)(hl:l.length≤1048576):Ev (fun k=>impl_attrAt.f k l s) (attrIx l s 0):=by
 have:=impl_attrAt_l l s hl l.length 0 (by omega) (by omega);simpa [impl_attrAt.f]using this
def okFrom(l:List IA)(i:Nat):Prop:= ∀j,i≤j→(h:j<l.length)→attrOkB l[j]=true∧ ∀m (hm:m<j),(l[m]'(by omega)).f0≠l[j].f0
theorem okFrom_zero(l:List IA)(h:l.length≤20):attrsOkP l↔okFrom l 0:=by
 unfold attrsOkP okFrom;rw[namesOnce_index];constructor
 ·rintro⟨_,h1,h2⟩ j _ hj;exact⟨h1 _ (List.getElem_mem _),fun m hm=>h2 m j hm hj⟩
 ·intro g;refine⟨h,fun x hx=> ?_,fun i j hi hj=>(g j (by omega) hj).2 i hi⟩;obtain⟨j,hj,rfl⟩:=List.getElem_of_mem hx;exact(g j (by omega) hj).1
theorem attrIx_self(l:List IA)(i:Nat)(hi:i<l.length):attrIx l l[i].f0 0=i↔ ∀m (hm:m<i),(l[m]'(by omega)).f0≠l[i].f0:=by
 rcases attrIx_get l l[i].f0 0 (by omega)with⟨g,g2⟩|⟨j,hj,g1,g2,_,g4⟩
 ·exfalso
  have:=attrOf_mem (l:=l) (s:=l[i].f0);have hne: ∀x∈l,x.f0≠l[i].f0:=by
   intro x hx e;rcases attrIx_get l l[i].f0 0 (by omega)with⟨q,_⟩|⟨j,hj,q1,q2,_,_⟩
   ·have key: ∀(l:List IA) (s:ByteArray) (n:Int),0≤n→attrIx l s n= -1→ ∀x∈l,x.f0≠s:=by
     intro l;induction l with
     |nil=>intro s n _ _ x hx;simp at hx
     |cons y r ih=>
      intro s n hn hq x hx;unfold attrIx at hq;by_cases c:y.f0.toList=s.toList
      ·rw[if_pos c]at hq;omega
      ·rw[if_neg c]at hq;rcases List.mem_cons.1 hx with rfl|hx
       ·exact fun e=>c (toList_iff.2 e)
       ·exact ih s (n+1) (by omega) hq x hx
    exact key l _ 0 (by omega) q x hx e
   ·omega
  exact hne l[i] (List.getElem_mem _) rfl
 ·rw[g1];constructor
  ·intro e m hm;have:j=i:=by omega
   subst this;exact g4 m hm
  ·intro h;rcases Nat.lt_trichotomy i j with c|c|c
   ·exact absurd rfl (g4 i c)
   ·omega
   ·exact absurd g2 (h j c)
theorem impl_AttrsOk_l(l:List IA)(hl:l.length≤20)(hs: ∀x∈l,x.f0.size≤1048576∧x.f1.size≤1048576): ∀(d i:Nat),i+d=l.length→ ∃r,Ev (fun k=>impl_AttrsOk.l0 k l l (l.length:Int) i) r∧(r=true↔okFrom l i):=by
 intro d;induction d with
 |zero=>
  intro i h;refine⟨true, ?_,by simp;intro j h1 h2;omega⟩;refine ev_succ ?_;simp only[impl_AttrsOk.l0];exact ev_neg (by omega) (Ev.now _)
 |succ d ih=>
  intro i h;have hi:i<l.length:=by omega
  obtain⟨r,hr,hrr⟩:=ih (i+1) (by omega);have hrd:rd_T72 l (i:Int)=l[i]:=rdA (l:=l) (i:=(i:Int)) (by omega) (by omega);have hstep:okFrom l i↔(attrOkB l[i]=true∧ ∀m (hm:m<i),(l[m]'(by omega)).f0≠l[i].f0)∧okFrom l (i+1):=by
   constructor
   ·intro g;exact⟨g i (Nat.le_refl _) hi,fun j hj h=>g j (by omega) h⟩
   ·rintro⟨g1,g2⟩ j hj h;by_cases e:j=i
    ·subst e;exact g1
    ·exact g2 j (by omega) h
  have hat:=impl_attrAt_ev l l[i].f0 (by omega);have hok:=impl_attrOk_ev l[i] (hs _ (List.getElem_mem _));have hself:=attrIx_self l i hi;by_cases c1:attrIx l l[i].f0 0=(i:Int)
  ·by_cases c2:attrOkB l[i]=true
   ·refine⟨r, ?_,by rw[hrr,hstep];exact⟨fun g=>⟨⟨c2,hself.1 c1⟩,g⟩,fun g=>g.2⟩⟩;refine ev_succ ?_;simp only[impl_AttrsOk.l0];rw[hrd,w64 (x:=(i:Int)+1) (by omega) (by omega)];exact ev_pos (by omega) (ev_pos (by omega) (ev_pos (by omega) (Ev.bind hat (ev_pos c1 (Ev.bind hok (ev_pos c2 hr))))))
   ·refine⟨false, ?_,by rw[hstep];simp [c2]⟩;refine ev_succ ?_;simp only[impl_AttrsOk.l0];rw[hrd];exact ev_pos (by omega) (ev_pos (by omega) (ev_pos (by omega) (Ev.bind hat (ev_pos c1 (Ev.bind hok (ev_neg c2 (Ev.now _)))))))
  ·refine⟨false, ?_, ?_⟩
   ·refine ev_succ ?_;simp only[impl_AttrsOk.l0];rw[hrd];exact ev_pos (by omega) (ev_pos (by omega) (ev_pos (by omega) (Ev.bind hat (ev_neg c1 (Ev.now _)))))
   ·rw[hstep];constructor
    ·intro g;simp at g
    ·rintro⟨⟨_,g⟩,_⟩;exact absurd (hself.2 g) c1
theorem impl_AttrsOk_ev(l:List IA)(hs: ∀x∈l,x.f0.size≤1048576∧x.f1.size≤1048576): ∃r,Ev (fun k=>impl_AttrsOk.f k l) r∧(r=true↔attrsOkP l):=by
 by_cases h:l.length≤20
 ·obtain⟨r,hr,hrr⟩:=impl_AttrsOk_l l h hs l.length 0 (by omega);refine⟨r, ?_,by rw[hrr,okFrom_zero l h]⟩;unfold impl_AttrsOk.f;exact ev_neg (by omega) hr
 ·refine⟨false, ?_,by unfold attrsOkP;simp [h]⟩;unfold impl_AttrsOk.f;exact ev_pos (by omega) (Ev.now _)
theorem spec_AttrsOk_l(l:List IA)(hl:l.length≤20)(hs: ∀x∈l,x.f0.size≤1048576∧x.f1.size≤1048576): ∀(d i:Nat),i+d=l.length→ ∃r,Ev (fun k=>spec_AttrsOk.l0 k l i) r∧(r=true↔okFrom l i):=by
 intro d;induction d with
 |zero=>
  intro i h;refine⟨true, ?_,by simp;intro j h1 h2;omega⟩;refine ev_succ ?_;simp only[spec_AttrsOk.l0];exact ev_neg (by omega) (Ev.now _)
 |succ d ih=>
  intro i h;have hi:i<l.length:=by omega
  obtain⟨r,hr,hrr⟩:=ih (i+1) (by omega);have hrd: ∀(j:Nat) (hj:j<l.length),rd_T72 l (j:Int)=l[j]:=fun j hj=>rdA (l:=l) (i:=(j:Int)) (by omega) (by omega)
  have hstep:okFrom l i↔(attrOkB l[i]=true∧ ∀m (hm:m<i),(l[m]'(by omega)).f0≠l[i].f0)∧okFrom l (i+1):=by
   constructor
   ·intro g;exact⟨g i (Nat.le_refl _) hi,fun j hj h=>g j (by omega) h⟩
   ·rintro⟨g1,g2⟩ j hj h;by_cases e:j=i
    ·subst e;exact g1
    ·exact g2 j (by omega) h
  have hok:=spec_l4Attr_ev l[i] (hs _ (List.getElem_mem _));have inner: ∀(e m:Nat),m+e=i→ ∃r2,Ev (fun k=>spec_AttrsOk.l1 k l i m) r2∧(r2=true↔(∀m' (hm:m'<i),m≤m'→(l[m']'(by omega)).f0≠l[i].f0)∧okFrom l (i+1)):=by
   intro e;induction e with
   |zero=>
    intro m hm;refine⟨r, ?_, ?_⟩
    ·refine ev_succ ?_;simp only[spec_AttrsOk.l1];rw[w64 (x:=(i:Int)+1) (by omega) (by omega)];exact ev_neg (by omega) hr
    ·rw[hrr];constructor
     ·intro g;exact⟨fun m' h1 h2=>by omega,g⟩
     ·intro g;exact g.2
   |succ e ihe=>
    intro m hm;obtain⟨r2,h2,h3⟩:=ihe (m+1) (by omega);by_cases c:(l[m]'(by omega)).f0=l[i].f0
    ·refine⟨false, ?_, ?_⟩
     ·refine ev_succ ?_;simp only[spec_AttrsOk.l1];rw[hrd m (by omega),hrd i hi];exact ev_pos (by omega) (ev_pos (by omega) (ev_pos (by omega) (ev_pos (by omega) (ev_pos (by omega) (ev_pos (toList_iff.2 c) (Ev.now _))))))
     ·constructor
      ·intro g;simp at g
      ·rintro⟨g,_⟩;exact absurd c (g m (by omega) (Nat.le_refl _))
    ·refine⟨r2, ?_, ?_⟩
     ·refine ev_succ ?_;simp only[spec_AttrsOk.l1];rw[hrd m (by omega),hrd i hi,w64 (x:=(m:Int)+1) (by omega) (by omega)];exact ev_pos (by omega) (ev_pos (by omega) (ev_pos (by omega) (ev_pos (by omega) (ev_pos (by omega) (ev_neg (fun g=>c (toList_iff.1 g)) h2)))))
     ·rw[h3];constructor
      ·rintro⟨g1,g2⟩;refine⟨fun m' hm' hle=> ?_,g2⟩;by_cases e:m'=m
       ·subst e;exact c
       ·exact g1 m' hm' (by omega)
      ·rintro⟨g1,g2⟩;exact⟨fun m' hm' hle=>g1 m' hm' (by omega),g2⟩
  obtain⟨r2,h2,h3⟩:=inner i 0 (by omega);by_cases c2:attrOkB l[i]=true
  ·refine⟨r2, ?_, ?_⟩
   ·refine ev_succ ?_;simp only[spec_AttrsOk.l0];rw[hrd i hi];exact ev_pos (by omega) (ev_pos (by omega) (Ev.bind hok (ev_pos c2 h2)))
   ·rw[h3,hstep];constructor
    ·rintro⟨g1,g2⟩;exact⟨⟨c2,fun m hm=>g1 m hm (by omega)⟩,g2⟩
    ·rintro⟨⟨_,g1⟩,g2⟩;exact⟨fun m hm _=>g1 m hm,g2⟩
  ·refine⟨false, ?_,by rw[hstep];simp [c2]⟩;refine ev_succ ?_;simp only[spec_AttrsOk.l0];rw[hrd i hi];exact ev_pos (by omega) (ev_pos (by omega) (Ev.bind hok (ev_neg c2 (Ev.now _))))
theorem spec_AttrsOk_ev(l:List IA)(hs: ∀x∈l,x.f0.size≤1048576∧x.f1.size≤1048576): ∃r,Ev (fun k=>spec_AttrsOk.f k l) r∧(r=true↔attrsOkP l):=by
 by_cases h:l.length≤20
 ·obtain⟨r,hr,hrr⟩:=spec_AttrsOk_l l h hs l.length 0 (by omega);refine⟨r, ?_,by rw[hrr,okFrom_zero l h]⟩;unfold spec_AttrsOk.f;exact ev_neg (by omega) hr
 ·refine⟨false, ?_,by unfold attrsOkP;simp [h]⟩;unfold spec_AttrsOk.f;exact ev_pos (by omega) (Ev.now _)
def parAt(P:List Int)(i:Int):Int:=if 0≤i then P.getD i.toNat (-1)else-1
def aboveB(P:List Int)(a:Int):Nat→Int→Bool
 |0,b=>decide (0≤b)
 |k+1,b=>if b=a then true else if 0≤b then aboveB P a k (parAt P b)else false
def upOk(P:List Int):Nat→Int→Bool
 |0,u=>decide (u<0)
 |m+1,u=>if u<0 then true else upOk P m (parAt P u)
def ups(P:List Int)(i:Int):Nat→Int
 |0=>i
 |k+1=>parAt P (ups P i k)
theorem ups_neg{P:List Int}{i:Int}{k:Nat}(h:ups P i k<0): ∀d,ups P i (k+d)<0:=by
 intro d;induction d with
 |zero=>exact h
 |succ d ih=>
  show parAt P (ups P i (k+d))<0
  unfold parAt;rw[if_neg (by omega)];omega
theorem ups_par(P:List Int)(i:Int): ∀k,ups P (parAt P i) k=ups P i (k+1):=by
 intro k;induction k with
 |zero=>rfl
 |succ k ih=>show parAt P (ups P (parAt P i) k)=parAt P (ups P i (k+1));rw[ih]
theorem ups_add(P:List Int)(i:Int)(j:Nat): ∀k,ups P (ups P i j) k=ups P i (j+k):=by
 intro k;induction k with
 |zero=>rfl
 |succ k ih=>show parAt P (ups P (ups P i j) k)=parAt P (ups P i (j+k));rw[ih]
theorem upOk_iff(P:List Int): ∀m u,upOk P m u=true↔ups P u m<0:=by
 intro m;induction m with
 |zero=>intro u;simp [upOk,ups]
 |succ m ih=>
  intro u;unfold upOk;by_cases h:u<0
  ·rw[if_pos h];have:=ups_neg (P:=P) (i:=u) (k:=0) h (m+1);simp only[Nat.zero_add]at this;simp [this]
  ·rw[if_neg h,ih,ups_par]
theorem above_iff(P:List Int)(a:Int)(ha:0≤a): ∀k b,aboveB P a k b=true↔(∃j,j<k∧ups P b j=a)∨0≤ups P b k:=by
 intro k;induction k with
 |zero=>intro b;simp [aboveB,ups]
 |succ k ih=>
  intro b;unfold aboveB;by_cases h:b=a
  ·rw[if_pos h];simp only[true_iff];exact .inl ⟨0,by omega,h⟩
  ·rw[if_neg h];by_cases hb:0≤b
   ·rw[if_pos hb,ih];constructor
    ·rintro (⟨j,hj,e⟩|e)
     ·exact .inl ⟨j+1,by omega,by rw[←ups_par];exact e⟩
     ·exact .inr (by rw[←ups_par];exact e)
    ·rintro (⟨j,hj,e⟩|e)
     ·cases j with
      |zero=>exact absurd e h
      |succ j=>exact .inl ⟨j,by omega,by rw[ups_par];exact e⟩
     ·exact .inr (by rw[ups_par];exact e)
   ·rw[if_neg hb];have hn:=fun d=>ups_neg (P:=P) (i:=b) (k:=0) (by show b<0;omega) d
    simp only[Nat.zero_add]at hn;constructor
    ·intro h_;cases h_
    ·rintro (⟨j,hj,e⟩|e)
     ·have:=hn j;omega
     ·have:=hn (k+1);omega
theorem ups_round(P:List Int)(i:Int)(j:Nat)(h:ups P i j=i): ∀m,ups P i (m*j)=i:=by
 intro m;induction m with
 |zero=>rw[Nat.zero_mul];rfl
 |succ m ih=>rw[Nat.succ_mul,←ups_add,ih,h]
theorem above_up(P:List Int)(n:Nat)(i:Int)(hi:0≤i):aboveB P i n (parAt P i)=false↔upOk P (n+1) i=true:=by
 rw[upOk_iff];have h:=above_iff P i hi n (parAt P i);constructor
 ·intro hf;apply Classical.byContradiction;intro hc;rw[h.2 (.inr (by rw[ups_par];omega))]at hf;cases hf
 ·intro hneg;apply Bool.eq_false_iff.2;intro ht;rcases h.1 ht with⟨j,hj,e⟩|e
  ·rw[ups_par]at e;have h1:=ups_round P i (j+1) e (n+1);have h2:=ups_neg hneg ((n+1)*(j+1)- (n+1));have h3:n+1≤(n+1)*(j+1):=Nat.le_mul_of_pos_right _ (by omega);rw[show n+1+((n+1)*(j+1)- (n+1))=(n+1)*(j+1)by omega,h1]at h2;omega
  ·rw[ups_par]at e;omega
def kidsRun(P:List Int)(lo at':Int):List Int→List Bool→Option (List Bool)
 | [],s=>some s
 |k::r,s=>if lo≤k∧k<P.length∧P.getD k.toNat 0=at'∧s.getD k.toNat false=false then kidsRun P lo at' r (s.set k.toNat true)else none
def kidsAll(P:List Int)(lo:Int):Int→List (List Int)→List Bool→Option (List Bool)
 |_,[],s=>some s
 |i,K::r,s=>(kidsRun P lo i K s).bind (kidsAll P lo (i+1) r)
theorem kidsRun_same(P:List Int)(at':Int)(h0:0≤at')(hP:P.getD 0 0= -1): ∀(K:List Int) (s:List Bool),kidsRun P 0 at' K s=kidsRun P 1 at' K s:=by
 intro K;induction K with
 |nil=>intro s;rfl
 |cons k r ih=>
  intro s;unfold kidsRun;by_cases h:0≤k∧k<P.length∧P.getD k.toNat 0=at'∧s.getD k.toNat false=false
  ·have hk:1≤k:=by
    apply Classical.byContradiction;intro hc;have:k=0:=by omega
    subst this;have h3:=h.2.2.1;simp only[Int.toNat_zero]at h3;omega
   rw[if_pos h,if_pos ⟨hk,h.2⟩,ih]
  ·rw[if_neg h,if_neg (fun g=>h ⟨by omega,g.2⟩)]
theorem kidsAll_same(P:List Int)(hP:P.getD 0 0= -1): ∀(K:List (List Int)) (i:Int) (s:List Bool),0≤i→kidsAll P 0 i K s=kidsAll P 1 i K s:=by
 intro K;induction K with
 |nil=>intro i s _;rfl
 |cons k r ih=>
  intro i s h;unfold kidsAll;rw[kidsRun_same P i h hP];cases kidsRun P 1 i k s with
  |none=>rfl
  |some t=>simp only[Option.bind_some];exact ih (i+1) t (by omega)
def seenIn(P:List Int)(m:Int)(s:List Bool):Prop:=s.length=P.length∧ ∀j:Nat,s.getD j false=true→0≤P.getD j 0∧P.getD j 0<m
theorem kidsRun_in(P:List Int)(lo at' m:Int)(h0:0≤at')(h1:at'<m): ∀(K:List Int) (s t:List Bool),seenIn P m s→kidsRun P lo at' K s=some t→seenIn P m t:=by
 intro K;induction K with
 |nil=>intro s t h e;unfold kidsRun at e;cases e;exact h
 |cons k r ih=>
  intro s t h e;unfold kidsRun at e;by_cases c:lo≤k∧k<P.length∧P.getD k.toNat 0=at'∧s.getD k.toNat false=false
  ·rw[if_pos c]at e;refine ih _ t ⟨by rw[List.length_set];exact h.1,fun j hj=> ?_⟩ e;by_cases hk:j=k.toNat
   ·subst hk;omega
   ·rw[List.getD_eq_getElem?_getD,List.getElem?_set_ne (by omega),←List.getD_eq_getElem?_getD]at hj;exact h.2 j hj
  ·rw[if_neg c]at e;cases e
theorem kidsAll_in(P:List Int)(lo m:Int): ∀(K:List (List Int)) (i:Int) (s t:List Bool),0≤i→i+K.length≤m→seenIn P m s→kidsAll P lo i K s=some t→seenIn P m t:=by
 intro K;induction K with
 |nil=>intro i s t _ _ h e;unfold kidsAll at e;cases e;exact h
 |cons k r ih=>
  intro i s t h0 h1 h e;unfold kidsAll at e;simp only[List.length_cons]at h1;obtain⟨u,e1,e2⟩:=Ob e;exact ih (i+1) u t (by omega) (by omega) (kidsRun_in P lo i m h0 (by omega) k s u h e1) e2
def aboveN(P:List Int)(a:Int):Nat→Int→Bool
 |0,b=>decide (0≤b∧b<P.length)
 |k+1,b=>if b=a then true else if 0≤b∧b<P.length then aboveN P a k (P.getD b.toNat 0)else false
def parsIn(P:List Int):Prop:= ∀j:Nat,j<P.length→ -1≤P.getD j 0∧P.getD j 0<P.length
theorem parAt_in{P:List Int}{b:Int}(h0:0≤b)(h1:b<P.length):parAt P b=P.getD b.toNat 0:=by
 unfold parAt;rw[if_pos h0,List.getD_eq_getElem?_getD,List.getD_eq_getElem?_getD,List.getElem?_eq_getElem (by omega)];rfl
theorem aboveN_eq(P:List Int)(a:Int)(hP:parsIn P): ∀(k:Nat) (b:Int),b<P.length→aboveN P a k b=aboveB P a k b:=by
 intro k;induction k with
 |zero=>intro b hb;unfold aboveN aboveB;by_cases h:0≤b<;>simp [h,hb]
 |succ k ih=>
  intro b hb;unfold aboveN aboveB;by_cases h:b=a
  ·rw[if_pos h,if_pos h]
  ·rw[if_neg h,if_neg h];by_cases h0:0≤b
   ·rw[if_pos ⟨h0,hb⟩,if_pos h0,parAt_in h0 hb];exact ih _ (hP b.toNat (by omega)).2
   ·rw[if_neg (by omega),if_neg h0]
def linksI(P:List Int)(K:List (List Int)):Bool:=match kidsAll P 0 0 K (List.replicate P.length false)with
 |none=>false
 |some s=>(List.range P.length).all fun i=> !(decide (P.getD i 0= -1)==s.getD i false) && !aboveN P i P.length (P.getD i 0)
def linksS(P:List Int)(K:List (List Int)):Bool:=match kidsAll P 1 0 K (List.replicate P.length false)with
 |none=>false
 |some s=>(List.range P.length).all fun i=>(s.getD i false==decide (0≤P.getD i 0)) && upOk P (P.length+1) i
theorem links_same(P:List Int)(K:List (List Int))(hl:K.length=P.length)(h0:P.getD 0 0= -1):linksI P K=true↔parsIn P∧linksS P K=true:=by
 unfold linksI linksS;rw[kidsAll_same P h0 K 0 _ (by omega)];cases he:kidsAll P 1 0 K (List.replicate P.length false)with
 |none=>simp
 |some s=>
  have hs:seenIn P P.length s:=kidsAll_in P 1 P.length K 0 _ s (by omega) (by omega) ⟨by simp,fun j hj=>by
   rw[List.getD_eq_getElem?_getD]at hj;by_cases hjl:j<P.length
   ·rw[List.getElem?_eq_getElem (by simpa using hjl)]at hj;simp at hj
   ·rw[List.getElem?_eq_none (by simpa using hjl)]at hj;simp at hj⟩ he
  simp only[List.all_eq_true,List.mem_range,Bool.and_eq_true,Bool.not_eq_true',beq_iff_eq,beq_eq_false_iff_ne,ne_eq];constructor
  ·intro h;have hP:parsIn P:=fun j hj=>by
    have h1:=(h j hj).1;have h2:=hs.2 j;by_cases e:P.getD j 0= -1
    ·omega
    ·have:s.getD j false=true:=by
      rw[decide_eq_false e]at h1;cases hsj:s.getD j false with
      |true=>rfl
      |false=>exact absurd hsj.symm h1
     have:=h2 this;omega
   refine⟨hP,fun i hi=> ?_⟩;obtain⟨h1,h2⟩:=h i hi;have hr:=hP i hi;constructor
   ·by_cases e:P.getD i 0= -1
    ·rw[decide_eq_true e]at h1;rw[decide_eq_false (by omega)];cases hsj:s.getD i false with
     |false=>rfl
     |true=>exact absurd hsj.symm h1
    ·rw[decide_eq_false e]at h1;rw[decide_eq_true (by omega)];cases hsj:s.getD i false with
     |true=>rfl
     |false=>exact absurd hsj.symm h1
   ·rw[aboveN_eq P i hP P.length _ hr.2]at h2;rw[←above_up P P.length i (by omega),parAt_in (by omega) (by omega)];exact h2
  ·rintro⟨hP,h⟩ i hi;obtain⟨h1,h2⟩:=h i hi;have hr:=hP i hi;constructor
   ·rw[h1];intro hc;by_cases e:P.getD i 0= -1
    ·rw[decide_eq_true e,decide_eq_false (by omega)]at hc;cases hc
    ·rw[decide_eq_false e,decide_eq_true (by omega)]at hc;cases hc
   ·rw[aboveN_eq P i hP P.length _ hr.2];have:=(above_up P P.length i (by omega)).2 h2;rw[parAt_in (by omega) (by omega)]at this;exact this
abbrev IN:=S41
abbrev LN:=S70
def kindP(x:IN):Prop:=
 (x.f0=1∧x.f1.toList= []∧x.f3.toList= []∧x.f2.length=0)∨
 (x.f0=2∧x.f3.toList= []∧x.f2.length=0∧x.f1.size≤60∧textOk x.f1=true∧x.f5.length=0)∨
 (x.f0=3∧x.f3.toList= []∧nameOk x.f1=true∧attrsOkP x.f2)∨
 (x.f0=4∧x.f1.toList= []∧x.f2.length=0∧ ¬x.f3.toList= []∧textOk x.f3=true∧x.f5.length=0)∨
 (x.f0=5∧x.f1.toList= []∧x.f2.length=0∧textOk x.f3=true∧x.f5.length=0)
def parsOf(xs:List IN):List Int:=xs.map (·.f4)
def kidsOf(xs:List IN):List (List Int):=xs.map (·.f5)
def nodeP(x:IN)(i:Int):Prop:=kindP x∧(x.f0=1↔i=0)∧(i=0→x.f4= -1)
def rightP(xs:List IN):Prop:=1≤xs.length∧xs.length≤500∧(∀(i:Nat) (h:i<xs.length),nodeP xs[i] i)∧parsIn (parsOf xs)∧linksS (parsOf xs) (kidsOf xs)=true
def smallN(x:IN):Prop:=x.f1.size≤1048576∧x.f2.length≤1048576∧(∀a∈x.f2,a.f0.size≤1048576∧a.f1.size≤1048576)∧x.f3.size≤1048576∧(-9223372036854775808≤x.f4∧x.f4≤9223372036854775807)∧x.f5.length≤1048576∧ ∀k∈x.f5, -9223372036854775808≤k∧k≤9223372036854775807
def smallT(xs:List IN):Prop:=xs.length≤1048576∧ ∀x∈xs,smallN x
theorem rdN{l:List IN}{i:Int}(h0:0≤i)(h:i<l.length):rd_T41 l i=l[i.toNat]'(by omega):=by
 unfold rd_T41;rw[List.getD_eq_getElem?_getD,List.getElem?_eq_getElem (by omega)];rfl
theorem rdLN{l:List LN}{i:Int}(h0:0≤i)(h:i<l.length):rd_T70 l i=l[i.toNat]'(by omega):=by
 unfold rd_T70;rw[List.getD_eq_getElem?_getD,List.getElem?_eq_getElem (by omega)];rfl
theorem rdN'{l:List IN}{i:Nat}(h:i<l.length):rd_T41 l (i:Int)=l[i]:=by
 rw[rdN (by omega) (by omega)];rfl
theorem smallN_at{xs:List IN}(h:smallT xs){i:Int}(h0:0≤i)(h1:i<xs.length):smallN (rd_T41 xs i):=by
 rw[rdN h0 h1];exact h.2 _ (List.getElem_mem _)
theorem pars_at{xs:List IN}{i:Int}(h0:0≤i)(h1:i<xs.length)(d:Int):(parsOf xs).getD i.toNat d=(rd_T41 xs i).f4:=by
 rw[rdN h0 h1];unfold parsOf;rw[List.getD_eq_getElem?_getD,List.getElem?_map,List.getElem?_eq_getElem (by omega)];rfl
theorem kids_at{xs:List IN}{i:Int}(h0:0≤i)(h1:i<xs.length):(kidsOf xs).drop i.toNat=(rd_T41 xs i).f5::(kidsOf xs).drop (i+1).toNat:=by
 rw[rdN h0 h1];unfold kidsOf;rw[show(i+1).toNat=i.toNat+1 by omega,List.drop_eq_getElem_cons (by simp;omega)];simp
theorem rd_in{l:List Int}{j:Int}(h0:0≤j)(h1:j<l.length):rd l j∈l:=by
 unfold rd;rw[List.getD_eq_getElem?_getD,List.getElem?_eq_getElem (by omega)];exact List.getElem_mem _
theorem rd_dropI{l:List Int}{j:Int}(h0:0≤j)(h1:j<l.length):l.drop j.toNat=rd l j::l.drop (j+1).toNat:=by
 unfold rd;rw[List.getD_eq_getElem?_getD,List.getElem?_eq_getElem (by omega),show(j+1).toNat=j.toNat+1 by omega,List.drop_eq_getElem_cons (by omega)];rfl
theorem parsOf_length(xs:List IN):(parsOf xs).length=xs.length:=by simp [parsOf]
theorem kidsOf_length(xs:List IN):(kidsOf xs).length=xs.length:=by simp [kidsOf]
theorem ev_some'{α:Type}{g:Option α}{r:α}(h:g=some r):Ev (fun _=>g) r:=by rw[h];exact Ev.now _
abbrev addN(x:IN):IN:=⟨x.f0,x.f1,x.f2,x.f3, -1,[]⟩
theorem l6Add_eq{xs:List IN}(hl:xs.length≤500)(x:IN)(h:smallN x)(ks:List Int):spec_l6Add.f xs x.f0 x.f1 x.f2 x.f3 x.f4 ks=some (xs++ [addN x],(xs.length:Int)):=by
 unfold spec_l6Add.f;rw[if_pos (by have:=h.2.1;omega),if_pos (by omega)]
theorem small_addN{x:IN}(h:smallN x):smallN (addN x):=⟨h.1,h.2.1,h.2.2.1,h.2.2.2.1,by simp,by simp,by simp⟩
theorem takeSnoc{xs:List IN}{i:Int}(h0:0≤i)(h1:i<xs.length):xs.take i.toNat++ [rd_T41 xs i]=xs.take (i+1).toNat:=by
 rw[rdN h0 h1,show(i+1).toNat=i.toNat+1 by omega,List.take_succ_eq_append_getElem (by omega)]
theorem l6Copy_l{xs:List IN}(hs:smallT xs)(hn:xs.length≤999999): ∀(d:Nat) (i:Int),0≤i→i+d=xs.length→Ev (fun k=>spec_l6Copy.l0 k i xs (xs.take i.toNat)) xs:=by
 have hl:=hs.1;intro d;induction d with
 |zero=>
  intro i h0 h;refine ev_succ ?_;simp only[spec_l6Copy.l0];exact ev_neg (by omega) (ev_some (List.take_of_length_le (by omega)))
 |succ d ih=>
  intro i h0 h;have hx:=smallN_at hs (i:=i) h0 (by omega);have ht:(xs.take i.toNat).length≤999999:=by rw[List.length_take];omega
  refine ev_succ ?_;simp only[spec_l6Copy.l0];rw[w64 (x:=i+1) (by omega) (by omega)];refine ev_pos (by omega) (ev_pos h0 (ev_pos hx.2.1 (ev_pos hx.2.2.2.2.2.1 (ev_pos (by omega) ?_))));have:=ih (i+1) (by omega) (by omega);rw[←takeSnoc h0 (by omega)]at this;exact this
theorem l6Copy_ev{xs:List IN}(hs:smallT xs)(hn:xs.length≤999999):Ev (fun k=>spec_l6Copy.f k xs) xs:=l6Copy_l hs hn xs.length 0 (by omega) (by omega)
theorem l6Less_l(l:List Int)(a:Int)(hl:l.length≤1048576): ∀(d:Nat) (acc:List Int) (i:Int),0≤i→i+d=l.length→(acc.length:Int)≤i→(∀x∈acc,x∈l)→EvP (fun k=>spec_l6Less.l0 k l a acc i) (fun r=>r.length≤l.length∧ ∀x∈r,x∈l):=by
 intro d;induction d with
 |zero=>
  intro acc i h0 h1 h2 h3;refine EvP.succ ?_;simp only[spec_l6Less.l0];exact EvP.neg (by omega) (EvP.some ⟨by omega,h3⟩)
 |succ d ih=>
  intro acc i h0 h1 h2 h3;refine EvP.succ ?_;simp only[spec_l6Less.l0];rw[w64 (by omega) (by omega)];refine EvP.pos (by omega) (EvP.pos h0 (EvP.ite (fun _=>ih acc (i+1) (by omega) (by omega) (by omega) h3) (fun _=>EvP.pos (by omega) (ih _ (i+1) (by omega) (by omega) (by rw[List.length_append,List.length_singleton];omega) (fun x hx=> ?_)))));rcases List.mem_append.1 hx with hx|hx
  ·exact h3 x hx
  ·rw[List.mem_singleton.1 hx];unfold rd;rw[List.getD_eq_getElem?_getD,List.getElem?_eq_getElem (by omega)];exact List.getElem_mem _
theorem l6Less_p(l:List Int)(a:Int)(hl:l.length≤1048576):EvP (fun k=>spec_l6Less.f k l a) (fun r=>r.length≤l.length∧ ∀x∈r,x∈l):=
 l6Less_l l a hl l.length [] 0 (by omega) (by omega) (by simp) (by simp)
def gN(m:Nat)(x:IN):Prop:=smallN x∧x.f5.length≤m
def gT(m:Nat)(xs:List IN):Prop:=1≤xs.length∧xs.length≤500∧ ∀x∈xs,gN m x
theorem gT_small{m:Nat}{xs:List IN}(h:gT m xs):smallT xs:=⟨by have:=h.2.1;omega,fun x hx=>(h.2.2 x hx).1⟩
theorem gN_mono{m n:Nat}{x:IN}(h:gN m x)(hm:m≤n):gN n x:=⟨h.1,Nat.le_trans h.2 hm⟩
theorem gT_mono{m n:Nat}{xs:List IN}(h:gT m xs)(hm:m≤n):gT n xs:=⟨h.1,h.2.1,fun x hx=>gN_mono (h.2.2 x hx) hm⟩
theorem small_of{f0:Int}{f1:ByteArray}{f2:List IA}{f3:ByteArray}(h1:f1.size≤4000)(h2:AD 30 f2)(h3:f3.size≤4000):gN 0 ⟨f0,f1,f2,f3, -1,[]⟩:=
 ⟨⟨by show f1.size≤1048576;omega,by have:=h2.1;show f2.length≤1048576;omega,fun a ha=>by have:=h2.2 a ha;omega,by show f3.size≤1048576;omega,by show(-9223372036854775808:Int)≤ -1∧(-1:Int)≤9223372036854775807;omega,by simp,by simp⟩,by simp⟩
theorem AD_nil(n:Nat):AD n []:=⟨by simp,by simp⟩
theorem nil_size:(⟨#[]⟩:ByteArray).size≤4000:=by decide
abbrev DN(l:List Int)(y:Int×ByteArray×List IA×ByteArray×Int×List Int×Int×Int):Prop:=gN 0 ⟨y.1,y.2.1,y.2.2.1,y.2.2.2.1,y.2.2.2.2.1,[]⟩∧y.2.2.2.2.2.1= []∧0≤y.2.2.2.2.2.2.1∧y.2.2.2.2.2.2.1≤l.length
theorem l6DrawNode_p(l:List Int)(i h:Int)(hl:l.length≤1048576)(hi:0≤i∧i≤l.length):EvP (fun k=>spec_l6DrawNode.f k l i h) (DN l):=by
 unfold spec_l6DrawNode.f;refine EvP.bindS (l1Below_p l i h 4 hl hi (by omega)) (fun b hb=> ?_);refine EvP.ite (fun _=> ?_) (fun _=>EvP.ite (fun _=> ?_) (fun _=>EvP.ite (fun _=> ?_) (fun _=>EvP.ite (fun _=> ?_) (fun _=> ?_))))
 ·refine EvP.bindS (l1Pick_p l _ _ [(⟨#[104,116,109,108]⟩:ByteArray),(⟨#[]⟩:ByteArray),(⟨#[120]⟩:ByteArray)] hl hb.2 (by simp) (by simp)) (fun p hp=>EvP.some ⟨small_of ?_ (AD_nil _) nil_size,rfl,hp.2⟩);have: ∀s∈ [(⟨#[104,116,109,108]⟩:ByteArray),(⟨#[]⟩:ByteArray),(⟨#[120]⟩:ByteArray)],s.size≤4000:=by decide
  exact this _ hp.1
 ·refine EvP.bindS (l1Pick_p l _ _ [(⟨#[112]⟩:ByteArray),(⟨#[98]⟩:ByteArray),(⟨#[100,105,118]⟩:ByteArray),(⟨#[98,114]⟩:ByteArray),(⟨#[115,99,114,105,112,116]⟩:ByteArray),(⟨#[120]⟩:ByteArray)] hl hb.2 (by simp) (by simp)) (fun p hp=> ?_);have h4: ∀s∈ [(⟨#[112]⟩:ByteArray),(⟨#[98]⟩:ByteArray),(⟨#[100,105,118]⟩:ByteArray),(⟨#[98,114]⟩:ByteArray),(⟨#[115,99,114,105,112,116]⟩:ByteArray),(⟨#[120]⟩:ByteArray)],s.size≤4000:=by decide
  refine EvP.bind (l4DrawAttrs_p l _ _ hl hp.2) (fun q hq=> ?_);obtain⟨r,hr,_⟩:=spec_AttrsOk_ev q.1 (fun x hx=>by have:=hq.1.2 x hx;omega);refine EvP.bind (EvP.of hr (Q:=fun _=>True) trivial) (fun t _=>EvP.ite (fun _=>EvP.some ⟨small_of (h4 _ hp.1) hq.1 nil_size,rfl,hq.2⟩) (fun _=>EvP.some ⟨small_of (h4 _ hp.1) (AD_nil _) nil_size,rfl,hq.2⟩))
 ·refine EvP.bindS (l1Pick_p l _ _ [(⟨#[97]⟩:ByteArray),(⟨#[120,60,121]⟩:ByteArray),(⟨#[38]⟩:ByteArray),(⟨#[194,160]⟩:ByteArray)] hl hb.2 (by simp) (by simp)) (fun p hp=>EvP.some ⟨small_of nil_size (AD_nil _) ?_,rfl,hp.2⟩);have: ∀s∈ [(⟨#[97]⟩:ByteArray),(⟨#[120,60,121]⟩:ByteArray),(⟨#[38]⟩:ByteArray),(⟨#[194,160]⟩:ByteArray)],s.size≤4000:=by decide
  exact this _ hp.1
 ·exact EvP.bindS (l4DrawText_p l _ _ hl hb.2) (fun p hp=>EvP.some ⟨small_of nil_size (AD_nil _) (by have:=hp.1;show p.1.size≤4000;omega),rfl,hp.2⟩)
 ·exact EvP.some ⟨small_of nil_size (AD_nil _) nil_size,rfl,hb.2⟩
theorem dnode_p(l:List Int)(j i h:Int)(hl:l.length≤1048576)(hi:0≤i∧i≤l.length):EvP (fun k=>spec_l6DrawRight.node k j l i h) (fun x=>smallN x.1∧0≤x.2.1∧x.2.1≤l.length):=by
 unfold spec_l6DrawRight.node;refine EvP.bind (l6DrawNode_p l i h hl hi) (fun y hy=> ?_);have hs:smallN ⟨y.1,y.2.1,y.2.2.1,y.2.2.2.1,y.2.2.2.2.1,y.2.2.2.2.2.1⟩:=by rw[hy.2.1];exact hy.1.1
 refine EvP.ite (fun _=>EvP.bindS (l1Once_p l _ _ 2 hl hy.2.2 (by omega)) (fun q hq=>EvP.ite (fun _=>EvP.some ⟨?_,hq.2⟩) (fun _=>EvP.some ⟨hs,hq.2⟩))) (fun _=>EvP.some ⟨hs,hy.2.2⟩);exact⟨by show(⟨#[112]⟩:ByteArray).size≤1048576;decide,by simp,by simp,by show(⟨#[]⟩:ByteArray).size≤1048576;decide,by simp,by simp,by simp⟩
theorem rd_last(ys:List IN)(x:IN):rd_T41 (ys++ [x]) (ys.length:Int)=x:=by
 rw[rdN (by omega) (by rw[List.length_append,List.length_singleton];omega)];simp
theorem set_gT{m:Nat}{xs:List IN}(h:gT m xs)(n:Nat){x:IN}(hx:gN m x):gT m (xs.set n x):=
 ⟨by rw[List.length_set];exact h.1,by rw[List.length_set];exact h.2.1,fun y hy=>by
  rcases List.mem_or_eq_of_mem_set hy with hy|rfl
  ·exact h.2.2 y hy
  ·exact hx⟩
theorem gT_at{m:Nat}{xs:List IN}(h:gT m xs){i:Int}(h0:0≤i)(h1:i<xs.length):gN m (rd_T41 xs i):=by
 rw[rdN h0 h1];exact h.2.2 _ (List.getElem_mem _)
theorem l6Take_new(k:Nat)(ys:List IN)(x:IN):spec_l6Take.f k (ys++ [addN x]) (ys.length:Int)=some (ys++ [addN x]):=by
 unfold spec_l6Take.f;rw[if_pos (by omega),if_pos (by rw[List.length_append,List.length_singleton];omega),rd_last,if_neg (by show ¬(0:Int)≤ -1;omega)]
theorem l6Hang_p{m:Nat}{ys:List IN}{x:IN}(hg:gT m (ys++ [addN x]))(p:Int)(hp:0≤p∧p<ys.length)(hm:m≤1000):EvP (fun k=>spec_l6Hang.f k (ys++ [addN x]) (ys.length:Int) p) (gT (m+1)):=by
 have hz:(ys++ [addN x]).length=ys.length+1:=by rw[List.length_append,List.length_singleton]
 have hlen:=hg.2.1;have hp2:p<((ys++ [addN x]).length:Int):=by omega
 generalize hzz:ys++ [addN x]=zs at*;have hpn:=gT_at hg hp.1 hp2;unfold spec_l6Hang.f;refine EvP.bind (EvP.of (r:=zs) (by rw[←hzz];exact ev_some' (g:=some (ys++ [addN x])) rfl|>fun h=>by simpa only[l6Take_new]using h) (Q:=fun r=>r=zs) rfl) (fun us hu=> ?_);subst hu;refine EvP.pos hp.1 (EvP.pos hp2 (EvP.bind (l6Less_p _ _ (by have:=hpn.2;omega)) (fun ks hk=>EvP.pos (by omega) (EvP.pos (by omega) (EvP.pos (by have:=hpn.2;have:=hk.1;omega) (EvP.some ?_))))));have hs:=hpn.1;have h1:gN (m+1) ⟨(rd_T41 us p).f0,(rd_T41 us p).f1,(rd_T41 us p).f2,(rd_T41 us p).f3,(rd_T41 us p).f4,ks++ [(ys.length:Int)]⟩:=by
  have hkl:(ks++ [(ys.length:Int)]).length≤m+1:=by rw[List.length_append,List.length_singleton];have:=hk.1;have:=hpn.2;omega
  refine⟨⟨hs.1,hs.2.1,hs.2.2.1,hs.2.2.2.1,hs.2.2.2.2.1,by show(ks++ [(ys.length:Int)]).length≤1048576;omega,fun y hy=> ?_⟩,hkl⟩;rcases List.mem_append.1 hy with hy|hy
  ·exact hs.2.2.2.2.2.2 y (hk.2 y hy)
  ·rw[List.mem_singleton.1 hy];omega
 have h2:=set_gT (gT_mono hg (Nat.le_succ m)) p.toNat h1;generalize us.set p.toNat _=vs at h2⊢;have h3l:(ys.length:Int)<vs.length∨ ¬(ys.length:Int)<vs.length:=Decidable.em _;refine set_gT h2 _ ?_;have h3:gN (m+1) (rd_T41 vs (ys.length:Int)):=by
  unfold rd_T41;rw[List.getD_eq_getElem?_getD];cases e:vs[((ys.length:Int)).toNat]? with
  |none=>exact⟨⟨by show(⟨#[]⟩:ByteArray).size≤1048576;decide,by simp [z41],by simp [z41],by show(⟨#[]⟩:ByteArray).size≤1048576;decide,by show(-9223372036854775808:Int)≤0∧(0:Int)≤9223372036854775807;omega,by simp [z41],by simp [z41]⟩,by simp [z41]⟩
  |some y=>exact h2.2.2 y (List.mem_of_getElem? e)
 have hs3:=h3.1;exact⟨⟨hs3.1,hs3.2.1,hs3.2.2.1,hs3.2.2.2.1,by show-9223372036854775808≤p∧p≤9223372036854775807;omega,hs3.2.2.2.2.2.1,hs3.2.2.2.2.2.2⟩,h3.2⟩
theorem hang_p{m:Nat}{ys:List IN}{x:IN}(l:List Int)(hl:l.length≤1048576)(hg:gT m (ys++ [addN x]))(h1:1≤ys.length)(i h:Int)(hi:0≤i∧i≤l.length)(hm:m≤1000):EvP (fun k=>spec_l6DrawRight.hang k (ys++ [addN x]) (ys.length:Int) l i h) (fun u=>gT (m+1) u.1∧0≤u.2.1∧u.2.1≤l.length):=by
 have hz:(ys++ [addN x]).length=ys.length+1:=by rw[List.length_append,List.length_singleton]
 have hlen:=hg.2.1;unfold spec_l6DrawRight.hang;refine EvP.bindS (l1Below_p l i h (ys.length:Int) hl hi (by omega)) (fun p hp=> ?_);have hp1:0≤p.1∧p.1<ys.length:=by have:=hp.1;omega
 have ho: ∃o,spec_l6Opens.f (ys++ [addN x]) p.1=some o∧True:=by
  unfold spec_l6Opens.f;rw[if_pos hp1.1,if_pos (by omega)];split
  ·exact⟨_,rfl,trivial⟩
  ·exact⟨_,rfl,trivial⟩
 refine EvP.bindS ho (fun o _=>EvP.ite (fun _=>EvP.bindS (l1Once_p l _ _ 9 hl hp.2 (by omega)) (fun q hq=>EvP.ite (fun _=>EvP.some ⟨gT_mono hg (Nat.le_succ m),hq.2⟩) (fun _=>EvP.bind (l6Hang_p hg p.1 hp1 hm) (fun us hu=>EvP.some ⟨hu,hq.2⟩)))) (fun _=>EvP.some ⟨gT_mono hg (Nat.le_succ m),hp.2⟩))
theorem drawRight_l(l:List Int)(hl:l.length≤1048576)(n:Int)(hn:n≤500): ∀(d:Nat) (j:Int) (xs:List IN) (i h:Int),0≤j→j≤500→j+d=n∨(n≤j∧d=0)→gT j.toNat xs→0≤i∧i≤l.length→EvP (fun k=>spec_l6DrawRight.l0 k j n xs l i h) (fun u=>gT 500 u.1∧0≤u.2.1∧u.2.1≤l.length):=by
 intro d;induction d with
 |zero=>
  intro j xs i h h0 h5 h1 hg hi;refine EvP.succ ?_;simp only[spec_l6DrawRight.l0];exact EvP.neg (by omega) (EvP.some ⟨gT_mono hg (by omega),hi⟩)
 |succ d ih=>
  intro j xs i h h0 h5 h1 hg hi;refine EvP.succ ?_;simp only[spec_l6DrawRight.l0];rw[w64 (by omega) (by omega)];refine EvP.pos (by omega) (EvP.bind (dnode_p l j i h hl hi) (fun x hx=>EvP.bind (EvP.of (l6Copy_ev (gT_small hg) (by have:=hg.2.1;omega)) (Q:=fun r=>r=xs) rfl) (fun ys hy=> ?_)));subst hy;simp only[l6Add_eq hg.2.1 x.1 hx.1 [],Option.bind_some];refine EvP.ite (fun _=>EvP.some ⟨gT_mono hg (by omega),hx.2⟩) (fun hc=> ?_);have hg2:gT j.toNat (ys++ [addN x.1]):=⟨by simp,by omega,fun y hy=>by
   rcases List.mem_append.1 hy with hy|hy
   ·exact hg.2.2 y hy
   ·rw[List.mem_singleton.1 hy];exact⟨small_addN hx.1,by simp⟩⟩
  refine EvP.bind (hang_p l hl hg2 hg.1 _ _ hx.2 (by omega)) (fun u hu=> ?_);refine ih (j+1) u.1 u.2.1 u.2.2 (by omega) (by omega) (by omega) ?_ hu.2;rw[show(j+1).toNat=j.toNat+1 by omega];exact hu.1
theorem l6DrawRight_p(l:List Int)(hl:l.length≤1048576)(i h:Int)(hi:0≤i∧i≤l.length):EvP (fun k=>spec_l6DrawRight.f k l i h) (fun u=>gT 500 u.1∧0≤u.2.1∧u.2.1≤l.length):=by
 unfold spec_l6DrawRight.f spec_TreeNew.f;simp only[Option.bind_some];have hg:gT 0 [(⟨1,(⟨#[]⟩:ByteArray),([]:List IA),(⟨#[]⟩:ByteArray),(-1),([]:List Int)⟩:IN)]:=⟨by simp,by simp,fun x hx=>by rw[List.mem_singleton.1 hx];exact small_of nil_size (AD_nil _) nil_size⟩
 refine EvP.bindS (l1Below_p l i h 9 hl hi (by omega)) (fun n hn=>EvP.bindS (l1Once_p l _ _ 40 hl hn.2 (by omega)) (fun q hq=> ?_));by_cases c:q.1=true
 ·simp only[if_pos c];exact drawRight_l l hl 500 (by omega) 500 0 _ _ _ (by omega) (by omega) (by omega) hg hq.2
 ·simp only[if_neg c];have:=hn.1;exact drawRight_l l hl n.1 (by omega) n.1.toNat 0 _ _ _ (by omega) (by omega) (by omega) hg hq.2
theorem setAll{m:Nat}{xs:List IN}(hs:smallT xs)(n:Nat){x:IN}(hx:smallN x):smallT (xs.set n x):=
 ⟨by rw[List.length_set];exact hs.1,fun y hy=>by
  rcases List.mem_or_eq_of_mem_set hy with hy|rfl
  ·exact hs.2 y hy
  ·exact hx⟩
theorem below_any{v n:Int}{m:Nat}(hm:m≤500)(hn:n=(m:Int)+1)(h:0≤v∧(v<n∨n≤0∧v=0)): -9223372036854775808≤v∧v≤9223372036854775807:=by omega
theorem small_par{x:IN}(h:smallN x)(y:Int)(hy: -9223372036854775808≤y∧y≤9223372036854775807):smallN ⟨x.f0,x.f1,x.f2,x.f3,y,x.f5⟩:=⟨h.1,h.2.1,h.2.2.1,h.2.2.2.1,hy,h.2.2.2.2.2.1,h.2.2.2.2.2.2⟩
theorem small_kid{x:IN}(h:smallN x)(hl:x.f5.length≤500)(y:Int)(hy: -9223372036854775808≤y∧y≤9223372036854775807):smallN ⟨x.f0,x.f1,x.f2,x.f3,x.f4,x.f5++ [y]⟩:=
 ⟨h.1,h.2.1,h.2.2.1,h.2.2.2.1,h.2.2.2.2.1,by show(x.f5++ [y]).length≤1048576;rw[List.length_append,List.length_singleton];omega,fun z hz=>by
  rcases List.mem_append.1 hz with hz|hz
  ·exact h.2.2.2.2.2.2 z hz
  ·rw[List.mem_singleton.1 hz];exact hy⟩
theorem small_kind{x:IN}(h:smallN x)(y:Int):smallN ⟨y,x.f1,x.f2,x.f3,x.f4,x.f5⟩:=⟨h.1,h.2.1,h.2.2.1,h.2.2.2.1,h.2.2.2.2.1,h.2.2.2.2.2.1,h.2.2.2.2.2.2⟩
theorem small_text{x:IN}(h:smallN x)(y:ByteArray)(hy:y.size≤4000):smallN ⟨x.f0,x.f1,x.f2,y,x.f4,x.f5⟩:=⟨h.1,h.2.1,h.2.2.1,Nat.le_trans hy (by omega),h.2.2.2.2.1,h.2.2.2.2.2.1,h.2.2.2.2.2.2⟩
theorem small_name{x:IN}(h:smallN x)(y:ByteArray)(hy:y.size≤4000):smallN ⟨x.f0,y,x.f2,x.f3,x.f4,x.f5⟩:=⟨Nat.le_trans hy (by omega),h.2.1,h.2.2.1,h.2.2.2.1,h.2.2.2.2.1,h.2.2.2.2.2.1,h.2.2.2.2.2.2⟩
theorem turn_p(l:List Int)(hl:l.length≤1048576)(m:Int)(xs:List IN)(hg:gT 500 xs)(a:Int)(h0:0≤a)(h1:a<xs.length)(i h:Int)(hi:0≤i∧i≤l.length): ∃u,spec_l6DrawTree.turn m xs a l i h=some u∧smallT u.1∧0≤u.2.1∧u.2.1≤l.length:=by
 have hn:=gT_at hg h0 h1;have hS:=gT_small hg;have hs:=hn.1;have hlen:=hg.2.1;unfold spec_l6DrawTree.turn;by_cases c5:m=5
 ·rw[if_pos c5];exact⟨_,rfl,⟨by simp,by simp⟩,hi⟩
 rw[if_neg c5];by_cases c:0≤m∧m≤4
 ·rw[if_pos c,if_pos h0,if_pos h1];by_cases m0:m=0
  ·rw[if_pos m0];obtain⟨q,e,_,hq⟩:=l1Below_p l i h 4 hl hi (by omega);rw[e,Option.bind_some];exact⟨_,rfl,setAll (m:=0) hS _ (small_par hs _ (w64_range _)),hq⟩
  rw[if_neg m0];by_cases m1:m=1
  ·rw[if_pos m1,if_pos (by have:=hn.2;omega)];have e1:=w64 (x:=(xs.length:Int)+1) (by omega) (by omega);rw[e1];obtain⟨q,e,hv,hq⟩:=l1Below_p l i h ((xs.length:Int)+1) hl hi (by omega);rw[e,Option.bind_some];exact⟨_,rfl,setAll (m:=0) hS _ (small_kid hs hn.2 _ (below_any hlen rfl hv)),hq⟩
  rw[if_neg m1];by_cases m2:m=2
  ·rw[if_pos m2];obtain⟨q,e,_,hq⟩:=l1Below_p l i h 7 hl hi (by omega);rw[e,Option.bind_some];exact⟨_,rfl,setAll (m:=0) hS _ (small_kind hs _),hq⟩
  rw[if_neg m2];by_cases m3:m=3
  ·rw[if_pos m3];exact⟨_,rfl,setAll (m:=0) hS _ (small_text hs _ (by decide)),hi⟩
  rw[if_neg m3];exact⟨_,rfl,setAll (m:=0) hS _ (small_name hs _ (by decide)),hi⟩
 ·rw[if_neg c];exact⟨_,rfl,hS,hi⟩
theorem l6DrawTree_p(l:List Int)(hl:l.length≤1048576)(i h:Int)(hi:0≤i∧i≤l.length):EvP (fun k=>spec_l6DrawTree.f k l i h) (fun u=>smallT u.1∧0≤u.2.1∧u.2.1≤l.length):=by
 unfold spec_l6DrawTree.f;refine EvP.bind (l6DrawRight_p l hl i h hi) (fun x hx=>EvP.bindS (l1Below_p l _ _ (x.1.length:Int) hl hx.2 (by have:=hx.1.2.1;omega)) (fun a ha=>EvP.bindS (l1Below_p l _ _ 25 hl ha.2 (by omega)) (fun m hm=>EvP.const ?_)));have h1:=ha.1;have h2:=hx.1.1;exact turn_p l hl m.1 x.1 hx.1 a.1 h1.1 (by omega) _ _ hm.2
theorem kidsRun_told(P:List Int)(lo at':Int)(hlo:0≤lo): ∀(K:List Int) (s t:List Bool),s.length=P.length→kidsRun P lo at' K s=some t→t.length=P.length∧K.Nodup∧ ∀k∈K,lo≤k∧k<P.length∧P.getD k.toNat 0=at'∧s.getD k.toNat false=false:=by
 intro K;induction K with
 |nil=>intro s t hs h;unfold kidsRun at h;cases h;exact⟨hs,List.nodup_nil,fun k hk=>absurd hk List.not_mem_nil⟩
 |cons k r ih=>
  intro s t hs h;unfold kidsRun at h;by_cases c:lo≤k∧k<P.length∧P.getD k.toNat 0=at'∧s.getD k.toNat false=false
  ·rw[if_pos c]at h;obtain⟨h1,h2,h3⟩:=ih _ t (by rw[List.length_set];exact hs) h;have hne: ∀x∈r,x≠k:=by
    intro x hx e;subst e;have:=(h3 x hx).2.2.2;rw[List.getD_eq_getElem?_getD,List.getElem?_set_self (by omega)]at this;cases this
   refine⟨h1,List.nodup_cons.2 ⟨fun hk=>hne k hk rfl,h2⟩,fun x hx=> ?_⟩;rcases List.mem_cons.1 hx with rfl|hx
   ·exact c
   ·obtain⟨g1,g2,g3,g4⟩:=h3 x hx;refine⟨g1,g2,g3, ?_⟩;rw[List.getD_eq_getElem?_getD,List.getElem?_set_ne (by have:=hne x hx;omega),←List.getD_eq_getElem?_getD]at g4;exact g4
  ·rw[if_neg c]at h;cases h
theorem kidsAll_told(P:List Int)(lo:Int)(hlo:0≤lo): ∀(K:List (List Int)) (i:Int) (s t:List Bool),s.length=P.length→kidsAll P lo i K s=some t→ ∀(j:Nat) (h:j<K.length),K[j].Nodup∧ ∀k∈K[j],lo≤k∧k<P.length∧P.getD k.toNat 0=i+j:=by
 intro K;induction K with
 |nil=>intro i s t _ _ j hj;simp at hj
 |cons k r ih=>
  intro i s t hs e j hj;unfold kidsAll at e;obtain⟨u,e1,e2⟩:=Ob e;obtain⟨h1,h2,h3⟩:=kidsRun_told P lo i hlo k s u hs e1;cases j with
  |zero=>exact⟨h2,fun x hx=>⟨(h3 x hx).1,(h3 x hx).2.1,by have:=(h3 x hx).2.2.1;simpa using this⟩⟩
  |succ j=>
   obtain⟨g1,g2⟩:=ih (i+1) u t h1 e2 j (by simpa using hj);exact⟨g1,fun x hx=>⟨(g2 x hx).1,(g2 x hx).2.1,by have:=(g2 x hx).2.2;omega⟩⟩
section
variable {xs:List IN}
abbrev kd(xs:List IN)(i:Int):List Int:=(rd_T41 xs i).f5
abbrev pa(xs:List IN)(i:Int):Int:=(rd_T41 xs i).f4
def inT(xs:List IN)(i:Int):Prop:=0≤i∧i<xs.length
structure RT(xs:List IN):Prop where
 one:1≤xs.length
 most:xs.length≤500
 node: ∀(i:Nat) (h:i<xs.length),nodeP xs[i] i
 kid: ∀i,inT xs i→ ∀k∈kd xs i,1≤k∧k<xs.length∧pa xs k=i
 once: ∀i,inT xs i→(kd xs i).Nodup
 par: ∀i,inT xs i→ -1≤pa xs i∧pa xs i<xs.length
 up: ∀i,inT xs i→ups (parsOf xs) i (xs.length+1)<0
theorem RT.of(h:rightP xs):RT xs:=by
 obtain⟨h1,h5,hn,hp,hl⟩:=h;unfold linksS at hl;cases e:kidsAll (parsOf xs) 1 0 (kidsOf xs) (List.replicate (parsOf xs).length false)with
 |none=>rw[e]at hl;cases hl
 |some s=>
  rw[e]at hl;simp only[List.all_eq_true,List.mem_range,Bool.and_eq_true,beq_iff_eq]at hl;have ht:=kidsAll_told (parsOf xs) 1 (by omega) (kidsOf xs) 0 _ s (by simp) e;have hk: ∀i,inT xs i→(kd xs i).Nodup∧ ∀k∈kd xs i,1≤k∧k<xs.length∧pa xs k=i:=by
   intro i hi;obtain⟨g1,g2⟩:=ht i.toNat (by rw[kidsOf_length];have:=hi.1;have:=hi.2;omega);have e2:(kidsOf xs)[i.toNat]'(by rw[kidsOf_length];have:=hi.1;have:=hi.2;omega)=kd xs i:=by
    unfold kd kidsOf;rw[rdN hi.1 hi.2,List.getElem_map]
   rw[e2]at g1 g2;refine⟨g1,fun k hk=> ?_⟩;obtain⟨q1,q2,q3⟩:=g2 k hk;rw[parsOf_length]at q2;rw[pars_at (by omega) q2]at q3;have:=hi.1;exact⟨q1,q2,by unfold pa;omega⟩
  refine⟨h1,h5,hn,fun i hi=>(hk i hi).2,fun i hi=>(hk i hi).1,fun i hi=> ?_,fun i hi=> ?_⟩
  ·have:=hp i.toNat (by rw[parsOf_length];have:=hi.1;have:=hi.2;omega);rw[pars_at hi.1 hi.2,parsOf_length]at this;exact this
  ·have:=(hl i.toNat (by rw[parsOf_length];have:=hi.1;have:=hi.2;omega)).2;rw[upOk_iff,parsOf_length,Int.toNat_of_nonneg hi.1]at this;exact this
theorem ups_kid(r:RT xs){i k:Int}(hi:inT xs i)(hk:k∈kd xs i)(d:Nat):ups (parsOf xs) k (d+1)=ups (parsOf xs) i d:=by
 obtain⟨h1,h2,h3⟩:=r.kid i hi k hk;rw[←ups_par];have:parAt (parsOf xs) k=i:=by
  unfold parAt;rw[if_pos (by omega),pars_at (by omega) h2];exact h3
 rw[this]
theorem RT.inKid(r:RT xs){i k:Int}(hi:inT xs i)(hk:k∈kd xs i):inT xs k:=by
 obtain⟨h1,h2,_⟩:=r.kid i hi k hk;exact⟨by omega,h2⟩
def deep(xs:List IN)(i:Int)(d:Nat):Prop:=0≤ups (parsOf xs) i d
theorem deep_kid(r:RT xs){i k:Int}{d:Nat}(hi:inT xs i)(hk:k∈kd xs i)(h:deep xs i d):deep xs k (d+1):=by
 unfold deep;rw[ups_kid r hi hk];exact h
theorem deep_le(r:RT xs){i:Int}{d:Nat}(hi:inT xs i)(h:deep xs i d):d≤xs.length:=by
 apply Classical.byContradiction;intro hc;have h1:=ups_neg (r.up i hi) (d- (xs.length+1));rw[show xs.length+1+(d- (xs.length+1))=d by omega]at h1;unfold deep at h;omega
def pre(xs:List IN):Nat→Int→List Int
 |0,_=> []
 |m+1,i=>i::(kd xs i).flatMap (pre xs m)
theorem flatMap_congr'{α β:Type}{l:List α}{f g:α→List β}(h: ∀x∈l,f x=g x):l.flatMap f=l.flatMap g:=by
 induction l with
 |nil=>rfl
 |cons x r ih=>rw[List.flatMap_cons,List.flatMap_cons,h x List.mem_cons_self,ih (fun y hy=>h y (List.mem_cons_of_mem _ hy))]
theorem pre_more(r:RT xs): ∀(m:Nat) (i:Int) (d:Nat),inT xs i→deep xs i d→xs.length+1≤d+m→pre xs (m+1) i=pre xs m i:=by
 intro m;induction m with
 |zero=>intro i d hi hd h;have:=deep_le r hi hd;omega
 |succ m ih=>
  intro i d hi hd h
  conv=>lhs;unfold pre
  conv=>rhs;unfold pre
  rw[flatMap_congr' (fun k hk=>ih k (d+1) (r.inKid hi hk) (deep_kid r hi hk hd) (by omega))]
def preT(xs:List IN)(i:Int):List Int:=pre xs (xs.length+1) i
theorem deep_zero{i:Int}(hi:inT xs i):deep xs i 0:=hi.1
theorem preT_eq(r:RT xs){i:Int}(hi:inT xs i):preT xs i=i::(kd xs i).flatMap (preT xs):=by
 unfold preT
 conv=>lhs;unfold pre
 rw[flatMap_congr' (fun k hk=>(pre_more r xs.length k 1 (r.inKid hi hk) (deep_kid r hi hk (deep_zero hi)) (by omega)).symm)]
theorem pre_in(r:RT xs): ∀(m:Nat) (i:Int),inT xs i→ ∀x∈pre xs m i,inT xs x∧ ∃j,ups (parsOf xs) x j=i:=by
 intro m;induction m with
 |zero=>intro i _ x hx;unfold pre at hx;exact absurd hx List.not_mem_nil
 |succ m ih=>
  intro i hi x hx;unfold pre at hx;rcases List.mem_cons.1 hx with rfl|hx
  ·exact⟨hi,0,rfl⟩
  ·obtain⟨k,hk,hx⟩:=List.mem_flatMap.1 hx;obtain⟨h1,j,hj⟩:=ih k (r.inKid hi hk) x hx;refine⟨h1,j+1, ?_⟩;show parAt (parsOf xs) (ups (parsOf xs) x j)=i
   rw[hj];have:=ups_kid r hi hk 0;exact this
theorem no_round(r:RT xs){i:Int}(hi:inT xs i)(j:Nat):ups (parsOf xs) i (j+1)≠i:=by
 intro e;have h1:=ups_round (parsOf xs) i (j+1) e (xs.length+1);have h2:=ups_neg (r.up i hi) ((xs.length+1)*(j+1)- (xs.length+1));have h3:xs.length+1≤(xs.length+1)*(j+1):=Nat.le_mul_of_pos_right _ (by omega);rw[show xs.length+1+((xs.length+1)*(j+1)- (xs.length+1))=(xs.length+1)*(j+1)by omega,h1]at h2;have:=hi.1;omega
theorem ups_split{P:List Int}{x a b:Int}{j1 j2:Nat}(h1:ups P x j1=a)(h2:ups P x j2=b)(h:j1≤j2):ups P a (j2- j1)=b:=by
 rw[←h1,ups_add,show j1+(j2- j1)=j2 by omega];exact h2
theorem nodup_flatMap'{β:Type}{f:Int→List β}: ∀ {l:List Int},l.Nodup→(∀x∈l,(f x).Nodup)→(∀x∈l,∀y∈l,x≠y→ ∀z∈f x,z ∉ f y)→(l.flatMap f).Nodup:=by
 intro l;induction l with
 |nil=>intro _ _ _;exact List.nodup_nil
 |cons a r ih=>
  intro h h1 h2;rw[List.flatMap_cons];obtain⟨ha,hr⟩:=List.nodup_cons.1 h;refine List.nodup_append.2 ⟨h1 a List.mem_cons_self,ih hr (fun x hx=>h1 x (List.mem_cons_of_mem _ hx)) (fun x hx y hy=>h2 x (List.mem_cons_of_mem _ hx) y (List.mem_cons_of_mem _ hy)), ?_⟩;intro z hz y hy e;subst e;obtain⟨b,hb,hzb⟩:=List.mem_flatMap.1 hy;exact h2 a List.mem_cons_self b (List.mem_cons_of_mem _ hb) (fun e=>ha (e ▸ hb)) z hz hzb
theorem pre_nodup(r:RT xs): ∀(m:Nat) (i:Int),inT xs i→(pre xs m i).Nodup:=by
 intro m;induction m with
 |zero=>intro i _;unfold pre;exact List.nodup_nil
 |succ m ih=>
  intro i hi;unfold pre;have key: ∀k1∈kd xs i,∀k2∈kd xs i,∀(x:Int) (j1 j2:Nat),ups (parsOf xs) x j1=k1→ups (parsOf xs) x j2=k2→j1≤j2→k1=k2:=by
   intro k1 hk1 k2 hk2 x j1 j2 e1 e2 hle;have e:=ups_split e1 e2 hle;rcases Nat.eq_zero_or_pos (j2- j1)with h0|h0
   ·rw[h0]at e;exact e
   ·exfalso
    obtain⟨q,hq⟩: ∃q,j2- j1=q+1:=⟨j2- j1- 1,by omega⟩
    rw[hq,ups_kid r hi hk1]at e;have e3:ups (parsOf xs) i (q+1)=i:=by
     show parAt (parsOf xs) (ups (parsOf xs) i q)=i
     rw[e];exact ups_kid r hi hk2 0
    exact no_round r hi q e3
  refine List.nodup_cons.2 ⟨fun hx=> ?_,nodup_flatMap' (r.once i hi) (fun k hk=>ih k (r.inKid hi hk)) (fun k1 hk1 k2 hk2 hne z hz1 hz2=>hne ?_)⟩
  ·obtain⟨k,hk,hx⟩:=List.mem_flatMap.1 hx;obtain⟨_,j,hj⟩:=pre_in r m k (r.inKid hi hk) i hx;have e3:ups (parsOf xs) i (j+1)=i:=by
    show parAt (parsOf xs) (ups (parsOf xs) i j)=i
    rw[hj];exact ups_kid r hi hk 0
   exact no_round r hi j e3
  ·obtain⟨_,j1,e1⟩:=pre_in r m k1 (r.inKid hi hk1) z hz1;obtain⟨_,j2,e2⟩:=pre_in r m k2 (r.inKid hi hk2) z hz2;rcases Nat.le_total j1 j2 with h|h
   ·exact key k1 hk1 k2 hk2 z j1 j2 e1 e2 h
   ·exact(key k2 hk2 k1 hk1 z j2 j1 e2 e1 h).symm
theorem nodup_len: ∀(n:Nat) (l:List Int),l.Nodup→(∀x∈l,0≤x∧x<n)→l.length≤n:=by
 intro n;induction n with
 |zero=>
  intro l _ h;cases l with
  |nil=>simp
  |cons x r=>have:=h x List.mem_cons_self;omega
 |succ n ih=>
  intro l hn h;have h1:=ih (l.erase (n:Int)) (hn.erase _) (fun x hx=>by
   obtain⟨g1,g2⟩:=hn.mem_erase_iff.1 hx;have:=h x g2;omega)
  have h2:=List.length_erase (a:=(n:Int)) (l:=l);split at h2
  ·have:1≤l.length:=by
    rcases l with _|⟨x,r⟩
    ·simp at*
    ·simp
   omega
  ·omega
theorem preT_len(r:RT xs){i:Int}(hi:inT xs i):(preT xs i).length≤xs.length:=
 nodup_len _ _ (pre_nodup r _ i hi) (fun x hx=>(pre_in r _ i hi x hx).1)
theorem preT_in(r:RT xs){i:Int}(hi:inT xs i): ∀x∈preT xs i,inT xs x:=fun x hx=>(pre_in r _ i hi x hx).1
theorem preT_nodup(r:RT xs){i:Int}(hi:inT xs i):(preT xs i).Nodup:=pre_nodup r _ i hi
end
section
variable {xs:List IN}
theorem below_l1(x5:List Int)(ks:List Int)(r:List Int)(hk:ks.length≤1048576): ∀(c:Nat) (st:List Int),c≤ks.length→st.length+c≤1048576→Ev (fun k=>impl_Tree_below.l0 k x5 (st++(ks.take c).reverse) xs) r→Ev (fun k=>impl_Tree_below.l1 k x5 st ks ((c:Int)- 1) xs) r:=by
 intro c;induction c with
 |zero=>
  intro st _ _ h;refine ev_succ ?_;simp only[impl_Tree_below.l1];refine ev_neg (by omega) ?_;simpa using h
 |succ c ih=>
  intro st hc hst h;refine ev_succ ?_;simp only[impl_Tree_below.l1];rw[w64 (x:=((c+1:Nat):Int)- 1- 1) (by omega) (by omega),show((c+1:Nat):Int)- 1=(c:Int)by omega];refine ev_pos (by omega) (ev_pos (by omega) (ev_pos (by omega) (ev_pos (by omega) (ih _ (by omega) (by simp;omega) ?_))));have e:ks.take (c+1)=ks.take c++ [rd ks (c:Int)]:=by
   unfold rd;rw[Int.toNat_natCast,List.take_succ_eq_append_getElem (by omega),List.getD_eq_getElem?_getD,List.getElem?_eq_getElem (by omega)];rfl
  rw[e,List.reverse_append]at h;simpa using h
theorem below_l0(rt:RT xs)(hs:smallT xs): ∀(N:Nat) (x5 x6:List Int),(x6.reverse.flatMap (preT xs)).length=N→(∀i∈x6,inT xs i)→x5.length+N≤xs.length→Ev (fun k=>impl_Tree_below.l0 k x5 x6 xs) (x5++x6.reverse.flatMap (preT xs)):=by
 have hm:=rt.most;have hge: ∀l:List Int,(∀i∈l,inT xs i)→l.length≤(l.flatMap (preT xs)).length:=by
  intro l;induction l with
  |nil=>intro _;simp
  |cons a r ih=>
   intro h;rw[List.flatMap_cons,List.length_append,preT_eq rt (h a List.mem_cons_self)];have:=ih (fun i hi=>h i (List.mem_cons_of_mem _ hi));simp only[List.length_cons];omega
 intro N;induction N with
 |zero=>
  intro x5 x6 hN h6 h5;have hz:x6= []:=by
   have:=hge x6.reverse (fun i hi=>h6 i (List.mem_reverse.1 hi));rw[hN,List.length_reverse]at this;exact List.eq_nil_of_length_eq_zero (by omega)
  subst hz;refine ev_succ ?_;simp only[impl_Tree_below.l0];refine ev_neg (by simp) (ev_some (by simp))
 |succ N ih=>
  intro x5 x6 hN h6 h5;rcases List.eq_nil_or_concat x6 with rfl|⟨y,top,rfl⟩
  ·simp at hN
  ·rw[List.concat_eq_append]at hN h6⊢;have ht:inT xs top:=h6 top (by simp);have ey: ∀i∈y,inT xs i:=fun i hi=>h6 i (by simp [hi])
   rw[List.reverse_append,List.reverse_singleton,List.singleton_append,List.flatMap_cons,preT_eq rt ht]at hN⊢;have hlen6:(y++ [top]).length≤xs.length:=by
    have:=hge (y++ [top]).reverse (fun i hi=>h6 i (List.mem_reverse.1 hi));rw[List.length_reverse,List.reverse_append,List.reverse_singleton,List.singleton_append,List.flatMap_cons,preT_eq rt ht]at this;omega
   have hw:wrap64 (((y++ [top]).length:Int)- 1)=(y.length:Int):=by
    rw[List.length_append,List.length_singleton,w64 (by simp at hlen6;omega) (by simp at hlen6;omega)];omega
   have hrd:rd (y++ [top]) (y.length:Int)=top:=by
    unfold rd;rw[Int.toNat_natCast,List.getD_eq_getElem?_getD,List.getElem?_append_right (Nat.le_refl _)];simp
   have hkl:(kd xs top).length≤1048576:=by
    have:=smallN_at hs ht.1 ht.2;exact this.2.2.2.2.2.1
   have hNN:((kd xs top).flatMap (preT xs)).length+(y.reverse.flatMap (preT xs)).length=N:=by
    simp only[List.cons_append,List.length_cons,List.length_append]at hN;omega
   have hkge:=hge (kd xs top) (fun i hi=>rt.inKid ht hi);have hyge:=hge y.reverse (fun i hi=>ey i (List.mem_reverse.1 hi));rw[List.length_reverse]at hyge;have hnext:=ih (x5++ [top]) (y++(kd xs top).reverse) (by
    rw[List.reverse_append,List.reverse_reverse,List.flatMap_append,List.length_append];exact hNN)
    (fun i hi=>by
     rcases List.mem_append.1 hi with hi|hi
     ·exact ey i hi
     ·exact rt.inKid ht (List.mem_reverse.1 hi))
    (by rw[List.length_append,List.length_singleton];omega)
   have hl1:=below_l1 (xs:=xs) (x5++ [top]) (kd xs top) _ hkl (kd xs top).length y (Nat.le_refl _) (by omega) (by rw[List.take_length];exact hnext);refine ev_succ ?_;simp only[impl_Tree_below.l0];have hkl':(rd_T41 xs top).f5.length≤1048576:=hkl;rw[hw,hrd,w64 (x:=((rd_T41 xs top).f5.length:Int)- 1) (by omega) (by omega)];have htake:(y++ [top]).take (y.length:Int).toNat=y:=by rw[Int.toNat_natCast,List.take_left'];rfl
   rw[htake];refine ev_pos (by rw[List.length_append,List.length_singleton];omega) (ev_pos (by omega) (ev_pos (by rw[List.length_append,List.length_singleton];omega) (ev_pos (by rw[List.length_append,List.length_singleton];omega) (ev_pos (by omega) (ev_pos ht.1 (ev_pos ht.2 (ev_cast hl1 ?_)))))));rw[List.reverse_append,List.reverse_reverse,List.flatMap_append];simp
theorem impl_below_ev(rt:RT xs)(hs:smallT xs){i:Int}(hi:inT xs i):Ev (fun k=>impl_Tree_below.f k xs i) (preT xs i):=by
 unfold impl_Tree_below.f;have:=below_l0 rt hs (preT xs i).length [] [i] (by simp) (fun j hj=>by rw[List.mem_singleton]at hj;rw[hj];exact hi) (by have:=preT_len rt hi;simpa using this);simpa using this
end
theorem spec_IsBlank_eq(x:Int):spec_IsBlank.f x=some (blank x):=by
 unfold spec_IsBlank.f blank;by_cases a:x=9
 ·simp [a]
 ·by_cases b:x=10
  ·simp [b]
  ·by_cases c:x=12
   ·simp [c]
   ·simp only[if_neg a,if_neg b,if_neg c,decide_eq_false a,decide_eq_false b,decide_eq_false c,Bool.false_or];rfl
theorem spec_NameOk_l0(s:ByteArray)(hl:s.size≤1000): ∀(d:Nat) (i:Int),0≤i→i+d=s.size→Ev (fun k=>spec_NameOk.l0 k s i) (((bytesOf s).drop i.toNat).all (fun x=> !outer x)):=by
 intro d;have hlen:=bytesOf_length s;induction d with
 |zero=>
  intro i h0 h;refine ev_succ ?_;simp only[spec_NameOk.l0];refine ev_neg (by omega) (ev_some ?_);rw[List.drop_of_length_le (by omega)];rfl
 |succ d ih=>
  intro i h0 h;refine ev_succ ?_;simp only[spec_NameOk.l0];have hr:=bt_range s i;rw[w64 (x:=bt s i) (by omega) (by omega),w64 (x:=i+1) (by omega) (by omega),drop_cons h0 (by omega),rd_bytesOf];simp only[spec_IsBlank_eq,Option.bind_some,List.all_cons];have hi:=ih (i+1) (by omega) (by omega);refine ev_pos (by omega) (ev_pos h0 ?_);generalize bt s i=x at*;unfold outer at hi⊢;by_cases h1:blank x=true
  ·exact ev_pos h1 (ev_some (by rw[h1];rfl))
  refine ev_neg h1 ?_;by_cases h2:x=47
  ·exact ev_pos h2 (ev_some (by simp [h2]))
  refine ev_neg h2 ?_;by_cases h3:x=62
  ·exact ev_pos h3 (ev_some (by simp [h3]))
  refine ev_neg h3 ?_;by_cases h4:x=0
  ·exact ev_pos h4 (ev_some (by simp [h4]))
  refine ev_neg h4 ?_;by_cases h5:x≥65
  ·refine ev_pos h5 ?_;by_cases h6:x≤90
   ·exact ev_pos h6 (ev_some (by simp [h5,h6]))
   ·exact ev_neg h6 (ev_cast hi (by simp [h1,h2,h3,h4,h6]))
  ·exact ev_neg h5 (ev_cast hi (by simp [h1,h2,h3,h4];omega))
theorem spec_NameOk_ev(s:ByteArray)(hs:s.size≤140737488355328):Ev (fun k=>spec_NameOk.f k s) (nameOk s):=by
 unfold spec_NameOk.f nameOk;simp only[spec_l1In_eq,Option.bind_some];have hjt:Ev (fun k=>spec_NameOk.j0 k s true) false:=by
  refine ev_succ ?_;simp only[spec_NameOk.j0];exact ev_pos (by simp) (Ev.now _)
 by_cases hsz:1≤s.size∧s.size≤60
 ·rw[decide_eq_true hsz,decide_eq_true (show(1:Int)≤s.size∧(s.size:Int)≤60 by omega)];refine ev_pos (by simp) (Ev.bind (spec_l1Ok_ev s hs) ?_);cases textOk s with
  |false=>exact ev_neg (by simp) (ev_cast hjt (by simp))
  |true=>
   refine ev_pos (by simp) (ev_pos (by omega) ?_);by_cases h1:bt s 0<97
   ·rw[decide_eq_false (show ¬(97≤bt s 0∧bt s 0≤122)by omega)];exact ev_pos h1 (ev_cast hjt (by simp))
   ·refine ev_neg h1 ?_;by_cases h2:bt s 0>122
    ·rw[decide_eq_false (show ¬(97≤bt s 0∧bt s 0≤122)by omega),decide_eq_true h2];exact ev_cast hjt (by simp)
    ·rw[decide_eq_true (show(97≤bt s 0∧bt s 0≤122)by omega),decide_eq_false h2];refine ev_succ ?_;simp only[spec_NameOk.j0];refine ev_neg (by simp) (ev_cast (spec_NameOk_l0 s (by omega) s.size 0 (by omega) (by omega)) (by simp))
 ·rw[decide_eq_false hsz,decide_eq_false (show ¬((1:Int)≤s.size∧(s.size:Int)≤60)by omega)];exact ev_neg (by simp) (ev_cast hjt (by simp))
theorem spec_l6Node_p(x:IN)(h:smallN x):EvP (fun k=>spec_l6Node.f k x.f0 x.f1 x.f2 x.f3 x.f4 x.f5) (fun r=>r=true↔kindP x):=by
 obtain⟨h1,h2,h2a,h3,h4,h5,h5a⟩:=h;have hj: ∀p:Bool,(p=true↔x.f1.toList= []∧x.f3.toList= [])→EvP (fun k=>spec_l6Node.j0 k p x.f0 x.f1 x.f2 x.f3 x.f4 x.f5) (fun r=>r=true↔kindP x):=by
  intro p hp;refine EvP.succ ?_;simp only[spec_l6Node.j0];unfold kindP;refine EvP.ite (fun e1=> ?_) (fun n1=>EvP.ite (fun e2=> ?_) (fun n2=>EvP.ite (fun e3=> ?_) (fun n3=>EvP.ite (fun e4=> ?_) (fun n4=>EvP.ite (fun e5=> ?_) (fun n5=>EvP.some ?_)))))
  ·rw[e1];refine EvP.ite (fun hq=>EvP.some ?_) (fun hq=>EvP.some ?_)
   ·have:=hp.1 hq;simp [this]
   ·have: ¬(x.f1.toList= []∧x.f3.toList= []):=fun g=>hq (hp.2 g)
    simp only[Bool.false_eq_true,false_iff];rintro (g|g|g|g|g)
    ·exact this ⟨g.2.1,g.2.2.1⟩
    all_goals exact absurd g.1 (by decide)
  ·rw[e2];refine EvP.ite (fun a1=>EvP.ite (fun a2=>EvP.ite (fun a3=>EvP.bind (EvP.of (spec_l1Ok_ev x.f1 (by omega)) rfl) (fun r hr=> ?_)) (fun b=>EvP.some ?_)) (fun b=>EvP.some ?_)) (fun b=>EvP.some ?_)
   ·subst hr;refine EvP.ite (fun a4=>EvP.some ?_) (fun b=>EvP.some ?_)
    ·have a2':x.f2.length=0:=by omega
     have a3':x.f1.size≤60:=by omega
     rw[a4];simp [a1,a2',a3']
    ·simp [b]
   ·simp only[Bool.false_eq_true,false_iff];rintro (g|g|g|g|g)<;>omega
   ·simp only[Bool.false_eq_true,false_iff];rintro (g|g|g|g|g)<;>omega
   ·simp [b]
  ·rw[e3];refine EvP.ite (fun a1=>EvP.bind (EvP.of (spec_NameOk_ev x.f1 (by omega)) rfl) (fun r hr=> ?_)) (fun b=>EvP.some (by simp [b]));subst hr;refine EvP.ite (fun a2=> ?_) (fun b=>EvP.some (by simp [b]));obtain⟨r,hr,hrr⟩:=spec_AttrsOk_ev x.f2 h2a;refine EvP.bind (EvP.of hr rfl) (fun q hq=>EvP.some ?_);subst hq;rw[hrr];simp [a1,a2]
  ·rw[e4];refine EvP.ite (fun a1=>EvP.ite (fun a2=>EvP.ite (fun a3=>EvP.some ?_) (fun a3=>EvP.bind (EvP.of (spec_l1Ok_ev x.f3 (by omega)) rfl) (fun r hr=> ?_))) (fun b=>EvP.some ?_)) (fun b=>EvP.some (by simp [b]))
   ·simp [a3]
   ·subst hr;have a2':x.f2.length=0:=by omega
    refine EvP.ite (fun a4=>EvP.some ?_) (fun b=>EvP.some (by simp [b]));rw[a4];simp [a1,a2',a3]
   ·simp only[Bool.false_eq_true,false_iff];rintro (g|g|g|g|g)<;>omega
  ·rw[e5];refine EvP.ite (fun a1=>EvP.ite (fun a2=>EvP.bind (EvP.of (spec_l1Ok_ev x.f3 (by omega)) rfl) (fun r hr=> ?_)) (fun b=>EvP.some ?_)) (fun b=>EvP.some (by simp [b]))
   ·subst hr;have a2':x.f2.length=0:=by omega
    refine EvP.ite (fun a4=>EvP.some ?_) (fun b=>EvP.some (by simp [b]));rw[a4];simp [a1,a2']
   ·simp only[Bool.false_eq_true,false_iff];rintro (g|g|g|g|g)<;>omega
  ·simp [n1,n2,n3,n4,n5]
 unfold spec_l6Node.f;refine EvP.ite (fun a=>hj _ ?_) (fun b=>hj _ ?_)
 ·simp [a]
 ·simp [b]
section
variable {xs:List IN} {n:Int}
theorem parAt_rd(hn:n=xs.length){i:Int}(h0:0≤i)(h1:i<n):parAt (parsOf xs) i=(rd_T41 xs i).f4:=by
 unfold parAt;rw[if_pos h0,pars_at h0 (by omega)]
theorem parsIn_at(hp:parsIn (parsOf xs))(hn:n=xs.length){i:Int}(h0:0≤i)(h1:i<n): -1≤(rd_T41 xs i).f4∧(rd_T41 xs i).f4<n:=by
 have:=hp i.toNat (by rw[parsOf_length];omega);rw[pars_at h0 (by omega),parsOf_length]at this;omega
theorem spec_up_l(hs:xs.length≤500)(hn:n=xs.length)(hp:parsIn (parsOf xs))(s:List Bool)(i:Int)(r:Bool)(hr:Ev (fun k=>spec_TreeOk.l2 k n s (wrap64 (i+1)) xs) r):
 ∀(m:Nat) (up c:Int),up<n→0≤c→c+m=n+1→Ev (fun k=>spec_TreeOk.l3 k n s i up c xs) (if upOk (parsOf xs) m up=true then r else false):=by
 intro m;induction m with
 |zero=>
  intro up c hu hc hm;refine ev_succ ?_;simp only[spec_TreeOk.l3];by_cases h:up≥0
  ·refine ev_pos h (ev_pos (by omega) (ev_some ?_));unfold upOk;rw[if_neg (by simp;omega)]
  ·refine ev_neg h (ev_cast hr ?_);unfold upOk;rw[if_pos (by simp;omega)]
 |succ m ih=>
  intro up c hu hc hm;refine ev_succ ?_;simp only[spec_TreeOk.l3];by_cases h:up≥0
  ·have hpi:=parsIn_at hp hn h hu;refine ev_pos h (ev_neg (by omega) (ev_pos h (ev_pos (by omega) ?_)));rw[w64 (x:=c+1) (by omega) (by omega)];refine ev_cast (ih _ (c+1) hpi.2 (by omega) (by omega)) ?_
   conv=>rhs;unfold upOk
   rw[if_neg (show ¬up<0 by omega),parAt_rd hn h hu]
  ·refine ev_neg h (ev_cast hr ?_);unfold upOk;rw[if_pos (show up<0 by omega),if_pos rfl]
def linkAt(P:List Int)(s:List Bool)(j:Nat):Prop:=s.getD j false=decide (0≤P.getD j 0)∧upOk P (P.length+1) j=true
theorem spec_l2_p(hs:xs.length≤500)(hn:n=xs.length)(hp:parsIn (parsOf xs))(s:List Bool)(hl:s.length=xs.length): ∀(d i:Nat),i+d=xs.length→EvP (fun k=>spec_TreeOk.l2 k n s (i:Int) xs) (fun r=>r=true↔ ∀j,i≤j→j<xs.length→linkAt (parsOf xs) s j):=by
 intro d;induction d with
 |zero=>
  intro i h;refine EvP.succ ?_;simp only[spec_TreeOk.l2];refine EvP.neg (by omega) (EvP.some ?_);simp only[true_iff];intro j h1 h2;omega
 |succ d ih=>
  intro i h;refine EvP.succ ?_;simp only[spec_TreeOk.l2];have hi0:(0:Int)≤(i:Int):=by omega
  have hi1:(i:Int)<n:=by omega
  have hP:=pars_at (xs:=xs) hi0 (by omega) 0;rw[Int.toNat_natCast]at hP;refine EvP.pos hi1 (EvP.pos hi0 (EvP.pos (by omega) (EvP.pos (by omega) ?_)));rw[←hP];have hrd:rdOf false s (i:Int)=s.getD i false:=rfl;rw[hrd];by_cases c:(s.getD i false !=decide ((parsOf xs).getD i 0≥0))=true
  ·refine EvP.pos c (EvP.some ?_);simp only[Bool.false_eq_true,false_iff];intro g;have g1:=(g i (Nat.le_refl _) (by omega)).1;rw[g1]at c;simp at c
  ·refine EvP.neg c ?_;have c':s.getD i false=decide (0≤(parsOf xs).getD i 0):=by
    have:=Bool.eq_false_iff.2 c;rw[bne_eq_false_iff_eq]at this;exact this
   obtain⟨r,hr,hrr⟩:=ih (i+1) (by omega);have hw:wrap64 ((i:Int)+1)=((i+1:Nat):Int):=by rw[w64 (by omega) (by omega)];omega
   have hu:=spec_up_l hs hn hp s (i:Int) r (by rw[hw];exact hr) (xs.length+1) (i:Int) 0 hi1 (by omega) (by omega);refine EvP.of hu ?_;by_cases hup:upOk (parsOf xs) (xs.length+1) (i:Int)=true
   ·rw[if_pos hup,hrr];constructor
    ·intro g j h1 h2;by_cases e:j=i
     ·subst e;exact⟨c',by rw[parsOf_length];exact hup⟩
     ·exact g j (by omega) h2
    ·intro g j h1 h2;exact g j (by omega) h2
   ·rw[if_neg hup];simp only[Bool.false_eq_true,false_iff];intro g;have:=(g i (Nat.le_refl _) (by omega)).2;rw[parsOf_length]at this;exact hup this
theorem spec_l1_p(hs:smallT xs)(hs5:xs.length≤500)(hn:n=xs.length)(i:Int)(h0:0≤i)(h1:i<n)(R:List Bool→Bool→Prop):
 ∀(d:Nat) (j:Int) (s:List Bool),0≤j→j+d=(rd_T41 xs i).f5.length→s.length=xs.length→
 (∀s',kidsRun (parsOf xs) 1 i ((rd_T41 xs i).f5.drop j.toNat) s=some s'→s'.length=xs.length→EvP (fun k=>spec_TreeOk.l0 k n s' (wrap64 (i+1)) xs) (R s'))→
 EvP (fun k=>spec_TreeOk.l1 k n s i j xs (rd_T41 xs i).f0 (rd_T41 xs i).f1 (rd_T41 xs i).f2 (rd_T41 xs i).f3 (rd_T41 xs i).f4 (rd_T41 xs i).f5)
  (fun r=>match kidsRun (parsOf xs) 1 i ((rd_T41 xs i).f5.drop j.toNat) s with|none=>r=false|some s'=>R s' r):=by
 have hsm:=smallN_at hs h0 (by omega);obtain⟨_,_,_,_,_,hk5,hk5a⟩:=hsm;intro d;induction d with
 |zero=>
  intro j s hj hd hl hR;refine EvP.succ ?_;simp only[spec_TreeOk.l1];refine EvP.neg (by omega) ?_;rw[List.drop_of_length_le (by omega)]at hR⊢;exact hR s rfl hl
 |succ d ih=>
  intro j s hj hd hl hR;have hjl:j<(rd_T41 xs i).f5.length:=by omega
  have hdr:=rd_dropI hj hjl;have hk:=hk5a _ (rd_in hj hjl);refine EvP.succ ?_;simp only[spec_TreeOk.l1];rw[w64 (x:=j+1) (by omega) (by omega),w64 (x:=n- 1) (by omega) (by omega)];rw[hdr]at hR⊢;unfold kidsRun at hR⊢;generalize rd (rd_T41 xs i).f5 j=kid at hk hR⊢;refine EvP.pos (by omega) (EvP.pos hj ?_);have hin: ∃a,spec_l1In.f kid 1 (n- 1)=some a∧(a=true↔1≤kid∧kid≤n- 1):=by
   unfold spec_l1In.f;by_cases c:kid≥1
   ·rw[if_pos c];exact⟨_,rfl,by rw[decide_eq_true_eq];omega⟩
   ·rw[if_neg c];exact⟨_,rfl,by simp;omega⟩
  refine EvP.bindS hin (fun a ha=> ?_);rw[parsOf_length];by_cases c1:1≤kid∧kid≤n- 1
  ·have ck0:0≤kid:=by omega
   have ckl:kid<xs.length:=by omega
   have hP:=pars_at (xs:=xs) ck0 ckl 0;rw[hP]at hR⊢;have hrd:rdOf false s kid=s.getD kid.toNat false:=rfl;rw[hrd];refine EvP.pos (ha.2 c1) (EvP.pos ck0 (EvP.pos (by omega) ?_));by_cases c2:s.getD kid.toNat false=true
   ·refine EvP.pos c2 (EvP.some ?_);rw[if_neg (by rw[c2];simp)]
   ·refine EvP.neg c2 (EvP.pos ckl ?_);by_cases c3:(rd_T41 xs kid).f4=i
    ·have hc:1≤kid∧kid<((parsOf xs).length:Int)∧(rd_T41 xs kid).f4=i∧s.getD kid.toNat false=false:=⟨c1.1,by rw[parsOf_length];exact ckl,c3,by simpa using c2⟩
     rw[if_pos hc]at hR;rw[parsOf_length]at hc;rw[if_pos hc];exact EvP.pos c3 (ih (j+1) (s.set kid.toNat true) (by omega) (by omega) (by rw[List.length_set];exact hl) hR)
    ·refine EvP.neg c3 (EvP.some ?_);rw[if_neg (fun g=>c3 g.2.2.1)]
  ·refine EvP.neg (fun g=>c1 (ha.1 g)) (EvP.some ?_);rw[if_neg (by rintro⟨g1,g2,_⟩;omega)]
def restP(xs:List IN)(i:Nat)(s:List Bool):Prop:=
 (∀(j:Nat) (h:j<xs.length),i≤j→nodeP xs[j] j∧ -1≤xs[j].f4∧xs[j].f4<xs.length)∧
 ∃s',kidsAll (parsOf xs) 1 i ((kidsOf xs).drop i) s=some s'∧ ∀j,j<xs.length→linkAt (parsOf xs) s' j
theorem parsIn_of(h: ∀(j:Nat) (h:j<xs.length), -1≤xs[j].f4∧xs[j].f4<xs.length):parsIn (parsOf xs):=by
 intro j hj;rw[parsOf_length]at hj⊢;have:=h j hj;have e:=pars_at (xs:=xs) (i:=(j:Int)) (by omega) (by omega) 0;rw[Int.toNat_natCast,rdN' hj]at e;rw[e];exact this
theorem spec_l0_p(hs:smallT xs)(hs5:xs.length≤500)(hn:n=xs.length): ∀(d i:Nat) (s:List Bool),i+d=xs.length→s.length=xs.length→(∀(j:Nat) (h:j<xs.length),j<i→ -1≤xs[j].f4∧xs[j].f4<xs.length)→
 EvP (fun k=>spec_TreeOk.l0 k n s (i:Int) xs) (fun r=>r=true↔restP xs i s):=by
 intro d;induction d with
 |zero=>
  intro i s h hl hb;refine EvP.succ ?_;simp only[spec_TreeOk.l0];refine EvP.neg (by omega) ?_;have hp:parsIn (parsOf xs):=parsIn_of (fun j hj=>hb j hj (by omega));refine EvP.mono (spec_l2_p hs5 hn hp s hl xs.length 0 (by omega)) (fun r hr=> ?_);rw[hr];unfold restP;rw[List.drop_of_length_le (by rw[kidsOf_length];omega)];constructor
  ·intro g;exact⟨fun j hj hij=>by omega,s,rfl,fun j hj=>g j (by omega) hj⟩
  ·rintro⟨_,s',e,g⟩ j _ hj;unfold kidsAll at e;cases e;exact g j hj
 |succ d ih=>
  intro i s h hl hb;have hi0:(0:Int)≤(i:Int):=by omega
  have hi1:(i:Int)<n:=by omega
  have hil:i<xs.length:=by omega
  have hsm:=smallN_at hs hi0 (by omega);have hrd:rd_T41 xs (i:Int)=xs[i]:=rdN' hil;have hw:wrap64 ((i:Int)+1)=((i+1:Nat):Int):=by rw[w64 (by omega) (by omega)];omega
  refine EvP.succ ?_;simp only[spec_TreeOk.l0];have hbad: ¬(nodeP xs[i] i∧ -1≤xs[i].f4∧xs[i].f4<xs.length)→EvP (fun k=>spec_TreeOk.j1 k n s (i:Int) true xs (rd_T41 xs i).f0 (rd_T41 xs i).f1 (rd_T41 xs i).f2 (rd_T41 xs i).f3 (rd_T41 xs i).f4 (rd_T41 xs i).f5) (fun r=>r=true↔restP xs i s):=by
   intro hb;refine EvP.succ ?_;simp only[spec_TreeOk.j1];refine EvP.pos (by trivial) (EvP.some ?_);simp only[Bool.false_eq_true,false_iff];rintro⟨g,_⟩;exact hb (g i hil (Nat.le_refl _))
  have hgood:(nodeP xs[i] i∧ -1≤xs[i].f4∧xs[i].f4<xs.length)→EvP (fun k=>spec_TreeOk.j1 k n s (i:Int) false xs (rd_T41 xs i).f0 (rd_T41 xs i).f1 (rd_T41 xs i).f2 (rd_T41 xs i).f3 (rd_T41 xs i).f4 (rd_T41 xs i).f5) (fun r=>r=true↔restP xs i s):=by
   intro hg;refine EvP.succ ?_;simp only[spec_TreeOk.j1];refine EvP.neg (by decide) ?_;refine EvP.mono (spec_l1_p hs hs5 hn (i:Int) hi0 hi1 (fun s' r=>r=true↔restP xs (i+1) s') (rd_T41 xs i).f5.length 0 s (by omega) (by omega) hl (fun s' _ hl'=> ?_)) (fun r hr=> ?_)
   ·rw[hw];exact ih (i+1) s' (by omega) hl' (fun j hj hji=>by
     by_cases e:j=i
     ·subst e;exact hg.2
     ·exact hb j hj (by omega))
   ·have hk:=kids_at (xs:=xs) hi0 (by omega);rw[Int.toNat_natCast]at hk;rw[Int.toNat_zero,List.drop_zero]at hr;unfold restP;rw[hk];unfold kidsAll;cases e:kidsRun (parsOf xs) 1 (i:Int) (rd_T41 xs i).f5 s with
    |none=>
     rw[e]at hr;have hr':r=false:=hr;subst hr';simp
    |some s'=>
     rw[e]at hr;have hr':r=true↔restP xs (i+1) s':=hr;rw[hr'];unfold restP;simp only[Option.bind_some];rw[show((i:Int)+1).toNat=i+1 by omega,show(i:Int)+1=((i+1:Nat):Int)by omega];constructor
     ·rintro⟨g1,g2⟩;refine⟨fun j hj hij=> ?_,g2⟩;by_cases e:j=i
      ·subst e;exact hg
      ·exact g1 j hj (by omega)
     ·rintro⟨g1,g2⟩;exact⟨fun j hj hij=>g1 j hj (by omega),g2⟩
  refine EvP.pos hi1 (EvP.pos hi0 (EvP.pos (by omega) ?_));refine EvP.bind (spec_l6Node_p _ hsm) (fun a ha=> ?_);rw[hrd]at ha;refine EvP.ite (fun c1=> ?_) (fun c1=>hbad (fun g=>c1 (ha.2 g.1.1)));have hkind:=ha.1 c1;refine EvP.ite (fun c2=>hbad ?_) (fun c2=> ?_)
  ·rintro⟨⟨_,g,_⟩,_⟩;rw[hrd]at c2;rw[bne_iff_ne,ne_eq,Bool.eq_iff_iff,beq_iff_eq,beq_iff_eq]at c2;exact c2 g
  have hpl:(xs[i].f0=1↔(i:Int)=0):=by
   rw[hrd]at c2;rw[bne_iff_ne,ne_eq,Bool.eq_iff_iff,beq_iff_eq,beq_iff_eq]at c2;exact Classical.byContradiction c2
  rw[w64 (x:=n- 1) (by omega) (by omega)];have hin: ∃a,spec_l1In.f (rd_T41 xs i).f4 (-1) (n- 1)=some a∧(a=true↔ -1≤xs[i].f4∧xs[i].f4<xs.length):=by
   rw[hrd];unfold spec_l1In.f;by_cases c:xs[i].f4≥ -1
   ·rw[if_pos c];exact⟨_,rfl,by rw[decide_eq_true_eq];omega⟩
   ·rw[if_neg c];exact⟨_,rfl,by simp;omega⟩
  refine EvP.bindS hin (fun a ha=>EvP.ite (fun c3=> ?_) (fun c3=>hbad (fun g=>c3 (ha.2 g.2))));have hpar:=ha.1 c3;refine EvP.ite (fun c4=> ?_) (fun c4=>hgood ⟨⟨hkind,hpl,fun e=>absurd e c4⟩,hpar⟩);by_cases c5:xs[i].f4= -1
  ·have e5:((rd_T41 xs (i:Int)).f4 !=(-1))=false:=by rw[hrd,c5];rfl
   rw[e5];exact hgood ⟨⟨hkind,hpl,fun _=>c5⟩,hpar⟩
  ·have e5:((rd_T41 xs (i:Int)).f4 !=(-1))=true:=by rw[hrd];exact bne_iff_ne.2 c5
   rw[e5];exact hbad (fun g=>c5 (g.1.2.2 c4))
theorem spec_TreeOk_p(hs:smallT xs):EvP (fun k=>spec_TreeOk.f k xs) (fun r=>r=true↔rightP xs):=by
 have hsl:=hs.1;unfold spec_TreeOk.f;have hin: ∃a,spec_l1In.f (xs.length:Int) 1 500=some a∧(a=true↔1≤xs.length∧xs.length≤500):=by
  unfold spec_l1In.f;by_cases c:(xs.length:Int)≥1
  ·rw[if_pos c];exact⟨_,rfl,by rw[decide_eq_true_eq];omega⟩
  ·rw[if_neg c];exact⟨_,rfl,by simp;omega⟩
 refine EvP.bindS hin (fun a ha=>EvP.ite (fun c=> ?_) (fun c=>EvP.some ?_))
 ·obtain⟨h1,h5⟩:=ha.1 c;refine EvP.pos (by omega) (EvP.pos (by omega) ?_);refine EvP.mono (spec_l0_p hs h5 rfl xs.length 0 _ (by omega) (by simp) (fun j hj hj0=>by omega)) (fun r hr=> ?_);rw[hr];unfold restP rightP linksS;rw[Int.toNat_natCast,List.drop_zero,parsOf_length];constructor
  ·rintro⟨g1,s',e,g2⟩;refine⟨h1,h5,fun i hi=>(g1 i hi (by omega)).1,parsIn_of (fun j hj=>(g1 j hj (by omega)).2), ?_⟩;have e':kidsAll (parsOf xs) 1 0 (kidsOf xs) (List.replicate xs.length false)=some s':=e;rw[e'];simp only[List.all_eq_true,List.mem_range,Bool.and_eq_true,beq_iff_eq];intro j hj;have:=g2 j hj;unfold linkAt at this;rw[parsOf_length]at this;exact this
  ·rintro⟨_,_,g1,gp,g2⟩;refine⟨fun j hj _=>⟨g1 j hj, ?_⟩, ?_⟩
   ·have:=gp j (by rw[parsOf_length];exact hj);have e:=pars_at (xs:=xs) (i:=(j:Int)) (by omega) (by omega) 0;rw[Int.toNat_natCast,rdN' hj]at e;rw[e,parsOf_length]at this;exact this
   ·cases e:kidsAll (parsOf xs) 1 0 (kidsOf xs) (List.replicate xs.length false)with
    |none=>rw[e]at g2;cases g2
    |some s'=>
     rw[e]at g2;refine⟨s',rfl,fun j hj=> ?_⟩;simp only[List.all_eq_true,List.mem_range,Bool.and_eq_true,beq_iff_eq]at g2;have:=g2 j hj;unfold linkAt;rw[parsOf_length];exact this
 ·simp only[Bool.false_eq_true,false_iff];rintro⟨g1,g2,_⟩;exact c (ha.2 ⟨g1,g2⟩)
end
theorem impl_IsBlank_eq(x:Int):impl_IsBlank.f x=some (blank x):=by
 unfold impl_IsBlank.f blank;by_cases a:x=9
 ·simp [a]
 ·by_cases b:x=10
  ·simp [b]
  ·by_cases c:x=12
   ·simp [c]
   ·simp only[if_neg a,if_neg b,if_neg c,decide_eq_false a,decide_eq_false b,decide_eq_false c,Bool.false_or];rfl
theorem impl_isOuter_eq(x:Int):impl_isOuter.f x=some (outer x):=by
 unfold impl_isOuter.f outer;simp only[impl_IsBlank_eq,impl_inRange_eq,Option.bind_some];cases blank x with
 |true=>simp
 |false=>
  by_cases a:x=47
  ·simp [a]
  ·by_cases b:x=62
   ·simp [b]
   ·by_cases c:x=0
    ·simp [c]
    ·simp [a,b,c]
theorem impl_NameOk_l0(l:List Int)(hl:l.length≤1000)(hb: ∀x∈l,0≤x∧x≤255): ∀(d:Nat) (i:Int),0≤i→i+d=l.length→Ev (fun k=>impl_NameOk.l0 k l (l.length:Int) i) ((l.drop i.toNat).all (fun x=> !outer x)):=by
 intro d;induction d with
 |zero=>
  intro i h0 h;refine ev_succ ?_;simp only[impl_NameOk.l0];refine ev_neg (by omega) (ev_some ?_);rw[List.drop_of_length_le (by omega)];rfl
 |succ d ih=>
  intro i h0 h;refine ev_succ ?_;simp only[impl_NameOk.l0];have hr:=hb (rd l i) (by rw[rd_get h0 (by omega)];exact List.getElem_mem _);rw[w64 (x:=rd l i) (by omega) (by omega),w64 (x:=i+1) (by omega) (by omega),drop_cons h0 (by omega)];simp only[impl_isOuter_eq,Option.bind_some,List.all_cons];refine ev_pos (by omega) (ev_pos h0 (ev_pos (by omega) ?_));by_cases ho:outer (rd l i)=true
  ·exact ev_pos ho (ev_some (by rw[ho];rfl))
  ·refine ev_neg ho (ev_cast (ih (i+1) (by omega) (by omega)) ?_);simp only[Bool.not_eq_true]at ho;rw[ho];rfl
theorem impl_NameOk_ev(s:ByteArray)(hs:s.size≤140737488355328):Ev (fun k=>impl_NameOk.f k s) (nameOk s):=by
 unfold impl_NameOk.f nameOk;simp only[impl_inRange_eq,Option.bind_some];have hj: ∀c:Bool,Ev (fun k=>impl_NameOk.j0 k s c) (if c=true then false else(bytesOf s).all (fun x=> !outer x))∨ ¬s.size≤60:=by
  intro c;by_cases h60:s.size≤60
  ·left
   refine ev_succ ?_;simp only[impl_NameOk.j0];cases c with
   |true=>exact ev_pos (by simp) (Ev.now _)
   |false=>
    refine ev_neg (by simp) (ev_pos (by omega) ?_);simp only[Option.bind_some];have:=impl_NameOk_l0 (bytesOf s) (by rw[bytesOf_length];omega) (bytesOf_range s) (bytesOf s).length 0 (by omega) (by omega);simpa using this
  ·exact .inr h60
 have hjt:Ev (fun k=>impl_NameOk.j0 k s true) false:=by
  refine ev_succ ?_;simp only[impl_NameOk.j0];exact ev_pos (by simp) (Ev.now _)
 by_cases hsz:1≤s.size∧s.size≤60
 ·rw[decide_eq_true hsz,decide_eq_true (show(1:Int)≤s.size∧(s.size:Int)≤60 by omega)];refine ev_pos (by simp) (ev_pos (by omega) ?_);by_cases h1:bt s 0<97
  ·rw[decide_eq_false (show ¬(97≤bt s 0∧bt s 0≤122)by omega)];exact ev_pos h1 (ev_cast hjt (by simp))
  ·refine ev_neg h1 ?_;by_cases h2:bt s 0>122
   ·rw[decide_eq_false (show ¬(97≤bt s 0∧bt s 0≤122)by omega)];exact ev_pos h2 (ev_cast hjt (by simp))
   ·rw[decide_eq_true (show(97≤bt s 0∧bt s 0≤122)by omega)];refine ev_neg h2 (Ev.bind (impl_textOk_ev s hs) ?_);rcases hj (!textOk s)with h|h
    ·refine ev_cast h ?_;cases textOk s<;>simp
    ·exact absurd hsz.2 h
 ·rw[decide_eq_false hsz,decide_eq_false (show ¬((1:Int)≤s.size∧(s.size:Int)≤60)by omega)];exact ev_neg (by simp) (ev_cast hjt (by simp))
theorem impl_nodeOk_p(x:IN)(h:smallN x)(i:Int):EvP (fun k=>impl_nodeOk.f k x.f0 x.f1 x.f2 x.f3 x.f4 x.f5 i) (fun r=>r=true↔nodeP x i):=by
 obtain⟨h1,h2,h2a,h3,h4,h5,h5a⟩:=h;have hj: ∀p:Bool,(p=false↔(x.f0=1↔i=0)∧(x.f5.length=0∨x.f0=1∨x.f0=3)∧(x.f0=3∨x.f2.length=0))→EvP (fun k=>impl_nodeOk.j0 k p x.f0 x.f1 x.f2 x.f3 x.f4 x.f5) (fun r=>r=true↔nodeP x i):=by
  intro p hp;refine EvP.succ ?_;simp only[impl_nodeOk.j0];unfold nodeP kindP;refine EvP.ite (fun hq=>EvP.some ?_) (fun hq=> ?_)
  ·have hn: ¬((x.f0=1↔i=0)∧(x.f5.length=0∨x.f0=1∨x.f0=3)∧(x.f0=3∨x.f2.length=0)):=fun g=>by rw[hp.2 g]at hq;cases hq
   simp only[Bool.false_eq_true,false_iff];rintro⟨g,g1,_⟩;apply hn;refine⟨g1, ?_⟩;rcases g with g|g|g|g|g<;>omega
  ·obtain⟨q1,q2,q3⟩:=hp.1 (by simpa using hq);refine EvP.ite (fun e1=> ?_) (fun n1=>EvP.ite (fun e2=> ?_) (fun n2=>EvP.ite (fun e3=> ?_) (fun n3=>EvP.ite (fun e4=> ?_) (fun n4=>EvP.ite (fun e5=> ?_) (fun n5=>EvP.some ?_)))))
   ·have hi:i=0:=q1.1 e1;have hl:x.f2.length=0:=by omega
    rw[e1,hi];refine EvP.ite (fun a1=>EvP.ite (fun a2=>EvP.some ?_) (fun b=>EvP.some (by simp [b]))) (fun b=>EvP.some (by simp [b]));simp [a1,a2,hl]
   ·have hi: ¬i=0:=fun g=>by have:=q1.2 g;omega
    have hk:x.f5.length=0:=by omega
    have hl:x.f2.length=0:=by omega
    rw[e2];have hd:EvP (fun k=>impl_doctypeOk.f k x.f1) (fun r=>r=true↔x.f1.size≤60∧textOk x.f1=true):=by
     unfold impl_doctypeOk.f;refine EvP.ite (fun a=>EvP.bind (EvP.of (impl_textOk_ev x.f1 (by omega)) rfl) (fun r hr=>EvP.some ?_)) (fun b=>EvP.some ?_)
     ·subst hr;have:x.f1.size≤60:=by omega
      simp [this]
     ·simp;omega
    refine EvP.bind hd (fun r hr=>EvP.ite (fun a=>EvP.some ?_) (fun b=>EvP.some ?_))
    ·obtain⟨r1,r2⟩:=hr.1 a;simp [r1,r2,hk,hl,hi]
    ·have hb: ¬(x.f1.size≤60∧textOk x.f1=true):=fun g=>b (hr.2 g)
     simp only[Bool.false_eq_true,false_iff];rintro⟨g,_⟩;rcases g with g|g|g|g|g
     ·exact absurd g.1 (by decide)
     ·exact hb ⟨g.2.2.2.1,g.2.2.2.2.1⟩
     all_goals exact absurd g.1 (by decide)
   ·have hi: ¬i=0:=fun g=>by have:=q1.2 g;omega
    rw[e3];refine EvP.bind (EvP.of (impl_NameOk_ev x.f1 (by omega)) rfl) (fun r hr=> ?_);subst hr;refine EvP.ite (fun a2=> ?_) (fun b=>EvP.some (by simp [b]));obtain⟨r,hr,hrr⟩:=impl_AttrsOk_ev x.f2 h2a;refine EvP.bind (EvP.of hr rfl) (fun q hq=> ?_);subst hq;refine EvP.ite (fun a3=>EvP.some ?_) (fun b=>EvP.some ?_)
    ·have:=hrr.1 a3;simp [a2,this,hi]
    ·have: ¬attrsOkP x.f2:=fun g=>b (hrr.2 g)
     simp [this]
   ·have hi: ¬i=0:=fun g=>by have:=q1.2 g;omega
    have hk:x.f5.length=0:=by omega
    have hl:x.f2.length=0:=by omega
    rw[e4];refine EvP.ite (fun a1=>EvP.ite (fun a3=>EvP.some (by simp [a3])) (fun a3=>EvP.bind (EvP.of (impl_textOk_ev x.f3 (by omega)) rfl) (fun r hr=>EvP.some ?_))) (fun b=>EvP.some (by simp [b]));subst hr;simp [a1,a3,hk,hl,hi]
   ·have hi: ¬i=0:=fun g=>by have:=q1.2 g;omega
    have hk:x.f5.length=0:=by omega
    have hl:x.f2.length=0:=by omega
    rw[e5];refine EvP.ite (fun a1=>EvP.bind (EvP.of (impl_textOk_ev x.f3 (by omega)) rfl) (fun r hr=>EvP.some ?_)) (fun b=>EvP.some (by simp [b]));subst hr;simp [a1,hk,hl,hi]
   ·simp [n1,n2,n3,n4,n5]
 have hb:((x.f0==1) !=(i==0))=true↔ ¬(x.f0=1↔i=0):=by
  rw[bne_iff_ne,ne_eq,Bool.eq_iff_iff,beq_iff_eq,beq_iff_eq]
 unfold impl_nodeOk.f impl_Node_mayHold.f;refine EvP.ite (fun a=>hj _ ?_) (fun a=>EvP.ite (fun b=> ?_) (fun b=>EvP.ite (fun c=>hj _ ?_) (fun c=>hj _ ?_)))
 ·have:=hb.1 a;simp [this]
 ·have ha:(x.f0=1↔i=0):=Classical.byContradiction fun g=>a (hb.2 g)
  by_cases c:x.f0=1
  ·refine EvP.bindS (P:=fun r=>r=true) ⟨true,by rw[if_pos c],rfl⟩ (fun r hr=>EvP.pos hr (EvP.neg (by omega) (hj _ ?_)));simp [c,ha]at ha⊢;simp [ha]
  ·by_cases d:x.f0=3
   ·refine EvP.bindS (P:=fun r=>r=true) ⟨true,by rw[if_neg c,d];rfl,rfl⟩ (fun r hr=>EvP.pos hr (EvP.pos d (hj _ ?_)));rw[d]at ha⊢;simp at ha⊢;exact ha
   ·refine EvP.bindS (P:=fun r=>r=false) ⟨false,by rw[if_neg c];simp [d],rfl⟩ (fun r hr=>EvP.neg (by simp [hr]) (hj _ ?_));constructor
    ·intro g;cases g
    ·rintro⟨_,g,_⟩;omega
 ·have ha:(x.f0=1↔i=0):=Classical.byContradiction fun g=>a (hb.2 g)
  have hk:x.f5.length=0:=by omega
  simp [hk,c];rw[c]at ha;simpa using ha
 ·have ha:(x.f0=1↔i=0):=Classical.byContradiction fun g=>a (hb.2 g)
  have hk:x.f5.length=0:=by omega
  simp [hk,c,ha]
section
variable {xs:List IN}
theorem impl_isNode_eq(hs:xs.length≤1048576)(x:Int):impl_Tree_isNode.f xs x=some (decide (0≤x∧x<xs.length)):=by
 unfold impl_Tree_isNode.f;rw[impl_inRange_eq,w64 (by omega) (by omega)];simp only[Option.bind_some]
 congr 1
 rw[Bool.eq_iff_iff,decide_eq_true_eq,decide_eq_true_eq];omega
theorem impl_above_l(hs:xs.length≤1048576)(a:Int): ∀(m:Nat) (b c:Int),0≤c→c+m=xs.length→Ev (fun k=>impl_Tree_isAbove.l0 k a b (xs.length:Int) c xs) (aboveN (parsOf xs) a m b):=by
 intro m;induction m with
 |zero=>
  intro b c h0 h;refine ev_succ ?_;simp only[impl_Tree_isAbove.l0];rw[impl_isNode_eq hs];refine ev_neg (by omega) (ev_some ?_);unfold aboveN;rw[parsOf_length]
 |succ m ih=>
  intro b c h0 h;refine ev_succ ?_;simp only[impl_Tree_isAbove.l0];rw[impl_isNode_eq hs,w64 (x:=c+1) (by omega) (by omega)];simp only[Option.bind_some];unfold aboveN;rw[parsOf_length];refine ev_pos (by omega) ?_;by_cases e:b=a
  ·rw[if_pos e];exact ev_pos e (Ev.now _)
  ·rw[if_neg e];refine ev_neg e ?_;by_cases g:0≤b∧b<(xs.length:Int)
   ·rw[if_pos g,pars_at g.1 g.2];exact ev_pos (by simpa using g) (ev_pos g.1 (ev_pos g.2 (ih _ (c+1) (by omega) (by omega))))
   ·rw[if_neg g];exact ev_neg (by simpa using g) (Ev.now _)
theorem impl_isAbove_ev(hs:xs.length≤1048576)(a b:Int):Ev (fun k=>impl_Tree_isAbove.f k xs a b) (aboveN (parsOf xs) a xs.length b):=by
 unfold impl_Tree_isAbove.f;exact impl_above_l hs a xs.length b 0 (by omega) (by omega)
def seenB(s:List Int):List Bool:=s.map fun x=>decide (0<x)
def seen01(s:List Int):Prop:= ∀x∈s,x=0∨x=1
theorem seenB_at(s:List Int)(j:Nat):(seenB s).getD j false=decide (0<s.getD j 0):=by
 unfold seenB;rw[List.getD_eq_getElem?_getD,List.getD_eq_getElem?_getD,List.getElem?_map];cases s[j]? with
 |none=>rfl
 |some x=>rfl
theorem seenB_set(s:List Int)(j:Nat):seenB (s.set j 1)=(seenB s).set j true:=by
 unfold seenB;rw[List.map_set];rfl
theorem seen01_set{s:List Int}(h:seen01 s)(j:Nat):seen01 (s.set j 1):=by
 intro x hx;rcases List.mem_or_eq_of_mem_set hx with g|g
 ·exact h x g
 ·exact .inr g
theorem seen01_at{s:List Int}(h:seen01 s)(j:Nat):s.getD j 0=0∨s.getD j 0=1:=by
 rw[List.getD_eq_getElem?_getD];by_cases hj:j<s.length
 ·rw[List.getElem?_eq_getElem hj];exact h _ (List.getElem_mem _)
 ·rw[List.getElem?_eq_none (by omega)];exact .inl rfl
def linkIAt(P:List Int)(s:List Bool)(j:Nat):Prop:=(decide (P.getD j 0= -1)==s.getD j false)=false∧aboveN P j P.length (P.getD j 0)=false
theorem impl_l2_p(hs:xs.length≤500)(s:List Int): ∀(d i:Nat),i+d=xs.length→EvP (fun k=>impl_Tree_linksOk.l2 k (i:Int) s xs) (fun r=>r=true↔ ∀j,i≤j→j<xs.length→linkIAt (parsOf xs) (seenB s) j):=by
 intro d;induction d with
 |zero=>
  intro i h;refine EvP.succ ?_;simp only[impl_Tree_linksOk.l2];refine EvP.neg (by omega) (EvP.some ?_);simp only[true_iff];intro j h1 h2;omega
 |succ d ih=>
  intro i h;refine EvP.succ ?_;simp only[impl_Tree_linksOk.l2];have hi0:(0:Int)≤(i:Int):=by omega
  have hP:=pars_at (xs:=xs) hi0 (by omega) 0;rw[Int.toNat_natCast]at hP;rw[←hP,w64 (x:=(i:Int)+1) (by omega) (by omega)];have hrd:decide (0<rd s (i:Int))=(seenB s).getD i false:=by rw[seenB_at];rfl
  rw[hrd];have hd:((parsOf xs).getD i 0== -1)=decide ((parsOf xs).getD i 0= -1):=by rw[Bool.eq_iff_iff,beq_iff_eq,decide_eq_true_eq]
  rw[hd];refine EvP.pos (by omega) (EvP.pos hi0 ?_);by_cases c:(decide ((parsOf xs).getD i 0= -1)==(seenB s).getD i false)=true
  ·refine EvP.pos c (EvP.some ?_);simp only[Bool.false_eq_true,false_iff];intro g;have:=(g i (Nat.le_refl _) (by omega)).1;rw[this]at c;cases c
  ·refine EvP.neg c (EvP.bind (EvP.of (impl_isAbove_ev (by omega) _ _) rfl) (fun a ha=> ?_));subst ha;have c':=Bool.eq_false_iff.2 c;by_cases ab:aboveN (parsOf xs) (i:Int) xs.length ((parsOf xs).getD i 0)=true
   ·refine EvP.pos ab (EvP.some ?_);simp only[Bool.false_eq_true,false_iff];intro g;have:=(g i (Nat.le_refl _) (by omega)).2;rw[parsOf_length,ab]at this;cases this
   ·refine EvP.neg ab ?_;have:=ih (i+1) (by omega);rw[show((i+1:Nat):Int)=(i:Int)+1 by omega]at this;refine EvP.mono this (fun r hr=> ?_);rw[hr];constructor
    ·intro g j h1 h2;by_cases e:j=i
     ·subst e;exact⟨c',by rw[parsOf_length];exact Bool.eq_false_iff.2 ab⟩
     ·exact g j (by omega) h2
    ·intro g j h1 h2;exact g j (by omega) h2
theorem impl_l1_p(hs:smallT xs)(hs5:xs.length≤500)(i:Int)(h0:0≤i)(h1:i<xs.length)(R:List Bool→Bool→Prop):
 ∀(d:Nat) (j:Int) (s:List Int),0≤j→j+d=(rd_T41 xs i).f5.length→s.length=xs.length→seen01 s→
 (∀s':List Int,kidsRun (parsOf xs) 0 i ((rd_T41 xs i).f5.drop j.toNat) (seenB s)=some (seenB s')→s'.length=xs.length→seen01 s'→EvP (fun k=>impl_Tree_linksOk.l0 k (wrap64 (i+1)) s' xs) (R (seenB s')))→
 EvP (fun k=>impl_Tree_linksOk.l1 k i j s xs)
  (fun r=>match kidsRun (parsOf xs) 0 i ((rd_T41 xs i).f5.drop j.toNat) (seenB s)with|none=>r=false|some s'=>R s' r):=by
 have hsm:=smallN_at hs h0 (by omega);obtain⟨_,_,_,_,_,hk5,hk5a⟩:=hsm;intro d;induction d with
 |zero=>
  intro j s hj hd hl h01 hR;refine EvP.succ ?_;simp only[impl_Tree_linksOk.l1];refine EvP.neg (by omega) ?_;rw[List.drop_of_length_le (by omega)]at hR⊢;exact hR s rfl hl h01
 |succ d ih=>
  intro j s hj hd hl h01 hR;have hjl:j<(rd_T41 xs i).f5.length:=by omega
  have hdr:=rd_dropI hj hjl;have hk:=hk5a _ (rd_in hj hjl);refine EvP.succ ?_;simp only[impl_Tree_linksOk.l1];rw[w64 (x:=j+1) (by omega) (by omega)];rw[hdr]at hR⊢;unfold kidsRun at hR⊢;generalize rd (rd_T41 xs i).f5 j=kid at hk hR⊢;rw[impl_isNode_eq hs.1,parsOf_length];simp only[Option.bind_some];refine EvP.pos (by omega) (EvP.pos hj ?_);by_cases c1:0≤kid∧kid<(xs.length:Int)
  ·have hP:=pars_at (xs:=xs) c1.1 c1.2 0;rw[hP,seenB_at]at hR⊢;have hrd:rd s kid=s.getD kid.toNat 0:=rfl;rw[hrd];refine EvP.pos (by simpa using c1) (EvP.pos c1.1 (EvP.pos c1.2 ?_));by_cases c3:(rd_T41 xs kid).f4=i
   ·refine EvP.pos c3 ?_;by_cases c2:0<s.getD kid.toNat 0
    ·refine EvP.pos c2 (EvP.some ?_);rw[if_neg (by rintro⟨_,_,_,g⟩;have:=of_decide_eq_false g;omega)]
    ·refine EvP.neg c2 ?_;have h0':s.getD kid.toNat 0=0:=by have:=seen01_at h01 kid.toNat;omega
     have hc:0≤kid∧kid<((parsOf xs).length:Int)∧(rd_T41 xs kid).f4=i∧decide (0<s.getD kid.toNat 0)=false:=⟨c1.1,by rw[parsOf_length];exact c1.2,c3,by simpa using c2⟩
     rw[if_pos hc]at hR;rw[parsOf_length]at hc;rw[if_pos hc,h0',show wrap64 (0+1)=1 by unfold wrap64;omega,←seenB_set];rw[←seenB_set]at hR;exact ih (j+1) (s.set kid.toNat 1) (by omega) (by omega) (by rw[List.length_set];exact hl) (seen01_set h01 _) hR
   ·refine EvP.neg c3 (EvP.some ?_);rw[if_neg (fun g=>c3 g.2.2.1)]
  ·refine EvP.neg (by simpa using c1) (EvP.some ?_);rw[if_neg (by rintro⟨g1,g2,_⟩;exact c1 ⟨g1,g2⟩)]
def restI(xs:List IN)(i:Nat)(s:List Bool):Prop:= ∃s',kidsAll (parsOf xs) 0 i ((kidsOf xs).drop i) s=some s'∧ ∀j,j<xs.length→linkIAt (parsOf xs) s' j
theorem impl_l0_p(hs:smallT xs)(hs5:xs.length≤500): ∀(d i:Nat) (s:List Int),i+d=xs.length→s.length=xs.length→seen01 s→EvP (fun k=>impl_Tree_linksOk.l0 k (i:Int) s xs) (fun r=>r=true↔restI xs i (seenB s)):=by
 intro d;induction d with
 |zero=>
  intro i s h hl h01;refine EvP.succ ?_;simp only[impl_Tree_linksOk.l0];refine EvP.neg (by omega) ?_;refine EvP.mono (impl_l2_p hs5 s xs.length 0 (by omega)) (fun r hr=> ?_);rw[hr];unfold restI;rw[List.drop_of_length_le (by rw[kidsOf_length];omega)];constructor
  ·intro g;exact⟨_,rfl,fun j hj=>g j (by omega) hj⟩
  ·rintro⟨s',e,g⟩ j _ hj;unfold kidsAll at e;cases e;exact g j hj
 |succ d ih=>
  intro i s h hl h01;have hi0:(0:Int)≤(i:Int):=by omega
  have hil:i<xs.length:=by omega
  have hw:wrap64 ((i:Int)+1)=((i+1:Nat):Int):=by rw[w64 (by omega) (by omega)];omega
  refine EvP.succ ?_;simp only[impl_Tree_linksOk.l0];refine EvP.pos (by omega) (EvP.pos hi0 ?_);refine EvP.mono (impl_l1_p hs hs5 (i:Int) hi0 (by omega) (fun s' r=>r=true↔restI xs (i+1) s') (rd_T41 xs i).f5.length 0 s (by omega) (by omega) hl h01 (fun s' _ hl' h01'=> ?_)) (fun r hr=> ?_)
  ·rw[hw];exact ih (i+1) s' (by omega) hl' h01'
  ·have hk:=kids_at (xs:=xs) hi0 (by omega);rw[Int.toNat_natCast]at hk;rw[Int.toNat_zero,List.drop_zero]at hr;unfold restI;rw[hk];unfold kidsAll;cases e:kidsRun (parsOf xs) 0 (i:Int) (rd_T41 xs i).f5 (seenB s)with
   |none=>
    rw[e]at hr;have hr':r=false:=hr;subst hr';simp
   |some s'=>
    rw[e]at hr;have hr':r=true↔restI xs (i+1) s':=hr;rw[hr'];unfold restI;simp only[Option.bind_some];rw[show((i:Int)+1).toNat=i+1 by omega,show(i:Int)+1=((i+1:Nat):Int)by omega]
theorem impl_linksOk_p(hs:smallT xs)(h1:1≤xs.length)(h5:xs.length≤500):EvP (fun k=>impl_Tree_linksOk.f k xs) (fun r=>r=true↔linksI (parsOf xs) (kidsOf xs)=true):=by
 unfold impl_Tree_linksOk.f;refine EvP.pos (by omega) (EvP.pos h5 ?_);refine EvP.mono (impl_l0_p hs h5 xs.length 0 _ (by omega) (by simp) (fun x hx=> .inl (List.eq_of_mem_replicate hx))) (fun r hr=> ?_);rw[hr];have hz:seenB (List.replicate xs.length 0)=List.replicate xs.length false:=by unfold seenB;rw[List.map_replicate];rfl
 unfold restI linksI;rw[hz,List.drop_zero,parsOf_length];constructor
 ·rintro⟨s',e,g2⟩;have e':kidsAll (parsOf xs) 0 0 (kidsOf xs) (List.replicate xs.length false)=some s':=e;rw[e'];simp only[List.all_eq_true,List.mem_range,Bool.and_eq_true,Bool.not_eq_true'];intro j hj;have:=g2 j hj;unfold linkIAt at this;rw[parsOf_length]at this;exact this
 ·intro g2;cases e:kidsAll (parsOf xs) 0 0 (kidsOf xs) (List.replicate xs.length false)with
  |none=>rw[e]at g2;cases g2
  |some s'=>
   rw[e]at g2;refine⟨s',rfl,fun j hj=> ?_⟩;simp only[List.all_eq_true,List.mem_range,Bool.and_eq_true,Bool.not_eq_true']at g2;have:=g2 j hj;unfold linkIAt;rw[parsOf_length];exact this
theorem impl_TreeOk_l(hs:smallT xs)(h1:1≤xs.length)(h5:xs.length≤500): ∀(d i:Nat),i+d=xs.length→EvP (fun k=>impl_TreeOk.l0 k (i:Int) xs) (fun r=>r=true↔(∀(j:Nat) (h:j<xs.length),i≤j→nodeP xs[j] j)∧linksI (parsOf xs) (kidsOf xs)=true):=by
 intro d;induction d with
 |zero=>
  intro i h;refine EvP.succ ?_;simp only[impl_TreeOk.l0];refine EvP.neg (by omega) (EvP.mono (impl_linksOk_p hs h1 h5) (fun r hr=> ?_));rw[hr];exact⟨fun g=>⟨fun j hj hij=>by omega,g⟩,fun g=>g.2⟩
 |succ d ih=>
  intro i h;have hi0:(0:Int)≤(i:Int):=by omega
  have hil:i<xs.length:=by omega
  refine EvP.succ ?_;simp only[impl_TreeOk.l0];rw[w64 (x:=(i:Int)+1) (by omega) (by omega),show(i:Int)+1=((i+1:Nat):Int)by omega];refine EvP.pos (by omega) (EvP.pos hi0 (EvP.bind (impl_nodeOk_p _ (smallN_at hs hi0 (by omega)) (i:Int)) (fun a ha=>EvP.ite (fun c=> ?_) (fun c=>EvP.some ?_))))
  ·have:=ha.1 c;rw[rdN' hil]at this;refine EvP.mono (ih (i+1) (by omega)) (fun r hr=> ?_);rw[hr];constructor
   ·rintro⟨g1,g2⟩;refine⟨fun j hj hij=> ?_,g2⟩;by_cases e:j=i
    ·subst e;exact this
    ·exact g1 j hj (by omega)
   ·rintro⟨g1,g2⟩;exact⟨fun j hj hij=>g1 j hj (by omega),g2⟩
  ·simp only[Bool.false_eq_true,false_iff];rintro⟨g1,_⟩;apply c;rw[ha,rdN' hil];exact g1 i hil (Nat.le_refl _)
theorem impl_TreeOk_p(hs:smallT xs):EvP (fun k=>impl_TreeOk.f k xs) (fun r=>r=true↔rightP xs):=by
 have hsl:=hs.1;unfold impl_TreeOk.f;rw[impl_inRange_eq];simp only[Option.bind_some];refine EvP.ite (fun c=> ?_) (fun c=>EvP.some ?_)
 ·obtain⟨h1,h5⟩:1≤xs.length∧xs.length≤500:=by
   have:=of_decide_eq_true c;omega
  refine EvP.mono (impl_TreeOk_l hs h1 h5 xs.length 0 (by omega)) (fun r hr=> ?_);rw[hr];unfold rightP;have hsame:(∀(i:Nat) (h:i<xs.length),nodeP xs[i] i)→(linksI (parsOf xs) (kidsOf xs)=true↔parsIn (parsOf xs)∧linksS (parsOf xs) (kidsOf xs)=true):=by
   intro g;refine links_same _ _ (by rw[parsOf_length,kidsOf_length]) ?_;have e:=pars_at (xs:=xs) (i:=((0:Nat):Int)) (by omega) (by omega) 0;rw[rdN' (show 0<xs.length by omega)]at e;exact e.trans ((g 0 (by omega)).2.2 rfl)
  constructor
  ·rintro⟨g1,g2⟩;have g1': ∀(i:Nat) (h:i<xs.length),nodeP xs[i] i:=fun i hi=>g1 i hi (by omega)
   exact⟨h1,h5,g1',(hsame g1').1 g2⟩
  ·rintro⟨_,_,g1,g2⟩;exact⟨fun i hi _=>g1 i hi,(hsame g1).2 g2⟩
 ·simp only[Bool.false_eq_true,false_iff];rintro⟨g1,g2,_⟩;apply c;rw[decide_eq_true_eq];omega
end
def txt1(xs:List IN)(i:Int):ByteArray:=if(rd_T41 xs i).f0=4 then(rd_T41 xs i).f3 else⟨#[]⟩
instance inT_dec (xs:List IN) (i:Int):Decidable (inT xs i):=inferInstanceAs (Decidable (0≤i∧i<(xs.length:Int)))
def txtOf(xs:List IN):List Int→ByteArray
 | []=>⟨#[]⟩
 |i::r=>txt1 xs i++txtOf xs r
theorem ba_nil(a:ByteArray):a++(⟨#[]⟩:ByteArray)=a:=ByteArray.append_empty
theorem size_nil:(⟨#[]⟩:ByteArray).size=0:=rfl
theorem nil_ba(a:ByteArray):(⟨#[]⟩:ByteArray)++a=a:=ByteArray.empty_append
section
variable {xs:List IN}
theorem txtOf_append(a b:List Int):txtOf xs (a++b)=txtOf xs a++txtOf xs b:=by
 induction a with
 |nil=>simp only[List.nil_append,txtOf];rw[nil_ba]
 |cons x r ih=>simp only[List.cons_append,txtOf];rw[ih,ByteArray.append_assoc]
theorem txt1_size(hs:smallT xs){i:Int}(hi:inT xs i):(txt1 xs i).size≤1048576:=by
 unfold txt1;split
 ·exact(smallN_at hs hi.1 hi.2).2.2.2.1
 ·rw[size_nil];omega
theorem txtOf_size(hs:smallT xs): ∀l:List Int,(∀i∈l,inT xs i)→(txtOf xs l).size≤l.length*1048576:=by
 intro l;induction l with
 |nil=>intro _;simp only[txtOf];rw[size_nil];omega
 |cons x r ih=>
  intro h;simp only[txtOf,ByteArray.size_append,List.length_cons];have h1:=txt1_size hs (h x List.mem_cons_self);have h2:=ih (fun i hi=>h i (List.mem_cons_of_mem _ hi));omega
theorem spec_txt_l(rt:RT xs)(hs:smallT xs)(m:Nat)(i:Int)(hi:inT xs i)(hlen:((kd xs i).flatMap (pre xs m)).length≤500)(a0:Int)(a1:ByteArray)(a2:List IA)(a3:ByteArray)(a4:Int)
 (hrec: ∀k∈kd xs i,Ev (fun q=>spec_l8Text.f q xs k) (txtOf xs (pre xs m k))): ∀(d:Nat) (j:Nat) (acc:ByteArray),j+d=(kd xs i).length→acc.size≤1048576000→
 Ev (fun q=>spec_l8Text.l0 q acc (j:Int) xs a0 a1 a2 a3 a4 (kd xs i)) (acc++txtOf xs (((kd xs i).drop j).flatMap (pre xs m))):=by
 have hin: ∀k∈kd xs i,∀x∈pre xs m k,inT xs x:=fun k hk x hx=>(pre_in rt m k (rt.inKid hi hk) x hx).1
 have hkl:=(smallN_at hs hi.1 hi.2).2.2.2.2.2.1;have hkl':(kd xs i).length≤1048576:=hkl
 suffices hmain: ∀(d:Nat) (j:Nat) (acc:ByteArray),j+d=(kd xs i).length→acc.size+(((kd xs i).drop j).flatMap (pre xs m)).length*1048576≤2097152000→Ev (fun q=>spec_l8Text.l0 q acc (j:Int) xs a0 a1 a2 a3 a4 (kd xs i)) (acc++txtOf xs (((kd xs i).drop j).flatMap (pre xs m)))by
  intro d j acc h ha;refine hmain d j acc h ?_;have:(((kd xs i).drop j).flatMap (pre xs m)).length≤((kd xs i).flatMap (pre xs m)).length:=by
   conv=>rhs;rw[←List.take_append_drop j (kd xs i),List.flatMap_append,List.length_append]
   omega
  omega
 intro d;induction d with
 |zero=>
  intro j acc h ha;refine ev_succ ?_;simp only[spec_l8Text.l0];rw[List.drop_of_length_le (by omega)];refine ev_neg (by omega) (ev_some ?_);simp only[List.flatMap_nil,txtOf];rw[ba_nil]
 |succ d ih=>
  intro j acc h ha;have hj:j<(kd xs i).length:=by omega
  have hrd:rd (kd xs i) (j:Int)=(kd xs i)[j]:=by
   unfold rd;rw[Int.toNat_natCast,List.getD_eq_getElem?_getD,List.getElem?_eq_getElem hj];rfl
  have hmem:(kd xs i)[j]∈kd xs i:=List.getElem_mem _;rw[List.drop_eq_getElem_cons hj,List.flatMap_cons,List.length_append]at ha;rw[List.drop_eq_getElem_cons hj,List.flatMap_cons,txtOf_append,←ByteArray.append_assoc];have hsz:=txtOf_size hs (pre xs m (kd xs i)[j]) (hin _ hmem);refine ev_succ ?_;simp only[spec_l8Text.l0];rw[hrd,w64 (x:=(j:Int)+1) (by omega) (by omega),show(j:Int)+1=((j+1:Nat):Int)by omega];refine ev_pos (by omega) (ev_pos (by omega) (Ev.bind (hrec _ hmem) (ev_pos (by omega) (ih (j+1) _ (by omega) ?_))));rw[ByteArray.size_append];omega
theorem pre_len_le(rt:RT xs)(m:Nat){i:Int}(hi:inT xs i):(pre xs m i).length≤xs.length:=
 nodup_len _ _ (pre_nodup rt m i hi) (fun x hx=>(pre_in rt m i hi x hx).1)
theorem spec_txt_f(rt:RT xs)(hs:smallT xs): ∀(m:Nat) (i:Int) (d:Nat),inT xs i→deep xs i d→xs.length+1≤d+m→Ev (fun q=>spec_l8Text.f q xs i) (txtOf xs (pre xs m i)):=by
 have hm:=rt.most;intro m;induction m with
 |zero=>intro i d hi hd h;have:=deep_le rt hi hd;omega
 |succ m ih=>
  intro i d hi hd h;have hlen:=pre_len_le rt (m+1) hi;unfold pre at hlen;rw[List.length_cons]at hlen;refine ev_succ ?_;simp only[spec_l8Text.f];have hj: ∀acc:ByteArray,acc.size≤1048576→Ev (fun q=>spec_l8Text.j0 q acc xs (rd_T41 xs i).f0 (rd_T41 xs i).f1 (rd_T41 xs i).f2 (rd_T41 xs i).f3 (rd_T41 xs i).f4 (rd_T41 xs i).f5) (acc++txtOf xs ((kd xs i).flatMap (pre xs m))):=by
   intro acc ha;refine ev_succ ?_;simp only[spec_l8Text.j0];have:=spec_txt_l rt hs m i hi (by omega) (rd_T41 xs i).f0 (rd_T41 xs i).f1 (rd_T41 xs i).f2 (rd_T41 xs i).f3 (rd_T41 xs i).f4
    (fun k hk=>ih k (d+1) (rt.inKid hi hk) (deep_kid rt hi hk hd) (by omega)) (kd xs i).length 0 acc (by omega) (by omega)
   rw[List.drop_zero]at this;exact this
  refine ev_pos hi.1 (ev_pos hi.2 ?_);unfold pre;simp only[txtOf];unfold txt1;by_cases c:(rd_T41 xs i).f0=4
  ·rw[if_pos c];exact ev_pos c (hj _ (smallN_at hs hi.1 hi.2).2.2.2.1)
  ·rw[if_neg c];exact ev_neg c (hj _ (by rw[size_nil];omega))
theorem spec_l8Text_ev(rt:RT xs)(hs:smallT xs){i:Int}(hi:inT xs i):Ev (fun q=>spec_l8Text.f q xs i) (txtOf xs (preT xs i)):=
 spec_txt_f rt hs (xs.length+1) i 0 hi (deep_zero hi) (by omega)
theorem impl_txt_l(rt:RT xs)(hs:smallT xs)(order:List Int)(ho: ∀i∈order,inT xs i)(hl:order.length≤500): ∀(d j:Nat) (acc:ByteArray),j+d=order.length→acc.size≤j*1048576→Ev (fun k=>impl_TextOf.l0 k (j:Int) order acc xs) (acc++txtOf xs (order.drop j)):=by
 intro d;induction d with
 |zero=>
  intro j acc h ha;refine ev_succ ?_;simp only[impl_TextOf.l0];rw[List.drop_of_length_le (by omega)];refine ev_neg (by omega) (ev_some ?_);simp only[txtOf];rw[ba_nil]
 |succ d ih=>
  intro j acc h ha;have hj:j<order.length:=by omega
  have hrd:rd order (j:Int)=order[j]:=by
   unfold rd;rw[Int.toNat_natCast,List.getD_eq_getElem?_getD,List.getElem?_eq_getElem hj];rfl
  have hin:=ho _ (List.getElem_mem hj);have hsz:=(smallN_at hs hin.1 hin.2).2.2.2.1;refine ev_succ ?_;simp only[impl_TextOf.l0];rw[hrd,w64 (x:=(j:Int)+1) (by omega) (by omega),show(j:Int)+1=((j+1:Nat):Int)by omega,List.drop_eq_getElem_cons hj];simp only[txtOf];unfold txt1;refine ev_pos (by omega) (ev_pos (by omega) (ev_pos hin.1 (ev_pos hin.2 ?_)));by_cases c:(rd_T41 xs order[j]).f0=4
  ·rw[if_pos c,←ByteArray.append_assoc];refine ev_pos c (ev_pos (by omega) (ih (j+1) _ (by omega) ?_));rw[ByteArray.size_append];omega
  ·rw[if_neg c,nil_ba];refine ev_neg c ?_;exact ih (j+1) acc (by omega) (Nat.le_trans ha (Nat.mul_le_mul_right _ (Nat.le_succ j)))
theorem TextOf_both(hs:smallT xs)(a:Int)(ha: -9223372036854775808≤a∧a≤9223372036854775807): ∃r,Ev (fun k=>spec_TextOf.f k xs a) r∧Ev (fun k=>impl_TextOf.f k xs a) r∧(¬rightP xs∨ ¬inT xs a→r=⟨#[]⟩)∧(rightP xs→inT xs a→r=txtOf xs (preT xs a)):=by
 obtain⟨u,hu,hu2⟩:=spec_TreeOk_p hs;obtain⟨v,hv,hv2⟩:=impl_TreeOk_p hs;have hsl:=hs.1;have e:=bool_iff hu2 hv2;subst e;have hhas:spec_l6Has.f xs a=some (decide (inT xs a)):=by
  unfold spec_l6Has.f;rw[spec_l1In_eq,w64 (by omega) (by omega)];simp only[Option.bind_some]
  congr 1
  exact decide_eq_decide.2 (by unfold inT;omega)
 have hnode:=impl_isNode_eq hsl a;unfold spec_TextOf.f impl_TextOf.f;rw[hhas,hnode];simp only[Option.bind_some];have hdec:decide (0≤a∧a<(xs.length:Int))=decide (inT xs a):=rfl;rw[hdec];by_cases hin:inT xs a
 ·cases u with
  |false=>
   have hnr: ¬rightP xs:=fun g=>by have:=hu2.2 g;cases this
   exact⟨⟨#[]⟩,Ev.bind hu (ev_neg (by decide) (Ev.now _)),ev_pos (decide_eq_true hin) (Ev.bind hv (ev_neg (by decide) (Ev.now _))),fun _=>rfl,fun g=>absurd g hnr⟩
  |true=>
   have hr:=hu2.1 rfl;have rt:=RT.of hr;have hb:=impl_below_ev rt hs hin;have hl:=preT_len rt hin;have hm:=rt.most;have h1:=impl_txt_l rt hs (preT xs a) (preT_in rt hin) (by omega) (preT xs a).length 0 ⟨#[]⟩ (by omega) (by rw[size_nil];omega);rw[List.drop_zero,nil_ba]at h1;refine⟨txtOf xs (preT xs a),Ev.bind hu (ev_pos rfl (ev_pos (decide_eq_true hin) (Ev.bind (spec_l8Text_ev rt hs hin) (Ev.now _)))),ev_pos (decide_eq_true hin) (Ev.bind hv (ev_pos rfl (Ev.bind hb (ev_pos ?_ h1)))),fun g=>absurd g (by rintro (g|g)<;>exact g (by assumption)),fun _ _=>rfl⟩;rw[preT_eq rt hin];simp
 ·cases u with
  |false=>exact⟨⟨#[]⟩,Ev.bind hu (ev_neg (by decide) (Ev.now _)),ev_neg (by simpa using hin) (Ev.now _),fun _=>rfl,fun _ g=>absurd g hin⟩
  |true=>exact⟨⟨#[]⟩,Ev.bind hu (ev_pos rfl (ev_neg (by simpa using hin) (Ev.now _))),ev_neg (by simpa using hin) (Ev.now _),fun _=>rfl,fun _ g=>absurd g hin⟩
end
section
open Go.Lib
theorem rall_eq(s old new:List UInt8)(hne:old≠new):Lib.replaceAll s old new=Lib.replaceK old new (count s old) s:=by
 unfold Lib.replaceAll replace replaceNum;rw[if_neg (by simpa using hne),if_pos (Or.inl (by decide))]
theorem rall_nil(old new:List UInt8)(h0:old≠ [])(hne:old≠new):Lib.replaceAll [] old new= []:=by
 have hi:index [] old= -1:=by cases old with|nil=>exact absurd rfl h0|cons a t=>rfl
 rw[rall_eq _ _ _ hne,count_miss hi];rfl
theorem rall_skip(old new:List UInt8)(h0:old≠ [])(hne:old≠new)(b:UInt8)(l:List UInt8)(hp:old.isPrefixOf (b::l)=false):Lib.replaceAll (b::l) old new=b::Lib.replaceAll l old new:=by
 rw[rall_eq _ _ _ hne,rall_eq _ _ _ hne];by_cases hm:index l old= -1
 ·have hi:index (b::l) old= -1:=by unfold index;rw[hp,hm];rfl
  rw[count_miss hi,count_miss hm];rfl
 ·obtain⟨i,hi⟩: ∃i:Nat,index l old=i:=⟨(index l old).toNat,by have:=index_ge l old;omega⟩
  have hi':index (b::l) old=(i+1:Nat):=by unfold index;rw[hp,hi];simp
  have e:(b::l).drop (i+1+old.length)=l.drop (i+old.length):=by rw[show i+1+old.length=(i+old.length)+1 by omega];rfl
  rw[count_hit h0 hi',count_hit h0 hi,e,Nat.add_comm 1,Lib.replaceK_hit _ _ _ _ _ hi',Lib.replaceK_hit _ _ _ _ _ hi,e];rfl
theorem rall_hit(old new:List UInt8)(h0:old≠ [])(hne:old≠new)(t:List UInt8):Lib.replaceAll (old++t) old new=new++Lib.replaceAll t old new:=by
 have hi:index (old++t) old=(0:Nat):=by
  cases old with
  |nil=>exact absurd rfl h0
  |cons a r=>
   have hp:(a::r).isPrefixOf (a::(r++t))=true:=List.isPrefixOf_iff_prefix.2 ⟨t,rfl⟩;show index (a::(r++t)) (a::r)=0
   unfold index;rw[hp];rfl
 rw[rall_eq _ _ _ hne,rall_eq _ _ _ hne,count_hit h0 hi,Nat.add_comm 1,Lib.replaceK_hit _ _ _ _ _ hi];simp
theorem rall_one(c:UInt8)(new:List UInt8)(hne: [c]≠new): ∀s:List UInt8,Lib.replaceAll s [c] new=s.flatMap (fun x=>if x=c then new else [x]):=by
 intro s;induction s with
 |nil=>exact rall_nil _ _ (by simp) hne
 |cons x t ih=>
  rw[List.flatMap_cons,←ih];by_cases e:x=c
  ·subst e;rw[if_pos rfl];exact rall_hit [x] new (by simp) hne t
  ·rw[if_neg e];exact rall_skip _ _ (by simp) hne x t (by simp [List.isPrefixOf];exact fun h=>e h.symm)
def ampL:List UInt8:= [38,97,109,112,59]
def nbspL:List UInt8:= [38,110,98,115,112,59]
def quotL:List UInt8:= [38,113,117,111,116,59]
def ltL:List UInt8:= [38,108,116,59]
def gtL:List UInt8:= [38,103,116,59]
def escB(v:Bool)(x:UInt8):List UInt8:=if x=38 then ampL else if x=34∧v=true then quotL else if x=60∧v=false then ltL else if x=62∧v=false then gtL else [x]
def escL(v:Bool):List UInt8→List UInt8
 | []=> []
 | [x]=>escB v x
 |x::y::t=>if x=194∧y=160 then nbspL++escL v t else escB v x++escL v (y::t)
def R2(s:List UInt8):List UInt8:=Lib.replaceAll s [194,160] nbspL
theorem R2_skip{b:UInt8}(h:b≠194)(l:List UInt8):R2 (b::l)=b::R2 l:=rall_skip _ _ (by simp) (by simp [nbspL]) b l (by simp [List.isPrefixOf];exact fun e=>absurd e.symm h)
theorem R2_not{y:UInt8}(h:y≠160)(l:List UInt8):R2 (194::y::l)=194::R2 (y::l):=rall_skip _ _ (by simp) (by simp [nbspL]) 194 _ (by simp [List.isPrefixOf];exact fun e=>absurd e.symm h)
theorem R2_hit(l:List UInt8):R2 (194::160::l)=nbspL++R2 l:=rall_hit [194,160] nbspL (by simp) (by simp [nbspL]) l
theorem R2_nil:R2 []= []:=rall_nil _ _ (by simp) (by simp [nbspL])
theorem R2_one:R2 [194]= [194]:=by unfold R2;rw[rall_skip _ _ (by simp) (by simp [nbspL]) 194 [] (by decide)];rw[rall_nil _ _ (by simp) (by simp [nbspL])]
def fA(s:List UInt8):List UInt8:=s.flatMap (fun x=>if x=38 then ampL else [x])
def fV(v:Bool)(s:List UInt8):List UInt8:=if v=true then s.flatMap (fun x=>if x=34 then quotL else [x])else(s.flatMap (fun x=>if x=60 then ltL else [x])).flatMap (fun x=>if x=62 then gtL else [x])
theorem fV_app(v:Bool)(a b:List UInt8):fV v (a++b)=fV v a++fV v b:=by
 unfold fV;cases v<;>simp [List.flatMap_append]
theorem fV_one(v:Bool)(x:UInt8)(h:x≠38):fV v [x]=escB v x:=by
 unfold fV escB;rw[if_neg h];cases v with
 |true=>by_cases e:x=34<;>simp [e]
 |false=>
  by_cases e:x=60
  ·subst e;decide
  ·by_cases e2:x=62<;>simp [e,e2]
theorem fA_cons(x:UInt8)(t:List UInt8):fA (x::t)=(if x=38 then ampL else [x])++fA t:=List.flatMap_cons
theorem R2_amp(l:List UInt8):R2 (ampL++l)=ampL++R2 l:=by
 show R2 (38::97::109::112::59::l)=_
 rw[R2_skip (by decide),R2_skip (by decide),R2_skip (by decide),R2_skip (by decide),R2_skip (by decide)];rfl
theorem fV_amp(v:Bool):fV v ampL=ampL:=by cases v<;>decide
theorem fV_nbsp(v:Bool):fV v nbspL=nbspL:=by cases v<;>decide
theorem escL_cons{v:Bool}{x:UInt8}(t:List UInt8)(h: ∀r,¬(x=194∧t=160::r)):escL v (x::t)=escB v x++escL v t:=by
 cases t with
 |nil=>simp [escL]
 |cons y r=>rw[escL,if_neg (fun e=>h r ⟨e.1,by rw[e.2]⟩)]
theorem esc_same(v:Bool): ∀(n:Nat) (s:List UInt8),s.length≤n→fV v (R2 (fA s))=escL v s:=by
 intro n;induction n with
 |zero=>intro s h;cases s with|nil=>simp [fA,R2_nil,escL,fV]|cons x t=>simp at h
 |succ n ih=>
  intro s h;cases s with
  |nil=>simp [fA,R2_nil,escL,fV]
  |cons x t=>
   have iht:=ih t (by simpa using h);rw[fA_cons];by_cases e:x=38
   ·subst e;rw[if_pos rfl,R2_amp,fV_app,fV_amp,iht,escL_cons _ (fun r h=>absurd h.1 (by decide))];rfl
   ·rw[if_neg e];by_cases e2:x=194
    ·subst e2;cases t with
     |nil=>
      show fV v (R2 [194])=escL v [194]
      rw[R2_one,fV_one v 194 (by decide)];rfl
     |cons y r=>
      by_cases e3:y=160
      ·subst e3;have ihr:=ih r (by simp at h;omega);rw[fA_cons,if_neg (by decide)];show fV v (R2 (194::160::fA r))=_
       rw[R2_hit,fV_app,fV_nbsp,ihr];simp [escL]
      ·rw[escL_cons _ (fun r h=>e3 (by have:=h.2;simp at this;exact this.1)),←iht,←fV_one v 194 (by decide),←fV_app];have: ∃z q,fA (y::r)=z::q∧z≠160:=by
        rw[fA_cons];by_cases e4:y=38
        ·rw[if_pos e4];exact⟨38,_,rfl,by decide⟩
        ·rw[if_neg e4];exact⟨y,_,rfl,e3⟩
       obtain⟨z,q,hz,hz2⟩:=this;rw[hz];show fV v (R2 (194::z::q))=_
       rw[R2_not hz2];rfl
    ·show fV v (R2 (x::fA t))=_
     rw[R2_skip e2,escL_cons _ (fun r h=>e2 h.1),←iht,←fV_one v x e,←fV_app];rfl
end
def toI(l:List UInt8):List Int:=l.map fun b=>(b.toNat:Int)
theorem toI_app(a b:List UInt8):toI (a++b)=toI a++toI b:=List.map_append
theorem u8_eq{x:UInt8}(n:Nat)(hn:n<256):x=UInt8.ofNat n↔(x.toNat:Int)=n:=by
 constructor
 ·rintro rfl;simp;omega
 ·intro h;apply UInt8.toNat_inj.1;simp;omega
theorem one_esc(v:Bool)(x:UInt8):spec_Escape.one v (x.toNat:Int)=toI (escB v x):=by
 have h38:x=38↔(x.toNat:Int)=38:=u8_eq 38 (by omega);have h34:x=34↔(x.toNat:Int)=34:=u8_eq 34 (by omega);have h60:x=60↔(x.toNat:Int)=60:=u8_eq 60 (by omega);have h62:x=62↔(x.toNat:Int)=62:=u8_eq 62 (by omega);have hlt:=x.toNat_lt;unfold spec_Escape.one escB;by_cases c1:x=38
 ·rw[if_pos (h38.1 c1),if_pos c1];rfl
 ·rw[if_neg (fun e=>c1 (h38.2 e)),if_neg c1];by_cases c2:x=34∧v=true
  ·rw[if_pos ⟨h34.1 c2.1,c2.2⟩,if_pos c2];rfl
  ·rw[if_neg (fun e=>c2 ⟨h34.2 e.1,e.2⟩),if_neg c2];by_cases c3:x=60∧v=false
   ·rw[if_pos ⟨h60.1 c3.1,c3.2⟩,if_pos c3];rfl
   ·rw[if_neg (fun e=>c3 ⟨h60.2 e.1,e.2⟩),if_neg c3];by_cases c4:x=62∧v=false
    ·rw[if_pos ⟨h62.1 c4.1,c4.2⟩,if_pos c4];rfl
    ·rw[if_neg (fun e=>c4 ⟨h62.2 e.1,e.2⟩),if_neg c4];show [(x.toNat:Int) % 256]= [(x.toNat:Int)]
     rw[Int.emod_eq_of_lt (by omega) (by omega)]
theorem one_len(v:Bool)(b:Int):(spec_Escape.one v b).length≤6:=by
 unfold spec_Escape.one;repeat' split
 all_goals simp
theorem bt_drop(s:ByteArray)(i:Nat)(h:i<s.size): ∃x,s.data.toList.drop i=x::s.data.toList.drop (i+1)∧bt s i=(x.toNat:Int):=by
 have hl:i<s.data.toList.length:=by rw[data_length];exact h
 refine⟨_,List.drop_eq_getElem_cons hl, ?_⟩;rw[←bt_at s i (by simpa using h)];simp;rfl
theorem spec_Escape_l0(s:ByteArray)(v:Bool)(hs:s.size≤1048576): ∀(n i:Nat) (o:List Int),s.size≤i+n→i≤s.size→o.length+6*n≤90000000000→Ev (fun k=>spec_Escape.l0 k s v o i) (strOfNums (o++toI (escL v (s.data.toList.drop i)))):=by
 intro n;induction n using Nat.strongRecOn with
 |_ n ih=>
  intro i o h1 h2 h3;by_cases hi:i<s.size
  ·obtain⟨x,hx,hb⟩:=bt_drop s i hi;refine ev_succ ?_;simp only[spec_Escape.l0];refine ev_pos (by omega) (ev_pos (by omega) (ev_pos (by omega) (ev_pos (by omega) ?_)));by_cases c:bt s i=194∧(i:Int)+1<s.size∧bt s ((i:Int)+1)=160
   ·obtain⟨y,hy,hb2⟩:=bt_drop s (i+1) (by omega);have e1:((i+1:Nat):Int)=(i:Int)+1:=by omega
    rw[e1]at hb2;have ex:x=194:=(u8_eq 194 (by omega)).2 (by rw[←hb];exact c.1);have ey:y=160:=(u8_eq 160 (by omega)).2 (by rw[←hb2];exact c.2.2);have e2:escL v (s.data.toList.drop i)=nbspL++escL v (s.data.toList.drop (i+2)):=by
     rw[hx,hy,ex,ey];simp [escL]
    have:=ih (n- 2) (by omega) (i+2) (o++ [38,110,98,115,112,59]) (by omega) (by omega) (by rw[List.length_append];simp only[List.length_cons,List.length_nil];omega);rw[e2,toI_app,←List.append_assoc];rw[show wrap64 ((i:Int)+1+1)=((i+2:Nat):Int)by rw[w64 (by omega) (by omega)];omega];exact ev_pos c this
   ·have hne: ∀r,¬(x=194∧s.data.toList.drop (i+1)=160::r):=by
     rintro r ⟨rfl,hr⟩;have hl:i+1<s.size:=by
      have:=congrArg List.length hr;rw[List.length_drop,data_length,List.length_cons]at this;omega
     obtain⟨y,hy,hb2⟩:=bt_drop s (i+1) hl;have e1:((i+1:Nat):Int)=(i:Int)+1:=by omega
     rw[e1]at hb2;rw[hy]at hr;have ey:y=160:=by injection hr
     subst ey;exact c ⟨hb,by omega,hb2⟩
    have e2:escL v (s.data.toList.drop i)=escB v x++escL v (s.data.toList.drop (i+1)):=by
     rw[hx,escL_cons _ hne]
    have hl:=one_len v (bt s i);have:=ih (n- 1) (by omega) (i+1) (o++spec_Escape.one v (bt s i)) (by omega) (by omega) (by rw[List.length_append];omega);rw[e2,toI_app,←one_esc,←hb,←List.append_assoc];rw[show wrap64 ((i:Int)+1)=((i+1:Nat):Int)by rw[w64 (by omega) (by omega)];omega];exact ev_neg c this
  ·refine ev_succ ?_;simp only[spec_Escape.l0];rw[List.drop_of_length_le (by rw[data_length];omega)];exact ev_neg (by omega) (ev_some (by simp [escL,toI]))
theorem rb_data(s old new:ByteArray):(rb s old new).data.toList=Lib.replaceAll s.data.toList old.data.toList new.data.toList:=by
 unfold rb;simp
theorem esc_data(s:ByteArray)(v:Bool):(impl_Escape.f s v).data.toList=escL v s.data.toList:=by
 rw[←esc_same v s.data.toList.length s.data.toList (Nat.le_refl _)];unfold impl_Escape.f;have h1:(rb s ⟨#[38]⟩ ⟨#[38,97,109,112,59]⟩).data.toList=fA s.data.toList:=by
  rw[rb_data];exact rall_one 38 ampL (by decide) _
 cases v with
 |true=>
  rw[if_pos rfl,rb_data,rb_data,h1];exact rall_one 34 quotL (by decide) _
 |false=>
  rw[if_neg (by decide),rb_data,rb_data,rb_data,h1];unfold fV;rw[if_neg (by decide)];have e:=rall_one 60 ltL (by decide) (R2 (fA s.data.toList));rw[←e];exact rall_one 62 gtL (by decide) _
theorem spec_Escape_ev(s:ByteArray)(v:Bool)(hs:s.size≤1048576):Ev (fun k=>spec_Escape.f k s v) (impl_Escape.f s v):=by
 have h:=spec_Escape_l0 s v hs s.size 0 [] (by omega) (by omega) (by simp;omega);have e:strOfNums ([]++toI (escL v (s.data.toList.drop 0)))=impl_Escape.f s v:=by
  rw[List.drop_zero,List.nil_append,←esc_data];exact str_bytes (impl_Escape.f s v)
 rw[e]at h;exact h
theorem contains_iff(s sub:List UInt8):Lib.contains s sub=true↔ ∃a b,s=a++(sub++b):=by
 unfold Lib.contains;rw[decide_eq_true_eq];rcases Lib.index_spec s sub with⟨h,hno⟩|⟨i,h,hi,ho,_⟩
 ·constructor
  ·intro g;omega
  ·rintro⟨a,b,rfl⟩;have:=hno a.length (by simp);unfold Lib.occAt at this;rw[List.drop_left]at this;have hp:sub.isPrefixOf (sub++b)=true:=List.isPrefixOf_iff_prefix.2 (List.prefix_append sub b);rw[hp]at this;simp at this
 ·constructor
  ·intro _;unfold Lib.occAt at ho;obtain⟨t,ht⟩:=List.isPrefixOf_iff_prefix.1 ho;exact⟨s.take i,t,by rw[ht,List.take_append_drop]⟩
  ·intro _;omega
theorem cut32: ∀(w p x y:List UInt8),(∀c∈w,c≠32)→w++32::x=p++32::y→(p=w∧x=y)∨ ∃q,p=w++32::q∧x=q++32::y:=by
 intro w;induction w with
 |nil=>
  intro p x y _ h;cases p with
  |nil=>simp at h;exact .inl ⟨rfl,h⟩
  |cons c p=>
   simp at h;exact .inr ⟨p,by rw[←h.1];rfl,h.2⟩
 |cons c w ih=>
  intro p x y hw h;cases p with
  |nil=>
   simp at h;exact absurd h.1 (hw c (by simp))
  |cons d p=>
   simp at h;rcases ih p x y (fun e he=>hw e (by simp [he])) h.2 with⟨g1,g2⟩|⟨q,g1,g2⟩
   ·exact .inl ⟨by rw[←h.1,g1],g2⟩
   ·exact .inr ⟨q,by rw[←h.1,g1];rfl,g2⟩
def flat(ws:List (List UInt8)):List UInt8:=ws.flatMap (fun w=>w++ [32])
theorem flat_has(s:List UInt8)(hs: ∀c∈s,c≠32): ∀(ws:List (List UInt8)),(∀w∈ws,∀c∈w,c≠32)→((∃a b,32::flat ws=a++32::(s++32::b))↔s∈ws):=by
 intro ws;induction ws with
 |nil=>
  intro _;constructor
  ·rintro⟨a,b,h⟩;have:=congrArg List.length h;simp [flat]at this;omega
  ·intro h;simp at h
 |cons w r ih=>
  intro hw;have e:32::flat (w::r)=32::(w++32::flat r):=by simp [flat]
  have ihr:=ih (fun v hv=>hw v (by simp [hv]));rw[e];constructor
  ·rintro⟨a,b,h⟩;cases a with
   |nil=>
    simp at h;rcases cut32 w s (flat r) b (hw w (by simp)) h with⟨g,_⟩|⟨q,g,_⟩
    ·rw[g];simp
    ·exact absurd rfl (hs 32 (by rw[g];simp))
   |cons c a=>
    simp at h;rcases cut32 w a (flat r) (s++32::b) (hw w (by simp)) h.2 with⟨_,g⟩|⟨q,_,g⟩
    ·exact List.mem_cons_of_mem _ (ihr.1 ⟨[],b,by rw[g];rfl⟩)
    ·exact List.mem_cons_of_mem _ (ihr.1 ⟨32::q,b,by rw[g];rfl⟩)
  ·intro h;rcases List.mem_cons.1 h with rfl|h
   ·exact⟨[],flat r,by simp⟩
   ·obtain⟨a,b,g⟩:=ihr.2 h;exact⟨32::(w++a),b,by rw[g];simp⟩
theorem app_data(a b:ByteArray):(a++b).data.toList=a.data.toList++b.data.toList:=by simp
theorem oneOf_iff(ws:List ByteArray)(s words:ByteArray)(hj:words.data.toList++ [32]=flat (ws.map (fun w=>w.data.toList)))(hn: ∀w∈ws,w.data.toList≠ []∧ ∀c∈w.data.toList,c≠32):oneOf s words=true↔s∈ws:=by
 unfold oneOf;have hm:s∈ws↔s.data.toList∈ws.map (fun w=>w.data.toList):=by
  rw[List.mem_map];constructor
  ·intro h;exact⟨s,h,rfl⟩
  ·rintro⟨w,hw,e⟩;have:w=s:=by rw[←data_eta w,e,data_eta]
   rw[←this];exact hw
 by_cases h0:s.toList= []
 ·simp only[h0,decide_true,Bool.not_true,Bool.false_and,Bool.false_eq_true,false_iff];rw[hm,List.mem_map];rintro⟨w,hw,e⟩;rw[Lib.toList_data]at h0;exact(hn w hw).1 (e.trans h0)
 ·by_cases h1:Lib.contains s.data.toList (⟨#[32]⟩:ByteArray).data.toList=true
  ·simp only[h1,Bool.not_true,Bool.false_and,Bool.and_false,Bool.false_eq_true,false_iff];obtain⟨a,b,g⟩:=(contains_iff _ _).1 h1;rw[hm,List.mem_map];rintro⟨w,hw,e⟩;refine(hn w hw).2 32 ?_ rfl;rw[e,g];simp
  ·have hs: ∀c∈s.data.toList,c≠32:=by
    rintro c hc rfl;obtain⟨a,b,g⟩:=List.append_of_mem hc;exact h1 ((contains_iff _ _).2 ⟨a,b,by rw[g];rfl⟩)
   have h1':Lib.contains s.data.toList (⟨#[32]⟩:ByteArray).data.toList=false:=by simpa using h1
   rw[h1',decide_eq_false h0];simp only[Bool.not_false,Bool.true_and];rw[contains_iff,hm,←flat_has s.data.toList hs _ (by
    intro v hv;obtain⟨w,hw,rfl⟩:=List.mem_map.1 hv;exact(hn w hw).2)]
   have e1:(((⟨#[32]⟩:ByteArray)++words)++(⟨#[32]⟩:ByteArray)).data.toList=32::flat (ws.map (fun w=>w.data.toList)):=by
    rw[app_data,app_data,←hj];rfl
   have e2:(((⟨#[32]⟩:ByteArray)++s)++(⟨#[32]⟩:ByteArray)).data.toList=32::(s.data.toList++ [32]):=by
    rw[app_data,app_data];rfl
   rw[e1,e2];constructor
   ·rintro⟨a,b,g⟩;exact⟨a,b,by rw[g];simp⟩
   ·rintro⟨a,b,g⟩;exact⟨a,b,by rw[g];simp⟩
theorem l7Find_l(l:List ByteArray)(s:ByteArray)(hl:l.length≤1000): ∀(d i:Nat),i+d=l.length→ ∃r,Ev (fun k=>spec_l7Find.l0 k l s i) r∧(r≥0↔s∈l.drop i):=by
 intro d;induction d with
 |zero=>
  intro i h;refine⟨-1, ?_,by rw[List.drop_of_length_le (by omega)];simp⟩;refine ev_succ ?_;simp only[spec_l7Find.l0];exact ev_neg (by omega) (Ev.now _)
 |succ d ih=>
  intro i h;obtain⟨r,hr,hrr⟩:=ih (i+1) (by omega);have hi:i<l.length:=by omega
  have hrd:rdOf ByteArray.empty l (i:Int)=l[i]:=by
   unfold rdOf;rw[List.getD_eq_getElem?_getD,show((i:Int).toNat)=i by omega,List.getElem?_eq_getElem hi];rfl
  rw[List.drop_eq_getElem_cons hi];by_cases c:l[i]=s
  ·refine⟨i, ?_,by rw[List.mem_cons];exact⟨fun _=> .inl c.symm,fun _=>by omega⟩⟩;refine ev_succ ?_;simp only[spec_l7Find.l0];rw[hrd];exact ev_pos (by omega) (ev_pos (by omega) (ev_pos (by rw[c]) (Ev.now _)))
  ·refine⟨r, ?_,by rw[hrr,List.mem_cons];exact⟨.inr,fun h=>h.resolve_left (fun e=>c e.symm)⟩⟩;refine ev_succ ?_;simp only[spec_l7Find.l0];rw[hrd,w64 (x:=(i:Int)+1) (by omega) (by omega)];exact ev_pos (by omega) (ev_pos (by omega) (ev_neg (fun g=>c (toList_ext g)) hr))
theorem l8In_one(ws:List ByteArray)(s words:ByteArray)(hl:ws.length≤1000)(hj:words.data.toList++ [32]=flat (ws.map (fun w=>w.data.toList)))(hn: ∀w∈ws,w.data.toList≠ []∧ ∀c∈w.data.toList,c≠32):Ev (fun k=>spec_l8In.f k ws s) (oneOf s words):=by
 unfold spec_l8In.f;obtain⟨r,hr,hrr⟩:=l7Find_l ws s hl ws.length 0 (by omega);refine Ev.bind (a:=r) (by unfold spec_l7Find.f;exact hr) (ev_some ?_);have h1:=oneOf_iff ws s words hj hn;rw[List.drop_zero]at hrr;cases h:oneOf s words with
 |true=>rw[decide_eq_true (hrr.2 (h1.1 h))]
 |false=>
  rw[decide_eq_false];intro g;have:=h1.2 (hrr.1 g);rw[h]at this;simp at this
theorem ev2_diag{α:Type}{g:Nat→Nat→Option α}{r:α}(h: ∃K,∀q,K≤q→ ∀k,K≤k→g q k=some r):Ev (fun k=>g k k) r:=by
 obtain⟨K,h⟩:=h;exact⟨K,fun k hk=>h k hk k hk⟩
theorem bz(a:ByteArray):a++(⟨#[]⟩:ByteArray)=a:=ByteArray.append_empty
theorem zb(a:ByteArray):(⟨#[]⟩:ByteArray)++a=a:=ByteArray.empty_append
theorem size0:(⟨#[]⟩:ByteArray).size=0:=rfl
theorem pre_len_le'{xs:List IN}(rt:RT xs)(m:Nat){i:Int}(hi:inT xs i):(pre xs m i).length≤xs.length:=
 nodup_len _ _ (pre_nodup rt m i hi) (fun x hx=>(pre_in rt m i hi x hx).1)
theorem wrB_some{acc s:ByteArray}(h:acc.size+s.size≤140737488355328):wrB acc s=some (acc++s):=if_pos h
theorem okS_some{s:ByteArray}(h:s.size≤9223372036854775807):okS s=some s:=if_pos h
theorem spec_IsRaw_ev(s:ByteArray):Ev (fun k=>spec_IsRaw.f k s) (oneOf s words_IsRaw):=by
 unfold spec_IsRaw.f;exact Ev.bind (l8In_one [(⟨#[105,102,114,97,109,101]⟩:ByteArray),(⟨#[110,111,101,109,98,101,100]⟩:ByteArray),(⟨#[110,111,102,114,97,109,101,115]⟩:ByteArray),(⟨#[112,108,97,105,110,116,101,120,116]⟩:ByteArray),(⟨#[115,99,114,105,112,116]⟩:ByteArray),(⟨#[115,116,121,108,101]⟩:ByteArray),(⟨#[120,109,112]⟩:ByteArray)] s words_IsRaw (by decide) (by decide+kernel) (by decide+kernel)) (Ev.now _)
theorem spec_IsVoid_ev(s:ByteArray):Ev (fun k=>spec_IsVoid.f k s) (oneOf s words_IsVoid):=by
 unfold spec_IsVoid.f;exact Ev.bind (l8In_one [(⟨#[97,114,101,97]⟩:ByteArray),(⟨#[98,97,115,101]⟩:ByteArray),(⟨#[98,114]⟩:ByteArray),(⟨#[101,109,98,101,100]⟩:ByteArray),(⟨#[104,114]⟩:ByteArray),(⟨#[105,109,103]⟩:ByteArray),(⟨#[105,110,112,117,116]⟩:ByteArray),(⟨#[108,105,110,107]⟩:ByteArray),(⟨#[109,101,116,97]⟩:ByteArray),(⟨#[112,97,114,97,109]⟩:ByteArray),(⟨#[115,111,117,114,99,101]⟩:ByteArray),(⟨#[116,114,97,99,107]⟩:ByteArray),(⟨#[119,98,114]⟩:ByteArray)] s words_IsVoid (by decide) (by decide+kernel) (by decide+kernel)) (Ev.now _)
theorem rdA_at{l:List IA}{j:Nat}(hj:j<l.length):rd_T72 l (j:Int)=l[j]:=by
 unfold rd_T72;rw[Int.toNat_natCast,List.getD_eq_getElem?_getD,List.getElem?_eq_getElem hj];rfl
theorem rd_at{l:List Int}{j:Nat}(hj:j<l.length):rd l (j:Int)=l[j]:=by
 unfold rd;rw[Int.toNat_natCast,List.getD_eq_getElem?_getD,List.getElem?_eq_getElem hj];rfl
def atsT:List IA→ByteArray
 | []=>⟨#[]⟩
 |a::r=>impl_print.at a++atsT r
abbrev smallA(a:IA):Prop:=a.f0.size≤1048576∧a.f1.size≤1048576
theorem at_size{a:IA}(h:smallA a):(impl_print.at a).size≤4296015876:=by
 unfold impl_print.at;have:=esc_size a.f1 true h.2;simp only[ByteArray.size_append];have h1:(⟨#[32]⟩:ByteArray).size=1:=rfl;have h2:(⟨#[61,34]⟩:ByteArray).size=2:=rfl;have h3:(⟨#[34]⟩:ByteArray).size=1:=rfl;have:=h.1;omega
theorem ats_size: ∀ {l:List IA},(∀a∈l,smallA a)→(atsT l).size≤l.length*4296015876
 | [],_=>Nat.le_refl _
 |a::r,h=>by
  have h1:=at_size (h a List.mem_cons_self);have h2:=ats_size (l:=r) (fun b hb=>h b (List.mem_cons_of_mem _ hb));simp only[atsT,ByteArray.size_append,List.length_cons];omega
theorem impl_la(l:List IA)(hl:l.length≤1048576)(hs: ∀a∈l,smallA a): ∀(d j:Nat) (acc:ByteArray),j+d=l.length→acc.size+d*4296015876≤140737488355328→Ev (fun k=>impl_print.la k acc l (j:Int)) (acc++atsT (l.drop j)):=by
 intro d;induction d with
 |zero=>
  intro j acc h ha;refine ev_succ ?_;simp only[impl_print.la];rw[List.drop_of_length_le (by omega)];exact ev_neg (by omega) (ev_some (by simp only[atsT];rw[bz]))
 |succ d ih=>
  intro j acc h ha;have hj:j<l.length:=by omega
  have hm:=hs _ (List.getElem_mem hj);have hz:=at_size hm;refine ev_succ ?_;simp only[impl_print.la];rw[rdA_at hj,w64 (x:=(j:Int)+1) (by omega) (by omega),show(j:Int)+1=((j+1:Nat):Int)by omega,List.drop_eq_getElem_cons hj,wrB_some (by omega)];simp only[atsT,Option.bind_some];rw[←ByteArray.append_assoc];refine ev_pos (by omega) (ev_pos (by omega) (ev_pos hm (ih (j+1) _ (by omega) ?_)));rw[ByteArray.size_append];omega
theorem spec_la(l:List IA)(hl:l.length≤1048576)(hs: ∀a∈l,smallA a): ∀(d j:Nat) (acc:ByteArray),j+d=l.length→acc.size+d*4296015876≤9223372036854775807→Ev (fun k=>spec_l8Print.la k acc l (j:Int)) (acc++atsT (l.drop j)):=by
 intro d;induction d with
 |zero=>
  intro j acc h ha;refine ev_succ ?_;simp only[spec_l8Print.la];rw[List.drop_of_length_le (by omega)];exact ev_neg (by omega) (ev_some (by simp only[atsT];rw[bz]))
 |succ d ih=>
  intro j acc h ha;have hj:j<l.length:=by omega
  have hm:=hs _ (List.getElem_mem hj);have hz:=at_size hm;have e:acc++(⟨#[32]⟩:ByteArray)++l[j].f0++(⟨#[61,34]⟩:ByteArray)++impl_Escape.f l[j].f1 true++(⟨#[34]⟩:ByteArray)=acc++impl_print.at l[j]:=by
   unfold impl_print.at;simp only[ByteArray.append_assoc]
  refine ev_succ ?_;simp only[spec_l8Print.la];rw[rdA_at hj,w64 (x:=(j:Int)+1) (by omega) (by omega),show(j:Int)+1=((j+1:Nat):Int)by omega,List.drop_eq_getElem_cons hj];simp only[atsT];rw[←ByteArray.append_assoc];refine ev_pos (by omega) (ev_pos (by omega) (Ev.bind (spec_Escape_ev l[j].f1 true hm.2) ?_));rw[e,okS_some (by rw[ByteArray.size_append];omega)];simp only[Option.bind_some];exact ih (j+1) _ (by omega) (by rw[ByteArray.size_append];omega)
def nodeT(raw:Bool)(s:ByteArray)(x:IN):ByteArray:=
 if x.f0=2 then(⟨#[60,33,68,79,67,84,89,80,69,32]⟩:ByteArray)++x.f1++(⟨#[62]⟩:ByteArray)
 else if x.f0=5 then(⟨#[60,33,45,45]⟩:ByteArray)++x.f3++(⟨#[45,45,62]⟩:ByteArray)
 else if x.f0=4 then(if raw=true then x.f3 else impl_Escape.f x.f3 false)
 else if x.f0=3 then(⟨#[60]⟩:ByteArray)++x.f1++atsT x.f2++(⟨#[62]⟩:ByteArray)++(if oneOf x.f1 words_IsVoid=true then⟨#[]⟩else s++(⟨#[60,47]⟩:ByteArray)++x.f1++(⟨#[62]⟩:ByteArray))
 else⟨#[]⟩
structure OwnT(x:IN):Prop where
 n:x.f1.size≤1048576
 t:x.f3.size≤1048576
 a: ∀a∈x.f2,smallA a
 l:x.f0=3→x.f2.length≤20
theorem node_size{x:IN}(h:OwnT x)(raw:Bool)(s:ByteArray):(nodeT raw s x).size≤90000000000+s.size:=by
 have h1:=h.n;have h3:=h.t;have z1:(⟨#[60,33,68,79,67,84,89,80,69,32]⟩:ByteArray).size=10:=rfl;have z2:(⟨#[62]⟩:ByteArray).size=1:=rfl;have z3:(⟨#[60,33,45,45]⟩:ByteArray).size=4:=rfl;have z4:(⟨#[45,45,62]⟩:ByteArray).size=3:=rfl;have z5:(⟨#[60]⟩:ByteArray).size=1:=rfl;have z6:(⟨#[60,47]⟩:ByteArray).size=2:=rfl;have z7:(⟨#[]⟩:ByteArray).size=0:=rfl;have he:=esc_size x.f3 false h3;unfold nodeT;by_cases c2:x.f0=2
 ·rw[if_pos c2];simp only[ByteArray.size_append];omega
 ·rw[if_neg c2];by_cases c5:x.f0=5
  ·rw[if_pos c5];simp only[ByteArray.size_append];omega
  ·rw[if_neg c5];by_cases c4:x.f0=4
   ·rw[if_pos c4];split<;>omega
   ·rw[if_neg c4];by_cases c3:x.f0=3
    ·rw[if_pos c3];have ha:=ats_size h.a;have hl:=h.l c3;have:x.f2.length*4296015876≤20*4296015876:=Nat.mul_le_mul_right _ hl;split<;>simp only[ByteArray.size_append]<;>omega
    ·rw[if_neg c3];omega
theorem impl_node{xs:List IN}{x:IN}(h:OwnT x){raw:Bool}(hraw:x.f0=4→impl_print.raw xs x.f4=some raw)(s acc:ByteArray)(ha:acc.size+90000000000+s.size≤140737488355328):
 ∃K,∀kk:ByteArray→Option ByteArray,(x.f0=3→kk (acc++((⟨#[60]⟩:ByteArray)++x.f1)++atsT x.f2++(⟨#[62]⟩:ByteArray))=some (acc++((⟨#[60]⟩:ByteArray)++x.f1)++atsT x.f2++(⟨#[62]⟩:ByteArray)++s))→ ∀k,K≤k→impl_print.n kk k xs acc x=some (acc++nodeT raw s x):=by
 have h1:=h.n;have h3:=h.t;have z1:(⟨#[60,33,68,79,67,84,89,80,69,32]⟩:ByteArray).size=10:=rfl;have z2:(⟨#[62]⟩:ByteArray).size=1:=rfl;have z3:(⟨#[60,33,45,45]⟩:ByteArray).size=4:=rfl;have z4:(⟨#[45,45,62]⟩:ByteArray).size=3:=rfl;have z5:(⟨#[60]⟩:ByteArray).size=1:=rfl;have z6:(⟨#[60,47]⟩:ByteArray).size=2:=rfl;have he:=esc_size x.f3 false h3;unfold nodeT impl_print.n;by_cases c2:x.f0=2
 ·refine⟨0,fun kk _ k _=> ?_⟩;rw[if_pos ⟨h1,h3⟩,if_pos c2,if_pos c2,wrB_some (by simp only[ByteArray.size_append];omega)]
 ·by_cases c5:x.f0=5
  ·refine⟨0,fun kk _ k _=> ?_⟩;rw[if_pos ⟨h1,h3⟩,if_neg c2,if_neg c2,if_pos c5,if_pos c5,wrB_some (by simp only[ByteArray.size_append];omega)]
  ·by_cases c4:x.f0=4
   ·refine⟨0,fun kk _ k _=> ?_⟩;rw[if_pos ⟨h1,h3⟩,if_neg c2,if_neg c2,if_neg c5,if_neg c5,if_pos c4,if_pos c4,hraw c4,Option.bind_some];cases raw with
    |true=>rw[if_pos rfl,if_pos rfl,wrB_some (by omega)]
    |false=>rw[if_neg (by decide),if_neg (by decide),wrB_some (by omega)]
   ·by_cases c3:x.f0=3
    ·have hl:=h.l c3;have hz:=ats_size h.a;have hz2:x.f2.length*4296015876≤20*4296015876:=Nat.mul_le_mul_right _ hl;obtain⟨K,hK⟩:=impl_la x.f2 (by omega) h.a x.f2.length 0 (acc++((⟨#[60]⟩:ByteArray)++x.f1)) (by omega) (by simp only[ByteArray.size_append];omega);refine⟨K,fun kk hkk k hk=> ?_⟩;have e1:=hK k hk;rw[List.drop_zero]at e1;have e2:=hkk c3;rw[if_pos ⟨h1,h3⟩,if_neg c2,if_neg c2,if_neg c5,if_neg c5,if_neg c4,if_neg c4,if_pos c3,if_pos c3,wrB_some (by simp only[ByteArray.size_append];omega),Option.bind_some];rw[show impl_print.la k (acc++((⟨#[60]⟩:ByteArray)++x.f1)) x.f2 0=some (acc++((⟨#[60]⟩:ByteArray)++x.f1)++atsT x.f2)from e1,Option.bind_some,wrB_some (by simp only[ByteArray.size_append];omega),Option.bind_some];by_cases cv:oneOf x.f1 words_IsVoid=true
     ·rw[if_pos cv,if_pos cv,bz];simp only[ByteArray.append_assoc]
     ·rw[if_neg cv,if_neg cv,e2,Option.bind_some,wrB_some (by simp only[ByteArray.size_append];omega)];simp only[ByteArray.append_assoc]
    ·refine⟨0,fun kk _ k _=> ?_⟩;rw[if_pos ⟨h1,h3⟩,if_neg c2,if_neg c2,if_neg c5,if_neg c5,if_neg c4,if_neg c4,if_neg c3,if_neg c3,bz]
theorem spec_node{x:IN}(h:OwnT x)(nm s o:ByteArray)(ha:o.size+90000000000+s.size≤9223372036854775807):
 ∃K,∀P:Option ByteArray,(x.f0=3→P=some s)→ ∀k,K≤k→spec_l8Print.n P k nm o x=some (o++nodeT (oneOf nm words_IsRaw) s x):=by
 have h1:=h.n;have h3:=h.t;have z1:(⟨#[60,33,68,79,67,84,89,80,69,32]⟩:ByteArray).size=10:=rfl;have z2:(⟨#[62]⟩:ByteArray).size=1:=rfl;have z3:(⟨#[60,33,45,45]⟩:ByteArray).size=4:=rfl;have z4:(⟨#[45,45,62]⟩:ByteArray).size=3:=rfl;have z5:(⟨#[60]⟩:ByteArray).size=1:=rfl;have z6:(⟨#[60,47]⟩:ByteArray).size=2:=rfl;have he:=esc_size x.f3 false h3;unfold nodeT spec_l8Print.n;by_cases c2:x.f0=2
 ·refine⟨0,fun P _ k _=> ?_⟩;rw[if_pos c2,if_pos c2,okS_some (by simp only[ByteArray.size_append];omega)];simp only[ByteArray.append_assoc]
 ·by_cases c5:x.f0=5
  ·refine⟨0,fun P _ k _=> ?_⟩;rw[if_neg c2,if_neg c2,if_neg (show ¬x.f0=3 by omega),if_neg (show ¬x.f0=4 by omega),if_pos c5,if_pos c5,okS_some (by simp only[ByteArray.size_append];omega)];simp only[ByteArray.append_assoc]
  ·by_cases c4:x.f0=4
   ·obtain⟨K,hK⟩:=spec_IsRaw_ev nm;obtain⟨K2,hK2⟩:=spec_Escape_ev x.f3 false h3;refine⟨K+K2,fun P _ k hk=> ?_⟩;rw[if_neg c2,if_neg c2,if_neg (show ¬x.f0=3 by omega),if_pos c4,if_neg c5,if_pos c4,show spec_IsRaw.f k nm=some (oneOf nm words_IsRaw)from hK k (by omega),Option.bind_some];cases oneOf nm words_IsRaw with
    |true=>rw[if_pos rfl,if_pos rfl,okS_some (by rw[ByteArray.size_append];omega)]
    |false=>rw[if_neg (by decide),if_neg (by decide),show spec_Escape.f k x.f3 false=some (impl_Escape.f x.f3 false)from hK2 k (by omega),Option.bind_some,okS_some (by rw[ByteArray.size_append];omega)]
   ·by_cases c3:x.f0=3
    ·have hl:=h.l c3;have hz:=ats_size h.a;have hz2:x.f2.length*4296015876≤20*4296015876:=Nat.mul_le_mul_right _ hl;obtain⟨K,hK⟩:=spec_la x.f2 (by omega) h.a x.f2.length 0 (o++(⟨#[60]⟩:ByteArray)++x.f1) (by omega) (by simp only[ByteArray.size_append];omega);obtain⟨K2,hK2⟩:=spec_IsVoid_ev x.f1;refine⟨K+K2,fun P hP k hk=> ?_⟩;have e1:=hK k (by omega);rw[List.drop_zero]at e1;rw[if_neg c2,if_neg c2,if_pos c3,if_neg c5,if_neg c4,if_pos c3,okS_some (by simp only[ByteArray.size_append];omega),Option.bind_some];rw[show spec_l8Print.la k (o++(⟨#[60]⟩:ByteArray)++x.f1) x.f2 0=some (o++(⟨#[60]⟩:ByteArray)++x.f1++atsT x.f2)from e1,Option.bind_some,okS_some (by simp only[ByteArray.size_append];omega),Option.bind_some,show spec_IsVoid.f k x.f1=some (oneOf x.f1 words_IsVoid)from hK2 k (by omega),Option.bind_some];by_cases cv:oneOf x.f1 words_IsVoid=true
     ·rw[if_pos cv,if_pos cv,bz];simp only[ByteArray.append_assoc]
     ·rw[if_neg cv,if_neg cv,hP c3,Option.bind_some,okS_some (by simp only[ByteArray.size_append];omega)];simp only[ByteArray.append_assoc]
    ·refine⟨0,fun P _ k _=> ?_⟩;rw[if_neg c2,if_neg c2,if_neg c3,if_neg c5,if_neg c4,if_neg c4,if_neg c3,if_neg c5,bz]
def prK(f:Int→ByteArray):List Int→ByteArray
 | []=>⟨#[]⟩
 |k::r=>f k++prK f r
def prN(xs:List IN):Nat→Int→ByteArray
 |0,_=>⟨#[]⟩
 |m+1,i=>nodeT (oneOf (rd_T41 xs (pa xs i)).f1 words_IsRaw) (prK (prN xs m) (kd xs i)) (rd_T41 xs i)
theorem prK_size{f:Int→ByteArray}{g:Int→List Int}: ∀ {l:List Int},(∀k∈l,(f k).size≤(g k).length*90000000000)→(prK f l).size≤(l.flatMap g).length*90000000000
 | [],_=>by simp only[prK,size0];exact Nat.zero_le _
 |k::r,h=>by
  have h1:=h k List.mem_cons_self;have h2:=prK_size (f:=f) (g:=g) (l:=r) (fun b hb=>h b (List.mem_cons_of_mem _ hb));rw[List.flatMap_cons,List.length_append];simp only[prK,ByteArray.size_append];omega
section
variable {xs:List IN}
theorem rt_kind(rt:RT xs){i:Int}(hi:inT xs i):kindP (rd_T41 xs i):=by
 rw[rdN hi.1 hi.2];exact(rt.node i.toNat (by have:=hi.1;have:=hi.2;omega)).1
theorem rt_own(rt:RT xs)(hs:smallT xs){i:Int}(hi:inT xs i):OwnT (rd_T41 xs i):=by
 have h:=smallN_at hs hi.1 hi.2;refine⟨h.1,h.2.2.2.1,h.2.2.1,fun e=> ?_⟩;rcases rt_kind rt hi with g|g|g|g|g
 ·have:=g.1;omega
 ·have:=g.1;omega
 ·exact g.2.2.2.1
 ·have:=g.1;omega
 ·have:=g.1;omega
theorem prN_size(rt:RT xs)(hs:smallT xs): ∀(m:Nat) (i:Int),inT xs i→(prN xs m i).size≤(pre xs m i).length*90000000000:=by
 intro m;induction m with
 |zero=>intro i _;exact Nat.zero_le _
 |succ m ih=>
  intro i hi;have h1:=node_size (rt_own rt hs hi) (oneOf (rd_T41 xs (pa xs i)).f1 words_IsRaw) (prK (prN xs m) (kd xs i));have h2:=prK_size (f:=prN xs m) (g:=pre xs m) (l:=kd xs i) (fun k hk=>ih k (rt.inKid hi hk));unfold pre prN;rw[List.length_cons];omega
theorem raw_eq(rt:RT xs)(hs:smallT xs){i k:Int}(hi:inT xs i)(hk:k∈kd xs i):impl_print.raw xs (rd_T41 xs k).f4=some (oneOf (rd_T41 xs i).f1 words_IsRaw):=by
 have e:(rd_T41 xs k).f4=i:=(rt.kid i hi k hk).2.2;have h1:=(smallN_at hs hi.1 hi.2).1;have hl:0<(kd xs i).length:=List.length_pos_of_mem hk;unfold impl_print.raw;rw[e,if_pos hi.1,if_pos hi.2];rcases rt_kind rt hi with g|g|g|g|g
 ·rw[if_neg (by have:=g.1;omega)];simp [oneOf,g.2.1]
 ·have:(kd xs i).length=0:=g.2.2.2.2.2;omega
 ·rw[if_pos g.1,if_pos h1]
 ·have:(kd xs i).length=0:=g.2.2.2.2.2;omega
 ·have:(kd xs i).length=0:=g.2.2.2.2;omega
theorem impl_lk{p:Nat→ByteArray→Int→Option ByteArray}{f:Int→ByteArray}{g:Int→List Int}{ks:List Int}(hl:ks.length≤1048576)(hf: ∀k∈ks,(f k).size≤(g k).length*90000000000)
 (hp: ∀k∈ks,∀acc:ByteArray,acc.size+(g k).length*90000000000≤140737488355328→Ev (fun q=>p q acc k) (acc++f k)): ∀(d j:Nat) (acc:ByteArray),j+d=ks.length→acc.size+((ks.drop j).flatMap g).length*90000000000≤140737488355328→
 ∃K,∀q,K≤q→ ∀k,K≤k→impl_print.lk (p q) k acc ks (j:Int)=some (acc++prK f (ks.drop j)):=by
 intro d;induction d with
 |zero=>
  intro j acc h ha;refine⟨1,fun q _ k hk=> ?_⟩;obtain⟨k,rfl⟩: ∃z,k=z+1:=⟨k- 1,by omega⟩
  rw[List.drop_of_length_le (by omega)];simp only[impl_print.lk,prK];rw[if_neg (by omega),bz]
 |succ d ih=>
  intro j acc h ha;have hj:j<ks.length:=by omega
  have hm:=List.getElem_mem hj;rw[List.drop_eq_getElem_cons hj,List.flatMap_cons,List.length_append]at ha;have hz:=hf _ hm;obtain⟨z,hz3⟩: ∃z,z=((ks.drop (j+1)).flatMap g).length:=⟨_,rfl⟩
  rw[←hz3]at ha;obtain⟨y,hy⟩: ∃y,y=(g ks[j]).length:=⟨_,rfl⟩
  rw[←hy]at ha hz;have ha1:acc.size+y*90000000000≤140737488355328:=by
   have:=Nat.add_mul y z 90000000000;rw[this]at ha;exact Nat.le_trans (Nat.add_le_add_left (Nat.le_add_right _ _) _) ha
  rw[hy]at ha1;obtain⟨K1,h1⟩:=hp _ hm acc ha1;obtain⟨K2,h2⟩:=ih (j+1) (acc++f ks[j]) (by omega) (by rw[ByteArray.size_append,←hz3];omega);refine⟨K1+K2+1,fun q hq k hk=> ?_⟩;obtain⟨k,rfl⟩: ∃z,k=z+1:=⟨k- 1,by omega⟩
  have e1:p q acc ks[j]=some (acc++f ks[j]):=h1 q (by omega);have e2:=h2 q (by omega) k (by omega);rw[List.drop_eq_getElem_cons hj];simp only[impl_print.lk,prK];rw[if_pos (by omega),if_pos (by omega),rd_at hj,e1,Option.bind_some,w64 (x:=(j:Int)+1) (by omega) (by omega),show(j:Int)+1=((j+1:Nat):Int)by omega,e2,ByteArray.append_assoc]
theorem kids_len(hs:smallT xs){i:Int}(hi:inT xs i):(kd xs i).length≤1048576:=(smallN_at hs hi.1 hi.2).2.2.2.2.2.1
theorem impl_prK(rt:RT xs)(hs:smallT xs){m:Nat}{i:Int}(hi:inT xs i)
 (ih: ∀k∈kd xs i,∀acc:ByteArray,acc.size+(pre xs m k).length*90000000000≤140737488355328→Ev (fun q=>impl_Tree_print.f q xs acc k) (acc++prN xs m k))(acc:ByteArray)(ha:acc.size+((kd xs i).flatMap (pre xs m)).length*90000000000≤140737488355328):
 Ev (fun q=>impl_Tree_printKids.f q xs acc i) (acc++prK (prN xs m) (kd xs i)):=by
 obtain⟨K,hK⟩:=impl_lk (p:=fun q b j=>impl_Tree_print.f q xs b j) (f:=prN xs m) (g:=pre xs m) (kids_len hs hi) (fun k hk=>prN_size rt hs m k (rt.inKid hi hk)) ih (kd xs i).length 0 acc (by omega) (by rw[List.drop_zero];exact ha);refine⟨K,fun q hq=> ?_⟩;have:=hK q hq q hq;rw[List.drop_zero]at this;exact(if_pos hi.1).trans ((if_pos hi.2).trans this)
theorem impl_pr(rt:RT xs)(hs:smallT xs): ∀(m:Nat) (i:Int) (d:Nat),inT xs i→deep xs i d→xs.length+1≤d+m→(∃j,inT xs j∧i∈kd xs j)→ ∀acc:ByteArray,acc.size+(pre xs m i).length*90000000000≤140737488355328→
 Ev (fun q=>impl_Tree_print.f q xs acc i) (acc++prN xs m i):=by
 intro m;induction m with
 |zero=>intro i d hi hd h;have:=deep_le rt hi hd;omega
 |succ m ih=>
  intro i d hi hd h hp acc ha;obtain⟨j,hj,hij⟩:=hp;unfold pre at ha;rw[List.length_cons]at ha;have hsz:=prK_size (f:=prN xs m) (g:=pre xs m) (l:=kd xs i) (fun k hk=>prN_size rt hs m k (rt.inKid hi hk));have hpar:pa xs i=j:=(rt.kid j hj i hij).2.2;obtain⟨K1,h1⟩:=impl_node (xs:=xs) (rt_own rt hs hi) (fun _=>raw_eq rt hs hj hij) (prK (prN xs m) (kd xs i)) acc (by omega);have hkid: ∃K,∀q,K≤q→(rd_T41 xs i).f0=3→impl_Tree_printKids.f q xs (acc++((⟨#[60]⟩:ByteArray)++(rd_T41 xs i).f1)++atsT (rd_T41 xs i).f2++(⟨#[62]⟩:ByteArray)) i=some (acc++((⟨#[60]⟩:ByteArray)++(rd_T41 xs i).f1)++atsT (rd_T41 xs i).f2++(⟨#[62]⟩:ByteArray)++prK (prN xs m) (kd xs i)):=by
   by_cases c3:(rd_T41 xs i).f0=3
   ·have ho:=rt_own rt hs hi;have hz:=ats_size ho.a;have hz2:(rd_T41 xs i).f2.length*4296015876≤20*4296015876:=Nat.mul_le_mul_right _ (ho.l c3);have h1:=ho.n;have z2:(⟨#[62]⟩:ByteArray).size=1:=rfl;have z5:(⟨#[60]⟩:ByteArray).size=1:=rfl;obtain⟨K,hK⟩:=impl_prK rt hs (m:=m) hi (fun k hk acc ha=>ih k (d+1) (rt.inKid hi hk) (deep_kid rt hi hk hd) (by omega) ⟨i,hi,hk⟩ acc ha) (acc++((⟨#[60]⟩:ByteArray)++(rd_T41 xs i).f1)++atsT (rd_T41 xs i).f2++(⟨#[62]⟩:ByteArray)) (by simp only[ByteArray.size_append];omega);exact⟨K,fun q hq _=>hK q hq⟩
   ·exact⟨0,fun _ _ e=>absurd e c3⟩
  obtain⟨K2,h2⟩:=hkid;refine⟨K1+K2+1,fun q hq=> ?_⟩;obtain⟨q,rfl⟩: ∃z,q=z+1:=⟨q- 1,by omega⟩
  simp only[impl_Tree_print.f];rw[if_pos hi.1,if_pos hi.2];unfold prN;rw[hpar];exact h1 (fun a=>impl_Tree_printKids.f q xs a i) (h2 q (by omega)) q (by omega)
theorem spec_lk{p:Nat→Int→Option ByteArray}{T:Int→ByteArray}{g:Int→List Int}{ks:List Int}(rt:RT xs)(hs:smallT xs){i:Int}(hi:inT xs i)(hks:ks=kd xs i)
 (hf: ∀k∈ks,(T k).size≤(g k).length*90000000000)(hp: ∀k∈ks,Ev (fun q=>p q k) (T k)): ∀(d j:Nat) (o:ByteArray),j+d=ks.length→o.size+((ks.drop j).flatMap (fun k=>k::g k)).length*90000000000≤140737488355328→
 ∃K,∀q,K≤q→ ∀k,K≤k→spec_l8Print.lk (p q) xs (rd_T41 xs i).f1 k o ks (j:Int)=some (o++prK (fun k=>nodeT (oneOf (rd_T41 xs (pa xs k)).f1 words_IsRaw) (T k) (rd_T41 xs k)) (ks.drop j)):=by
 have hl:ks.length≤1048576:=by rw[hks];exact kids_len hs hi
 intro d;induction d with
 |zero=>
  intro j o h ha;refine⟨1,fun q _ k hk=> ?_⟩;obtain⟨k,rfl⟩: ∃z,k=z+1:=⟨k- 1,by omega⟩
  rw[List.drop_of_length_le (by omega)];simp only[spec_l8Print.lk,prK];rw[if_neg (by omega),bz]
 |succ d ih=>
  intro j o h ha;have hj:j<ks.length:=by omega
  have hm:=List.getElem_mem hj;rw[List.drop_eq_getElem_cons hj,List.flatMap_cons,List.length_append,List.length_cons]at ha;have hz:=hf _ hm;have hm2:ks[j]∈kd xs i:=by rw[←hks];exact hm
  have hin:=rt.inKid hi hm2;have hpar:pa xs ks[j]=i:=(rt.kid i hi _ hm2).2.2;have hown:=rt_own rt hs hin;have hnz:=node_size hown (oneOf (rd_T41 xs i).f1 words_IsRaw) (T ks[j]);obtain⟨K1,h1⟩:=hp _ hm;obtain⟨K3,h3⟩:=spec_node hown (rd_T41 xs i).f1 (T ks[j]) o (by omega);obtain⟨K2,h2⟩:=ih (j+1) (o++nodeT (oneOf (rd_T41 xs i).f1 words_IsRaw) (T ks[j]) (rd_T41 xs ks[j])) (by omega) (by rw[ByteArray.size_append];omega);refine⟨K1+K2+K3+1,fun q hq k hk=> ?_⟩;obtain⟨k,rfl⟩: ∃z,k=z+1:=⟨k- 1,by omega⟩
  have e1:p q ks[j]=some (T ks[j]):=h1 q (by omega);have e2:=h2 q (by omega) k (by omega);rw[List.drop_eq_getElem_cons hj];simp only[spec_l8Print.lk,prK];rw[if_pos (by omega),if_pos (by omega),rd_at hj,if_pos hin.1,if_pos hin.2,h3 _ (fun _=>e1) k (by omega),Option.bind_some,w64 (x:=(j:Int)+1) (by omega) (by omega),show(j:Int)+1=((j+1:Nat):Int)by omega,e2,ByteArray.append_assoc,hpar]
theorem spec_pr(rt:RT xs)(hs:smallT xs): ∀(m:Nat) (i:Int) (d:Nat),inT xs i→deep xs i d→xs.length+1≤d+m→Ev (fun q=>spec_l8Print.f q xs i) (prK (prN xs m) (kd xs i)):=by
 have hmost:=rt.most;intro m;induction m with
 |zero=>intro i d hi hd h;have:=deep_le rt hi hd;omega
 |succ m ih=>
  intro i d hi hd h;have hlen:=pre_len_le' rt (m+2) hi;unfold pre at hlen;rw[List.length_cons]at hlen;have hlk:=spec_lk (p:=fun q j=>spec_l8Print.f q xs j) (T:=fun k=>prK (prN xs m) (kd xs k)) (g:=fun k=>(kd xs k).flatMap (pre xs m)) (ks:=kd xs i) rt hs hi rfl
   (fun k hk=>prK_size (fun z hz=>prN_size rt hs m z (rt.inKid (rt.inKid hi hk) hz)))
   (fun k hk=>ih k (d+1) (rt.inKid hi hk) (deep_kid rt hi hk hd) (by omega)) (kd xs i).length 0 ⟨#[]⟩ (by omega) (by
    rw[List.drop_zero,size0];have e:(fun k=>k::(kd xs k).flatMap (pre xs m))=pre xs (m+1):=by funext k;rfl
    rw[e];omega)
  obtain⟨K,hK⟩:=hlk;refine⟨K+1,fun q hq=> ?_⟩;obtain⟨q,rfl⟩: ∃z,q=z+1:=⟨q- 1,by omega⟩
  simp only[spec_l8Print.f];rw[if_pos hi.1,if_pos hi.2];have:=hK q (by omega) q (by omega);rw[List.drop_zero,zb]at this;exact this
theorem PrintOf_p(hs:smallT xs)(hr:rightP xs)(m:Nat)(hm:xs.length+1≤m):Ev (fun k=>spec_PrintOf.f k xs) (prK (prN xs m) (kd xs 0))∧Ev (fun k=>impl_PrintOf.f k xs) (prK (prN xs m) (kd xs 0)):=by
 obtain⟨u,hu,hu2⟩:=spec_TreeOk_p hs;obtain⟨v,hv,hv2⟩:=impl_TreeOk_p hs;obtain rfl:=hu2.2 hr;obtain rfl:=hv2.2 hr;unfold spec_PrintOf.f impl_PrintOf.f;have rt:=RT.of hr;have hmost:=rt.most;have h0:inT xs 0:=⟨by omega,by have:=rt.one;omega⟩
 have hlen:=pre_len_le' rt (m+1) h0;unfold pre at hlen;rw[List.length_cons]at hlen;have h1:=spec_pr rt hs m 0 0 h0 (deep_zero h0) (by omega);have h2:=impl_prK rt hs (m:=m) h0 (fun k hk acc ha=>impl_pr rt hs m k 1 (rt.inKid h0 hk) (deep_kid rt h0 hk (deep_zero h0)) (by omega) ⟨0,h0,hk⟩ acc ha) ⟨#[]⟩ (by rw[size0];omega);rw[zb]at h2;exact⟨Ev.bind hu (ev_pos rfl h1),Ev.bind hv (ev_pos rfl h2)⟩
theorem PrintOf_both(hs:smallT xs): ∃r,Ev (fun k=>spec_PrintOf.f k xs) r∧Ev (fun k=>impl_PrintOf.f k xs) r:=by
 obtain⟨u,hu,hu2⟩:=spec_TreeOk_p hs;obtain⟨v,hv,hv2⟩:=impl_TreeOk_p hs;have e:=bool_iff hu2 hv2;subst e;cases u with
 |false=>
  unfold spec_PrintOf.f impl_PrintOf.f;exact⟨⟨#[]⟩,Ev.bind hu (ev_neg (by decide) (Ev.now _)),Ev.bind hv (ev_neg (by decide) (Ev.now _))⟩
 |true=>exact⟨_,PrintOf_p hs (hu2.1 rfl) (xs.length+1) (Nat.le_refl _)⟩
end
section
variable {xs:List IN}
def posT(xs:List IN)(i:Int):Int:=((preT xs 0).idxOf i:Int)
def tndP(xs:List IN)(par:Int)(i:Int)(ks:List Int):IN:=⟨(rd_T41 xs i).f0,(rd_T41 xs i).f1,(rd_T41 xs i).f2,(rd_T41 xs i).f3,par,ks⟩
def tnd(xs:List IN)(i:Int):IN:=tndP xs (posT xs (pa xs i)) i ((kd xs i).map (posT xs))
def tidyT(xs:List IN):List IN:=tndP xs (-1) 0 ((kd xs 0).map (posT xs))::((preT xs 0).tail).map (tnd xs)
theorem RT.zero(rt:RT xs):inT xs 0:=⟨by omega,by have:=rt.one;omega⟩
theorem posT_at(rt:RT xs){L R:List Int}{k:Int}(h:preT xs 0=L++k::R):posT xs k=(L.length:Int):=by
 have hn:=preT_nodup rt rt.zero;rw[h]at hn;have hk:k ∉ L:=fun hk=>(List.nodup_append.1 hn).2.2 k hk k List.mem_cons_self rfl
 unfold posT;rw[h,List.idxOf_append,if_neg hk,List.idxOf_cons_self];omega
theorem pre_succ(m:Nat)(i:Int):pre xs (m+1) i=i::(kd xs i).flatMap (pre xs m):=rfl
theorem rd_mid(o0:List IN)(x:IN)(r:List IN):rd_T41 (o0++x::r) (o0.length:Int)=x:=by
 unfold rd_T41;rw[Int.toNat_natCast,List.getD_eq_getElem?_getD,List.getElem?_append_right (Nat.le_refl _)];simp
theorem set_mid(o0:List IN)(x y:IN)(r:List IN):(o0++x::r).set (o0.length:Int).toNat y=o0++y::r:=by
 rw[Int.toNat_natCast,List.set_append_right _ _ (Nat.le_refl _)];simp
theorem pre_all(rt:RT xs)(m:Nat){i:Int}(hi:inT xs i):(pre xs m i).length≤500:=by
 have h:=nodup_len _ _ (pre_nodup rt m i hi) (fun x hx=>(pre_in rt m i hi x hx).1);have:=rt.most;omega
end
end Go.Proofs.YtlnmmcipioagaaaGreatDoor.Y
