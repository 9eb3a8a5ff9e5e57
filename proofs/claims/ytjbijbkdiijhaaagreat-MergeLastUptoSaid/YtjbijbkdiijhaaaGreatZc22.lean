import Derived.Test.YtjbijbkdiijhaaaGreatZc21
import Derived.Test.YtjbijbkdiijhaaaGreatZc20
import Derived.Test.YtjbijbkdiijhaaaGreatZc00
namespace Go.Proofs.YtjbijbkdiijhaaaGreat
set_option linter.all false
open Go Go.Eng
theorem Eo(d:ByteArray)(l:List Prb)(b:Bool)(n e:Int)(h:l.length<549755813887):Ok (fun y=>l.length≤y.length∧y.length≤l.length+1∧(b=true→l.length+1≤y.length)) (BD d l b n e):=by
 dsimp only[BD,cN,eg,dk,gn,vz,vw,wg,lr,lc,ap,BY,fl]
 (repeat' (first|with_reducible (first|refine AP (fun _=>?_) fun _=>?_|refine AL ?_|refine AW ?_ ?_)))<;>first|exact A3|simp_all
theorem J5(d:ByteArray)(l:List Prb)(x:List Nt)(t n:Int)(h:l.length<549755813887)(hx:Iv x):Ok (fun y=>l.length≤y.length∧y.length≤l.length+1) (H3 d l x t n):=by
 dsimp only[H3,dv,gp,cC,cU,vz,lr,lc,cl,fl]
 (repeat' (first|with_reducible (first|refine AP (fun _=>?_) fun _=>?_|refine AL ?_)|(with_reducible apply AN;(exact ZVy _ _ hx);intro _ _)|(with_reducible apply AN;(exact Eo _ _ _ _ _ h);intro _ _)|with_reducible refine AW ?_ ?_))<;>exact A3
theorem o96(d:ByteArray)(l:List Prb)(x:List Spn)(t n:Int)(h:l.length<500000000000)(hx:x.length≤1048576):Ok (fun y=>l.length≤y.length∧y.length≤l.length+2*x.length) (Pk d l x t n):=by
 have q:Ok (Sum.elim (fun y:List Prb=>l.length≤y.length∧y.length≤l.length+2*x.length) No) (Al (XH d x t n) Am (0,l)):=by
  refine BC (fun v:Nat×List Prb=>v.1≤x.length∧l.length≤v.2.length∧v.2.length≤l.length+2*v.1) (fun v:Nat×List Prb=>x.length-v.1) ⟨by omega,by simp,by simp⟩ (B1 (by omega)) fun v e=>?_
  obtain⟨i,r⟩:=v
  obtain⟨a,b,c⟩:=e
  dsimp only at a b c
  dsimp only[XH,cj,b8,ek,bv,db,fg,br,ix,A0,vz,vs,vg,ln,Ai,lc,wa,wi,fl,An,br]
  (repeat' (first|with_reducible (first|refine AP (fun _=>?_) fun _=>?_|refine AL ?_|refine B0 ?_ fun _ _ _=>?_)|(with_reducible apply AN;(exact Eo _ _ _ _ _ (by omega));intro _ _)|with_reducible (first|refine Gw ?_ fun _=>?_|refine AW ?_ ?_)))<;>exact A3
 dsimp only[Pk,eT,cu,vz,lr,lc,fl]
 (repeat' (first|with_reducible (first|refine AP (fun _=>?_) fun _=>?_|refine AL ?_)|(with_reducible apply BQ;(exact q);all_goals(intro _ _;try dsimp only))|with_reducible refine AW ?_ ?_))<;>exact A3
theorem qa(s:Scm)(w:Int)(h:SzS s):Ok (fun y=>y.length≤3145728) (jz s w):=by
 have a:=h.ml
 have b:=h.el
 have j:=h.wl
 have e:Ok (Sum.elim (fun y:List ByteArray=>y.length≤1048576) No) (Al (X9 s w) Am ([],0)):=by
  refine BC (fun v:List ByteArray×Nat=>v.2≤s.messages.length∧v.1.length≤v.2) (fun v:List ByteArray×Nat=>s.messages.length-v.2) ⟨by omega,by simp⟩ (B1 (by omega)) fun v c=>?_
  obtain⟨r,i⟩:=v
  obtain⟨a,b⟩:=c
  dsimp only at a b
  dsimp only[X9,aD,br,ix,vz,vy,vw,wg,vs,v2,ln,Ai,ap,wa,fl,An,br]
  (repeat' (first|with_reducible (first|refine AP (fun _=>?_) fun _=>?_|refine AL ?_|refine B0 ?_ fun _ _ _=>?_|refine AW ?_ ?_)))<;>exact A3
 have f:∀r:List ByteArray,r.length≤1048576→Ok (Sum.elim (fun y:List ByteArray=>y.length≤2097152) No) (Al (Xn s w) Am (r,0)):=by
  intro r d
  refine BC (fun v:List ByteArray×Nat=>v.2≤s.enums.length∧v.1.length≤1048576+v.2) (fun v:List ByteArray×Nat=>s.enums.length-v.2) ⟨by omega,by simpa using d⟩ (B1 (by omega)) fun v c=>?_
  obtain⟨r,i⟩:=v
  obtain⟨a,b⟩:=c
  dsimp only at a b
  dsimp only[Xn,bm,br,ix,vz,vy,vw,wg,vs,ln,Ai,ap,wa,fl,An,br]
  (repeat' (first|with_reducible (first|refine AP (fun _=>?_) fun _=>?_|refine AL ?_|refine B0 ?_ fun _ _ _=>?_|refine AW ?_ ?_)))<;>exact A3
 have g:∀r:List ByteArray,r.length≤2097152→Ok (Sum.elim (fun y:List ByteArray=>y.length≤3145728) No) (Al (XX s w) Am (r,0)):=by
  intro r d
  refine BC (fun v:List ByteArray×Nat=>v.2≤s.services.length∧v.1.length≤2097152+v.2) (fun v:List ByteArray×Nat=>s.services.length-v.2) ⟨by omega,by simpa using d⟩ (B1 (by omega)) fun v c=>?_
  obtain⟨r,i⟩:=v
  obtain⟨a,b⟩:=c
  dsimp only at a b
  dsimp only[XX,bZ,br,ix,vz,vy,vw,wg,vs,ln,Ai,ap,wa,fl,An,br]
  (repeat' (first|with_reducible (first|refine AP (fun _=>?_) fun _=>?_|refine AL ?_|refine B0 ?_ fun _ _ _=>?_|refine AW ?_ ?_)))<;>exact A3
 dsimp only[jz,b6,ez,fL,bw,cO,dx,vz,vw,lr,lc,fl,fr]
 (repeat' (first|with_reducible (first|refine AP (fun _=>?_) fun _=>?_|refine AL ?_)|(with_reducible apply BQ;(exact e);all_goals(intro _ _;try dsimp only))|(with_reducible apply BQ;(exact f _ (by assumption));all_goals(intro _ _;try dsimp only))|(with_reducible apply BQ;(exact g _ (by assumption));all_goals(intro _ _;try dsimp only))|with_reducible refine AW ?_ ?_))<;>exact A3
theorem o63(l:List ByteArray)(h:l.length≤3145728):Ok Tr (iY l):=by
 have q:Ok Ts (Al (Xx l) Am 1):=by
  refine BC (fun v:Nat=>1≤v∧v≤l.length+1) (fun v:Nat=>l.length+1-v) ⟨by omega,by omega⟩ (by unfold Am;omega) fun v a=>?_
  dsimp only[Xx,fw,br,ix,Cq,vz,vs,Ay,ln,Ai,wa,wi,An,br]
  (repeat' (first|with_reducible (first|refine AP (fun _=>?_) fun _=>?_|refine AL ?_|refine B0 ?_ fun _ _ _=>?_|refine AW ?_ ?_)))<;>exact A3
 dsimp only[iY,ci,bN,bj,lr,lc]
 (repeat' (first|with_reducible (first|refine AP (fun _=>?_) fun _=>?_|refine AL ?_)|(with_reducible apply BQ;(exact q);all_goals(intro _ _;try dsimp only))|with_reducible refine AW ?_ ?_))<;>exact A3
theorem ZUt(l:List ByteArray)(x:ByteArray)(h:l.length≤3145728):Ok Tr (Pv l x):=by
 have q:Ok Ts (Al (Nq l x) Am 0):=by
  refine BC (fun v:Nat=>v≤l.length) (fun v:Nat=>l.length-v) (by omega) (by unfold Am;omega) fun v a=>?_
  dsimp only[Nq,Xw,br,ix,vz,vs,Ay,ln,Ai,wa,An,br]
  (repeat' (first|with_reducible (first|refine AP (fun _=>?_) fun _=>?_|refine AL ?_|refine B0 ?_ fun _ _ _=>?_|refine AW ?_ ?_)))<;>exact A3
 dsimp only[Pv,Tw,Zf,Xg,lr,lc]
 (repeat' (first|with_reducible (first|refine AP (fun _=>?_) fun _=>?_|refine AL ?_)|(with_reducible apply BQ;(exact q);all_goals(intro _ _;try dsimp only))|with_reducible refine AW ?_ ?_))<;>exact A3
theorem o64(l k:List ByteArray)(h:l.length≤3145728)(a:k.length≤3145728):Ok Tr (jk l k):=by
 have q:Ok Ts (Al (XC l k) Am 0):=by
  refine BC (fun v:Nat=>v≤l.length) (fun v:Nat=>l.length-v) (by omega) (by unfold Am;omega) fun v b=>?_
  dsimp only[XC,aK,br,ix,vz,vs,Ay,ln,Ai,cl,wa,An,br]
  (repeat' (first|with_reducible (first|refine AP (fun _=>?_) fun _=>?_|refine AL ?_|refine B0 ?_ fun _ _ _=>?_)|(with_reducible apply AN;(exact ZUt _ _ a);intro _ _)|with_reducible refine AW ?_ ?_))<;>exact A3
 dsimp only[jk,fa,cK,eG,lr,lc]
 (repeat' (first|with_reducible (first|refine AP (fun _=>?_) fun _=>?_|refine AL ?_)|(with_reducible apply BQ;(exact q);all_goals(intro _ _;try dsimp only))|with_reducible refine AW ?_ ?_))<;>exact A3
def LZ(s:Scm)(f:Fld):Prop:=(f.type.kind=9→∃m∈s.enums,m.name=f.type.name)∧(f.type.kind=10→(∃m∈s.messages,m.name=f.type.name)∧f.card≠3)∧1≤f.type.kind∧f.type.kind≤10
theorem o92(s:Scm)(f:Fld)(h:SzS s):Ok (fun b=>b=true→LZ s f) (jr s f):=by
 unfold LZ
 dsimp only[jr,eQ,br,wg,lr,cl,br]
 (repeat' (first|with_reducible (first|refine AP (fun _=>?_) fun _=>?_|refine AL ?_)|(with_reducible apply AN;(exact g9 _ _ h);intro _ _)|(with_reducible apply AN;(exact R6 _ _ h);intro _ _)|with_reducible refine AW ?_ ?_))
 ·intro a
  have d:f.type.kind=9:=Y3 (by assumption)
  have e:=(show _<_∧(_→∃m∈s.enums,m.name=f.type.name)by assumption).2 (Y3 a)
  exact⟨fun _=>e,fun k=>by omega,by omega,by omega⟩
 ·intro a
  have c:f.type.kind=10:=Y3 (by assumption)
  rw[Yc]at a
  have e:=(show _<_∧(_→∃m∈s.messages,m.name=f.type.name)by assumption).2 (Y3 a.1)
  exact⟨fun k=>by omega,fun _=>⟨e,by simpa using a.2⟩,by omega,by omega⟩
 ·intro a
  simp only[Yc,YB]at a
  exact⟨fun k=>by omega,fun k=>by omega,by omega,by omega⟩
def Oi(f:Fld):Prop:=f.union≠⟨#[]⟩→f.card=2
theorem o93(m:Msg)(i:Nat)(h:SzM m)(hi:i<m.fields.length):Ok (fun b=>b=true→∀f,m.fields[i]?=some f→Oi f) (jy m i):=by
 have hl:=h.fl
 have q:∀e,Ok (Sum.elim (fun b:Bool=>b=true→0<i) Tr) (Al (Xv m i e) Am (false,0)):=by
  intro e
  refine BC (fun v:Bool×Nat=>v.2≤m.fields.length∧(v.1=true→0<i)) (fun v:Bool×Nat=>m.fields.length-v.2) ⟨by omega,by simp⟩ (B1 (by omega)) fun v k=>?_
  obtain⟨b,j⟩:=v
  obtain⟨c,d⟩:=k
  dsimp only at c d
  dsimp only[Xv,fb,br,ix,A0,vz,wg,vs,Ay,ln,Ai,wa,An,br]
  (repeat' (first|with_reducible (first|refine AP (fun _=>?_) fun _=>?_|refine AL ?_|refine B0 ?_ fun _ _ _=>?_|refine Gw ?_ fun _=>?_|refine AW ?_ ?_)))<;>exact A3
 dsimp only[jy,cH,cQ,fN,br,Cq,A0,wg,vg,lr,lc,AO,wi,br]
 (repeat' (first|with_reducible (first|refine AP (fun _=>?_) fun _=>?_|refine AL ?_|refine B0 ?_ fun _ _ _=>?_)|(with_reducible apply BQ;(exact q _);all_goals(intro _ _;try dsimp only))|(with_reducible apply AN;(exact LQ _ ((h.f _ (by assumption)).u));intro _ _)|(with_reducible apply BA;(exact fun _=>LQ _ ((h.f _ (by assumption)).u));intro _)|with_reducible (first|refine Gw ?_ fun _=>?_|refine AW ?_ ?_)))<;>first|(intro h;cases h;done)|(have he:=‹m.fields[i]?=some _›;intro _ f a;rw[he]at a;cases a;intro g;first|exact absurd (Y3 (by assumption)) g|(simp only[YH,YJ,Kh,Z9,YB,YL]at*;omega)|grind)|exact A3
def IV(f:Fld):Prop:=f.hasDefault=true→Og f.type.kind f.dflt∧f.card=2∧f.union=⟨#[]⟩
theorem o94(s:Scm)(f:Fld)(h:SzS s)(a:SzF f):Ok (fun b=>b=true→IV f) (jG s f):=by
 have g:SzV (.mk 0 0 ⟨#[]⟩ [] [] [] []):=by constructor<;>decide
 have he:∀y,y∈s.enums→y.items.length≤1048576:=fun y hy=>(h.e y hy).il
 have q:∀y:Int,0≤y→y<s.enums.length→Ok Ts (Al (Te s f y) Am 0):=by
  intro y hy k
  refine BC (fun v:Nat=>v≤1048576) (fun v:Nat=>1048576-v) (by omega) (B1 (by omega)) fun v l=>?_
  dsimp only[Te,fI,br,ix,Cq,vz,wg,vs,Ay,ln,Ai,wa,An,br]
  (repeat' (first|with_reducible (first|refine AP (fun _=>?_) fun _=>?_|refine AL ?_|refine B0 ?_ fun _ _ _=>?_|refine AW ?_ ?_)))<;>exact A3
 have key:∀(c d:Bool),((!((!decide (f.card=2))||(!decide (f.union=⟨#[]⟩))))=true→c=true→Og f.type.kind f.dflt)→((((!decide (f.card=2))||(!decide (f.union=⟨#[]⟩)))||!c)||!d)=false→IV f:=fun c d i j _=>by
  cases c<;>cases d<;>simp_all
 have e:(!f.hasDefault)=true→IV f:=fun i j=>by simp_all
 dsimp only[jG,aV,dU,bL,br,wg,lr,lc,cl,AO,br]
 (repeat' (first|with_reducible (first|refine AP (fun _=>?_) fun _=>?_|refine AL ?_)|(with_reducible apply BQ;(exact q _ Ci Ci);all_goals(intro _ _;try dsimp only))|(with_reducible apply AN;(exact UK _ _ a.d g);intro _ _)|(with_reducible apply AN;(exact TU _ _ a.d);intro _ _)|(with_reducible apply AN;(exact yB _ a.d);intro _ _)|(with_reducible apply AN;(exact UK _ _ a.d (by solve_by_elim));intro _ _)|(with_reducible apply AN;(exact g9 _ _ h);intro _ _)|(with_reducible apply BA;(exact fun _=>UK _ _ a.d g);intro _)|(with_reducible apply BA;(exact fun _=>TU _ _ a.d);intro _)|(with_reducible apply BA;(exact fun _=>yB _ a.d);intro _)|(with_reducible apply BA;(exact fun _=>UK _ _ a.d (by solve_by_elim));intro _)|(with_reducible apply BA;(exact fun _=>g9 _ _ h);intro _)|with_reducible refine AW ?_ ?_))<;>first|(intro _;exact key _ _ (by assumption) (by assumption))|(intro _;exact e (by assumption))|exact A3
theorem o87(s:Scm)(m:Msg)(l:List Bool)(h:SzS s)(hm:SzM m)(hl:l.length=s.messages.length):Ok Tr (jC s m l):=by
 have a:=hm.fl
 have q:Ok Ts (Al (Xs s m l) Am 0):=by
  refine BC (fun v:Nat=>v≤m.fields.length) (fun v:Nat=>m.fields.length-v) (by omega) (B1 (by omega)) fun v b=>?_
  dsimp only[Xs,fP,br,ix,A0,vz,wg,vs,Ay,ln,Ai,cl,wa,An,br]
  (repeat' (first|with_reducible (first|refine AP (fun _=>?_) fun _=>?_|refine AL ?_|refine B0 ?_ fun _ _ _=>?_)|(with_reducible apply AN;(exact R6 _ _ h);intro _ _)|with_reducible (first|refine Gw ?_ fun _=>?_|refine AW ?_ ?_)))<;>exact A3
 dsimp only[jC,a2,dI,b7,lr,lc]
 (repeat' (first|with_reducible (first|refine AP (fun _=>?_) fun _=>?_|refine AL ?_)|(with_reducible apply BQ;(exact q);all_goals(intro _ _;try dsimp only))|with_reducible refine AW ?_ ?_))<;>exact A3
theorem tH(s:Scm)(m:Msg)(l:List Bool)(h:SzS s)(hm:SzM m)(hl:l.length=s.messages.length):Ok Tr (UT s m l):=by
 have a:=hm.fl
 have q:Ok Ts (Al (VP s m l) Am 0):=by
  refine BC (fun v:Nat=>v≤m.fields.length) (fun v:Nat=>m.fields.length-v) (by omega) (B1 (by omega)) fun v b=>?_
  dsimp only[VP,lB,br,ix,vz,wg,vs,vg,Ay,ln,Ai,cl,wa,AH,Fl,fl,An,br,AH]
  (repeat' (first|with_reducible (first|refine AP (fun _=>?_) fun _=>?_|refine AL ?_|refine B0 ?_ fun _ _ _=>?_)|(with_reducible apply AN;(exact R6 _ _ h);intro _ _)|with_reducible refine AW ?_ ?_))<;>exact A3
 dsimp only[UT,lS,lN,ld,vz,lr,lc,fl]
 (repeat' (first|with_reducible (first|refine AP (fun _=>?_) fun _=>?_|refine AL ?_)|(with_reducible apply BQ;(exact q);all_goals(intro _ _;try dsimp only))|with_reducible refine AW ?_ ?_))<;>exact A3
theorem o65(s:Scm)(h:SzS s):Ok (fun y=>y.length=s.messages.length) (iS s):=by
 have g:=h.ml
 have q:∀(v:Nat) (r:List Bool),r.length=s.messages.length→Ok (Sum.elim (fun y:Bool×List Bool=>y.2.length=s.messages.length) No) (Al (S7 s v) Am (false,0,r)):=by
  intro w r e
  refine BC (fun v:Bool×Nat×List Bool=>v.2.1≤s.messages.length∧v.2.2.length=s.messages.length) (fun v:Bool×Nat×List Bool=>s.messages.length-v.2.1) ⟨by simp,e⟩ (B1 (by simp;omega)) fun v d=>?_
  obtain⟨b,i,r⟩:=v
  obtain⟨c,a⟩:=d
  dsimp only at c a
  dsimp only[S7,gu,br,A0,vz,vw,wg,vs,v2,ln,Ai,J0,wa,ir,ca,st,rn,fl,An,br]
  (repeat' (first|with_reducible (first|refine AP (fun _=>?_) fun _=>?_|refine AL ?_|refine B0 ?_ fun _ _ _=>?_)|(with_reducible apply AN;(exact tH _ _ _ h (h.m _ (by grind)) a);intro _ _)|(with_reducible apply BA;(exact fun _=>tH _ _ _ h (h.m _ (by grind)) a);intro _)|with_reducible (first|refine Gw ?_ fun _=>?_|refine AW ?_ ?_)))<;>exact A3
 have f:Ok (Sum.elim (fun y:List Bool=>y.length=s.messages.length) No) (Al (Xo s) Am (true,0,List.replicate s.messages.length false)):=by
  refine BC (fun v:Bool×Nat×List Bool=>v.2.1≤s.messages.length∧v.2.2.length=s.messages.length) (fun v:Bool×Nat×List Bool=>s.messages.length-v.2.1) ⟨by simp,by simp⟩ (B1 (by simp;omega)) fun v d=>?_
  obtain⟨b,i,r⟩:=v
  obtain⟨c,a⟩:=d
  dsimp only at c a
  dsimp only[Xo,eB,a7,eO,br,vz,wg,vs,v2,ln,Ai,lc,wa,fl,An,br]
  (repeat' (first|with_reducible (first|refine AP (fun _=>?_) fun _=>?_|refine AL ?_)|(with_reducible apply BQ;(exact q _ _ a);all_goals(intro _ _;try dsimp only))|with_reducible refine AW ?_ ?_))<;>exact A3
 dsimp only[iS,dE,eN,bf,vz,wg,lr,lc,ms,fl,fr,An]
 (repeat' (first|with_reducible (first|refine AP (fun _=>?_) fun _=>?_|refine AL ?_)|(with_reducible apply BQ;(exact f);all_goals(intro _ _;try dsimp only))|with_reducible refine AW ?_ ?_))<;>exact A3
end Go.Proofs.YtjbijbkdiijhaaaGreat
namespace Go.Proofs.YtjbijbkdiijhaaaGreat
set_option linter.all false
open Go Go.Eng
def Ds(l:List Fld)(n:Nat):Prop:=∀(i:Nat) (a b:Fld),i+1<n→l[i]?=some a→l[i+1]?=some b→a.num<b.num
theorem ZAI{l:List Fld}{v:Nat}{a b:Fld}(h:Ds l v)(g:l[v]?=some a)(j:0<v→l[v-1]?=some b∧b.num<a.num):Ds l (v+1):=by
 intro i x y hi hx hy
 by_cases e:i+1<v
 ·exact h i x y e hx hy
 ·have d:i+1=v:=by omega
  have f:v-1=i:=by omega
  rw[d]at hy
  obtain⟨c,k⟩:=j (by omega)
  rw[f]at c
  rw[g]at hy
  rw[c]at hx
  cases hx
  cases hy
  exact k
structure GdM0 (s:Scm) (m:Msg):Prop where
 asc:Ds m.fields m.fields.length
 df:∀(j:Nat) (f:Fld),m.fields[j]?=some f→IV f∧LS f∧LZ s f∧Oi f
def LY(e:Enm):Prop:=∃x,e.items[0]?=some x∧x.num=0
structure GdM (s:Scm) (m:Msg):Prop where
 asc:Ds m.fields m.fields.length
 df:∀(j:Nat) (f:Fld),m.fields[j]?=some f→IV f∧LS f∧LZ s f∧Oi f
 en:∀(j:Nat) (e:Enm),s.enums[j]?=some e→LY e
theorem ZSQ(x:Msg):x.fields.length+x.reserved.length+x.gone.length≤As (AU x):=by
 have a:=CB (e:=Az) x.fields
 have b:=CB (e:=CE) x.reserved
 have c:=CB (e:=Bw) x.gone
 simp only[AU,As,bk]
 omega
theorem ZQ7(x:Enm):x.items.length+x.reserved.length≤As (Cz x):=by
 have a:=CB (e:=FX) x.items
 have b:=CB (e:=CE) x.reserved
 simp only[Cz,As,bk]
 omega
theorem ZRK(x:Svc):x.methods.length≤As (Dl x):=by
 have a:=CB (e:=Hq) x.methods
 simp only[Dl,As,bk]
 omega
theorem xV(d:ByteArray)(b:Bool)(n e:Int):Ok (fun y=>y.length≤1) (BD d [] b n e):=(Eo d [] b n e (by simp)).mono fun y h=>by simpa using h.2.1
theorem o66(s:Scm)(m:Msg)(l:List Bool)(h:SzS s)(hm:SzM m)(hl:l.length=s.messages.length):Ok (fun y=>y.length≤20*(As (AU m)+1)∧(y.length=0→GdM0 s m)) (i5 s m l):=by
 have g:=ZSQ m
 have G:=hm.fl
 have q:=hm.r
 have B:=hm.gl
 have E:∀(v:Nat) (r:List Prb) (e:Fld),v≤m.fields.length→Ok (Sum.elim Tr No) (Al (Zh s m l v r e) Am (false,0)):=by
  intro w r e I
  refine BC (fun v:Bool×Nat=>v.2≤w) (fun v:Bool×Nat=>w-v.2) (by simp) (B1 (by omega)) fun v k=>?_
  obtain⟨b,i⟩:=v
  dsimp only at k
  dsimp only[Zh,dj,br,ix,vz,wg,vs,ln,Ai,wa,fl,br]
  (repeat' (first|with_reducible (first|refine AP (fun _=>?_) fun _=>?_|refine AL ?_|refine B0 ?_ fun _ _ _=>?_|refine AW ?_ ?_)))<;>exact A3
 have D:∀a:List Prb,a.length≤9→Ok (Sum.elim (fun y:List Prb=>y.length≤9+10*m.fields.length∧(y.length=0→GdM0 s m)) No) (Al (TC s m l) Am (0,a)):=by
  intro a o
  refine BC (fun v:Nat×List Prb=>v.1≤m.fields.length∧v.2.length≤9+10*v.1∧(v.2.length=0→Ds m.fields v.1∧∀(j:Nat) (f:Fld),j<v.1→m.fields[j]?=some f→IV f∧LS f∧LZ s f∧Oi f)) (fun v:Nat×List Prb=>m.fields.length-v.1) ⟨by simp,by simpa using o,fun _=>⟨fun i x y hi=>by simp at hi,fun j f n=>by simp at n⟩⟩ (B1 (by omega)) fun v k=>?_
  obtain⟨v,r⟩:=v
  obtain⟨t,u,c⟩:=k
  dsimp only at t u c
  dsimp only[TC,n1,nV,nF,oA,pF,ph,oy,oF,lV,l9,pL,od,n8,pH,oS,mm,fO,fM,dX,fY,eV,fJ,gj,cL,br,ix,A0,vz,wg,vs,vg,ln,Ai,lc,cl,AO,wa,wi,fl,An,br]
  (repeat' (first|with_reducible (first|refine AP (fun _=>?_) fun _=>?_|refine AL ?_|refine B0 ?_ fun _ _ _=>?_)|(with_reducible apply BQ;(exact E _ _ _ (by omega));all_goals(intro _ _;try dsimp only))|(with_reducible apply AN;(exact Eo _ _ _ _ _ (by omega));intro _ _)|(with_reducible apply AN;(exact LQ _ (hm.f _ (by assumption)).n);intro _ _)|(with_reducible apply AN;(exact qc _ _ q);intro _ _)|(with_reducible apply AN;(exact o86 _ _ B);intro _ _)|(with_reducible apply AN;(exact o91 _);intro _ _)|(with_reducible apply AN;(exact o92 _ _ h);intro _ _)|(with_reducible apply AN;(exact o93 _ _ hm Ci);intro _ _)|(with_reducible apply AN;(exact o94 _ _ h (hm.f _ (by assumption)));intro _ _)|(with_reducible apply AN;(exact J5 _ _ _ _ _ (by omega) (hm.f _ (by assumption)).o);intro _ _)|(with_reducible apply BA;(exact fun _=>Eo _ _ _ _ _ (by omega));intro _)|(with_reducible apply BA;(exact fun _=>LQ _ (hm.f _ (by assumption)).n);intro _)|(with_reducible apply BA;(exact fun _=>qc _ _ q);intro _)|(with_reducible apply BA;(exact fun _=>o86 _ _ B);intro _)|(with_reducible apply BA;(exact fun _=>o91 _);intro _)|(with_reducible apply BA;(exact fun _=>o92 _ _ h);intro _)|(with_reducible apply BA;(exact fun _=>o93 _ _ hm Ci);intro _)|(with_reducible apply BA;(exact fun _=>o94 _ _ h (hm.f _ (by assumption)));intro _)|(with_reducible apply BA;(exact fun _=>J5 _ _ _ _ _ (by omega) (hm.f _ (by assumption)).o);intro _)|with_reducible (first|refine Gw ?_ fun _=>?_|refine AW ?_ ?_)))
  all_goals try exact Ci
  have hx:=‹decide (0<(v:Int))=true→m.fields[((v:Int)-1).toNat]?=some (m.fields.getD ((v:Int)-1).toNat Rw.z)∧_›
  have he:=‹m.fields[v]?=some _›
  dsimp only
  refine⟨⟨by exact Ci,by omega,fun p=>⟨ZAI (b:=m.fields.getD ((v:Int)-1).toNat Rw.z) (c (by omega)).1 he fun k=>?_,fun j f n d=>?_⟩⟩,by exact Ci⟩
  have ev:((v:Int)-1).toNat=v-1:=by omega
  refine⟨ev▸(hx (Yn (by omega))).1,?_⟩
  rcases Int.lt_or_le (m.fields.getD ((v:Int)-1).toNat Rw.z).num (Fld.num _)with A|z
  ·exact A
  ·exfalso
   have H:=Yc _ _▸And.intro (Yn (show(0:Int)<v by omega)) (Yn z)
   grind
  ·rcases Nat.lt_or_eq_of_le (Nat.le_of_lt_succ n)with n|rfl
   ·exact(c (by omega)).2 j f n d
   ·rw[he]at d
    cases d
    refine⟨(show _=true→IV _ by assumption) (Oo fun g=>?_),(show _=true→LS _ by assumption) (Oo fun g=>?_),(show _=true→LZ s _ by assumption) (Oo fun g=>?_),(show _=true→∀f,m.fields[j]?=some f→Oi f by assumption) (Oo fun g=>?_) _ he⟩
    all_goals(
     rw[Bool.not_eq_true]at g
     subst g
     simp only[Y8,SY]at*
     omega)
  have C:v=m.fields.length:=by exact Ci
  subst C
  exact⟨by exact Ci,fun p=>⟨(c p).1,fun j f d=>(c p).2 j f (Yb.1 d).1 d⟩⟩
 have F:∀a:List Prb,a.length≤20000000→Ok (Sum.elim (fun y:List Prb=>a.length≤y.length∧y.length≤a.length+m.gone.length) No) (Al (XY s m l) Am (0,a)):=by
  intro a o
  refine BC (fun v:Nat×List Prb=>v.1≤m.gone.length∧v.2.length≤a.length+v.1∧a.length≤v.2.length) (fun v:Nat×List Prb=>m.gone.length-v.1) ⟨by simp,by simp,by simp⟩ (B1 (by omega)) fun v k=>?_
  obtain⟨v,r⟩:=v
  obtain⟨t,u,c⟩:=k
  dsimp only at t u c
  dsimp only[XY,ns,pG,pn,oJ,br,ix,vz,wg,vs,ln,Ai,lc,cl,wa,fl,An,br]
  (repeat' (first|with_reducible (first|refine AP (fun _=>?_) fun _=>?_|refine AL ?_|refine B0 ?_ fun _ _ _=>?_)|(with_reducible apply AN;(exact Eo _ _ _ _ _ (by omega));intro _ _)|(with_reducible apply AN;(exact qd _ (hm.g _ (by assumption)));intro _ _)|with_reducible refine AW ?_ ?_))<;>exact A3
 dsimp only[i5,o7,pk,oD,pg,oB,pK,l7,pJ,n9,oK,l6,ow,mu,n0,vz,vy,vw,wg,lr,lc,cl,fl,fr,An]
 (repeat' (first|with_reducible (first|refine AP (fun _=>?_) fun _=>?_|refine AL ?_)|(with_reducible apply BQ;(exact D _ Ci);all_goals(intro _ _;try dsimp only))|(with_reducible apply BQ;(exact F _ (by omega));all_goals(intro _ _;try dsimp only))|(with_reducible apply AN;(exact qb _ hm.n);intro _ _)|(with_reducible apply AN;(exact xV _ _ _ _);intro _ _)|(with_reducible apply AN;(exact Eo _ _ _ _ _ (by omega));intro _ _)|(with_reducible apply AN;(exact J5 _ _ _ _ _ (by omega) hm.o);intro _ _)|(with_reducible apply AN;(exact o96 _ _ _ _ _ (by omega) q);intro _ _)|(with_reducible apply AN;(exact o87 _ _ _ h hm hl);intro _ _)|with_reducible refine AW ?_ ?_))<;>exact A3
theorem o67(e:Enm)(hm:SzE e):Ok (fun y=>y.length≤20*(As (Cz e)+1)∧(y.length=0→LY e)) (ji e):=by
 have A:=ZQ7 e
 have z:=hm.il
 have g:=hm.r
 have q:∀(v:Nat) (r:List Prb) (x:Itm),v≤e.items.length→Ok (Sum.elim Tr No) (Al (Tx e v r x) Am (false,0)):=by
  intro w r x B
  refine BC (fun v:Bool×Nat=>v.2≤w) (fun v:Bool×Nat=>w-v.2) (by simp) (B1 (by omega)) fun v f=>?_
  obtain⟨b,i⟩:=v
  dsimp only at f
  dsimp only[Tx,dz,br,ix,vz,wg,vs,ln,Ai,wa,fl,br]
  (repeat' (first|with_reducible (first|refine AP (fun _=>?_) fun _=>?_|refine AL ?_|refine B0 ?_ fun _ _ _=>?_|refine AW ?_ ?_)))<;>exact A3
 have p:∀a:List Prb,a.length≤9→Ok (Sum.elim (fun y:List Prb=>a.length≤y.length∧y.length≤9+10*e.items.length) No) (Al (Xj e) Am (0,a)):=by
  intro a d
  refine BC (fun v:Nat×List Prb=>v.1≤e.items.length∧a.length≤v.2.length∧v.2.length≤9+10*v.1) (fun v:Nat×List Prb=>e.items.length-v.1) ⟨by simp,by simp,by simpa using d⟩ (B1 (by omega)) fun v f=>?_
  obtain⟨v,r⟩:=v
  obtain⟨m,o,n⟩:=f
  dsimp only at m n o
  dsimp only[Xj,o1,mD,nN,mB,nO,m0,mT,nw,aS,ce,bP,fm,dW,cB,gk,bY,br,ix,A0,vz,wg,vs,vg,ln,Ai,lc,cl,wa,wi,fl,An,br]
  (repeat' (first|with_reducible (first|refine AP (fun _=>?_) fun _=>?_|refine AL ?_|refine B0 ?_ fun _ _ _=>?_)|(with_reducible apply BQ;(exact q _ _ _ (by omega));all_goals(intro _ _;try dsimp only))|(with_reducible apply AN;(exact Eo _ _ _ _ _ (by omega));intro _ _)|(with_reducible apply AN;(exact LQ _ (hm.i _ (by assumption)).n);intro _ _)|(with_reducible apply AN;(exact qc _ _ g);intro _ _)|(with_reducible apply AN;(exact J5 _ _ _ _ _ (by omega) (hm.i _ (by assumption)).o);intro _ _)|with_reducible (first|refine Gw ?_ fun _=>?_|refine AW ?_ ?_)))<;>exact A3
 dsimp only[ji,m7,pl,oQ,mJ,pr,o6,mF,m9,pC,nR,nP,mE,mI,A0,vz,vy,vw,wg,lr,lc,cl,fl,fr,An]
 (repeat' (first|with_reducible (first|refine AP (fun _=>?_) fun _=>?_|refine AL ?_)|(with_reducible apply BQ;(exact p _ Ci);all_goals(intro _ _;try dsimp only))|(with_reducible apply AN;(exact qb _ hm.n);intro _ _)|(with_reducible apply AN;(exact Eo _ _ _ _ _ Ci);intro _ _)|(with_reducible apply AN;(exact J5 _ _ _ _ _ (by omega) hm.o);intro _ _)|(with_reducible apply AN;(exact o96 _ _ _ _ _ (by omega) g);intro _ _)|with_reducible (first|refine Gw ?_ fun _=>?_|refine AW ?_ ?_)))
 all_goals try exact A3
 rename_i C a0 D a1 E k x F a3 b a4 G s H t
 refine⟨by exact Ci,fun u=>?_⟩
 have l:¬(e.items.length:Int)<1:=fun h=>by
  have:=k.2.2 (by simp only[h,Yr,Oy])
  omega
 have j:(0:Int)<e.items.length:=by omega
 refine⟨_,(x (Yn j)).1,Decidable.not_not.1 fun c=>?_⟩
 have:=a3.2.2 (by simp only[j,c,Yr,YU,Y8,Ou])
 omega
theorem o68(s:Scm)(e:Svc)(h:SzS s)(hm:SzW e):Ok (fun y=>y.length≤20*(As (Dl e)+1)) (i9 s e):=by
 have j:=ZRK e
 have i:=hm.ml
 have g:∀b:List Prb,b.length≤9→Ok (Sum.elim (fun y:List Prb=>y.length≤9+10*e.methods.length) No) (Al (XO s e) Am (0,b)):=by
  intro b a
  refine BC (fun v:Nat×List Prb=>v.1≤e.methods.length∧v.2.length≤9+10*v.1) (fun v:Nat×List Prb=>e.methods.length-v.1) ⟨by simp,by simpa using a⟩ (B1 (by omega)) fun v f=>?_
  obtain⟨v,r⟩:=v
  obtain⟨c,d⟩:=f
  dsimp only at c d
  dsimp only[XO,l4,mH,ox,mh,aR,eW,dp,bB,cG,cw,aJ,dm,bt,br,ix,A0,vz,wg,vs,vg,ln,Ai,lc,cl,AO,wa,wi,fl,An,br]
  (repeat' (first|with_reducible (first|refine AP (fun _=>?_) fun _=>?_|refine AL ?_|refine B0 ?_ fun _ _ _=>?_)|(with_reducible apply AN;(exact Eo _ _ _ _ _ (by omega));intro _ _)|(with_reducible apply AN;(exact R6 _ _ h);intro _ _)|(with_reducible apply AN;(exact LQ _ (hm.m _ (by assumption)).n);intro _ _)|(with_reducible apply AN;(exact J5 _ _ _ _ _ (by omega) (hm.m _ (by assumption)).o);intro _ _)|(with_reducible apply BA;(exact fun _=>Eo _ _ _ _ _ (by omega));intro _)|(with_reducible apply BA;(exact fun _=>R6 _ _ h);intro _)|(with_reducible apply BA;(exact fun _=>LQ _ (hm.m _ (by assumption)).n);intro _)|(with_reducible apply BA;(exact fun _=>J5 _ _ _ _ _ (by omega) (hm.m _ (by assumption)).o);intro _)|with_reducible (first|refine Gw ?_ fun _=>?_|refine AW ?_ ?_)))<;>exact A3
 dsimp only[i9,pd,pA,po,oZ,oE,nL,my,o9,mG,vz,vw,wg,lr,lc,cl,fl,fr,An]
 (repeat' (first|with_reducible (first|refine AP (fun _=>?_) fun _=>?_|refine AL ?_)|(with_reducible apply BQ;(exact g _ Ci);all_goals(intro _ _;try dsimp only))|(with_reducible apply AN;(exact qb _ hm.n);intro _ _)|(with_reducible apply AN;(exact xV _ _ _ _);intro _ _)|(with_reducible apply AN;(exact Eo _ _ _ _ _ (by omega));intro _ _)|(with_reducible apply AN;(exact J5 _ _ _ _ _ (by omega) hm.o);intro _ _)|with_reducible refine AW ?_ ?_))<;>exact A3
structure Few (s:Scm):Prop where
 m:s.messages.length≤150
 e:s.enums.length≤150
 w:s.services.length≤150
theorem o37{s:Scm}(hs:As (Au s)≤1048576):Ok (fun y=>y.length=0→(∀(i:Nat) (m:Msg),s.messages[i]?=some m→GdM0 s m)∧∀(i:Nat) (e:Enm),s.enums[i]?=some e→LY e) (jt s):=by
 have h:=Fr hs
 have u:=h.ml
 have w:=h.el
 have x:=h.wl
 have t:AR (s.messages.map AU)+AR (s.enums.map Cz)+AR (s.services.map Dl)≤1048576:=by
  simp only[Au,As,bk]at hs
  omega
 have n:Ok (Sum.elim (fun y:List Prb=>y.length≤9) No) (Al (Tf s) Am (1,[])):=by
  refine BC (fun v:Nat×List Prb=>1≤v.1∧v.1≤4∧v.2.length≤2*v.1) (fun v:Nat×List Prb=>4-v.1) ⟨by simp,by simp,by simp⟩ (B1 (by omega)) fun v g=>?_
  obtain⟨v,r⟩:=v
  obtain⟨c,d,f⟩:=g
  dsimp only at c d f
  dsimp only[Tf,ba,fi,cE,bb,aM,dh,em,br,vz,wg,vs,ln,Ai,lc,cl,wa,fl,An,br]
  (repeat' (first|with_reducible (first|refine AP (fun _=>?_) fun _=>?_|refine AL ?_)|(with_reducible apply AN;(exact qa _ _ h);intro _ _)|(with_reducible apply AN;(exact Eo _ _ _ _ _ (by omega));intro _ _)|(with_reducible apply AN;(exact o63 _ (by assumption));intro _ _)|with_reducible refine AW ?_ ?_))<;>exact A3
 have o:∀(a:List Prb) (l:List Bool),a.length≤10→l.length=s.messages.length→Ok (Sum.elim (fun y:List Prb=>y.length≤20971540∧(y.length=0→∀(i:Nat) (m:Msg),s.messages[i]?=some m→GdM0 s m)) No) (Al (XD s l) Am (0,a)):=by
  intro a l b hl
  refine BC (fun v:Nat×List Prb=>v.1≤s.messages.length∧v.2.length≤10+20*AR ((s.messages.take v.1).map AU)∧(v.2.length=0→∀(i:Nat) (m:Msg),i<v.1→s.messages[i]?=some m→GdM0 s m)) (fun v:Nat×List Prb=>s.messages.length-v.1) ⟨by simp,D3 b (OC _ _),fun _ i m hi=>by simp at hi⟩ (B1 (by omega)) fun v g=>?_
  obtain⟨v,r⟩:=v
  obtain⟨c,d,f⟩:=g
  dsimp only at c d f
  have a1:=MR AU s.messages v
  have j:=MR AU s.messages (v+1)
  dsimp only[XD,mw,ga,Ri,br,ix,vz,wg,vs,ln,Ai,lc,aq,cl,wa,tw,fl,An,br]
  (repeat' (first|with_reducible (first|refine AP (fun _=>?_) fun _=>?_|refine AL ?_|refine B0 ?_ fun _ _ _=>?_)|(with_reducible apply AN;(exact o66 _ _ _ h (h.m _ (by assumption)) hl);intro _ _)|with_reducible refine AW ?_ ?_))<;>first|(have a3:=Vi AU ‹s.messages[v]?=some _›;exact A3)|exact A3
 have p:∀a:List Prb,a.length≤20971540→Ok (Sum.elim (fun y:List Prb=>a.length≤y.length∧y.length≤41943080∧(y.length=0→∀(i:Nat) (e:Enm),s.enums[i]?=some e→LY e)) No) (Al (X5 s) Am (0,a)):=by
  intro a b
  refine BC (fun v:Nat×List Prb=>v.1≤s.enums.length∧v.2.length≤20971540+20*AR ((s.enums.take v.1).map Cz)∧a.length≤v.2.length∧(v.2.length=0→∀(i:Nat) (e:Enm),i<v.1→s.enums[i]?=some e→LY e)) (fun v:Nat×List Prb=>s.enums.length-v.1) ⟨by simp,D3 b (OC _ _),by simp,fun _ i e hi=>by simp at hi⟩ (B1 (by omega)) fun v g=>?_
  obtain⟨v,r⟩:=v
  obtain⟨c,d,f,k⟩:=g
  dsimp only at c d f k
  have a1:=MR Cz s.enums v
  have j:=MR Cz s.enums (v+1)
  dsimp only[X5,oW,oL,Qf,br,ix,vz,wg,vs,ln,Ai,lc,aq,cl,wa,tw,fl,An,br]
  (repeat' (first|with_reducible (first|refine AP (fun _=>?_) fun _=>?_|refine AL ?_|refine B0 ?_ fun _ _ _=>?_)|(with_reducible apply AN;(exact o67 _ (h.e _ (by assumption)));intro _ _)|with_reducible refine AW ?_ ?_))<;>first|(have a3:=Vi Cz ‹s.enums[v]?=some _›;exact A3)|exact A3
 have q:∀a:List Prb,a.length≤41943080→Ok (Sum.elim (fun y:List Prb=>a.length≤y.length) No) (Al (Xc s) Am (0,a)):=by
  intro a b
  refine BC (fun v:Nat×List Prb=>v.1≤s.services.length∧v.2.length≤41943080+20*AR ((s.services.take v.1).map Dl)∧a.length≤v.2.length) (fun v:Nat×List Prb=>s.services.length-v.1) ⟨by simp,D3 b (OC _ _),by simp⟩ (B1 (by omega)) fun v g=>?_
  obtain⟨v,r⟩:=v
  obtain⟨c,d,f⟩:=g
  dsimp only at c d f
  have a1:=MR Dl s.services v
  have j:=MR Dl s.services (v+1)
  dsimp only[Xc,oO,oe,QR,br,ix,vz,wg,vs,ln,Ai,lc,aq,cl,wa,tw,fl,An,br]
  (repeat' (first|with_reducible (first|refine AP (fun _=>?_) fun _=>?_|refine AL ?_|refine B0 ?_ fun _ _ _=>?_)|(with_reducible apply AN;(exact o68 _ _ h (h.w _ (by assumption)));intro _ _)|with_reducible refine AW ?_ ?_))<;>first|(have a3:=Vi Dl ‹s.services[v]?=some _›;exact A3)|exact A3
 dsimp only[jt,o2,oz,oo,oI,nS,pt,o5,nu,mi,mr,nE,oT,vz,vw,wg,lr,lc,cl,AO,fl,fr]
 (repeat' (first|with_reducible (first|refine AP (fun _=>?_) fun _=>?_|refine AL ?_)|(with_reducible apply BQ;(exact n);all_goals(intro _ _;try dsimp only))|(with_reducible apply BQ;(exact o _ _ (by omega) (by assumption));all_goals(intro _ _;try dsimp only))|(with_reducible apply BQ;(exact p _ (by omega));all_goals(intro _ _;try dsimp only))|(with_reducible apply BQ;(exact q _ (by omega));all_goals(intro _ _;try dsimp only))|(with_reducible apply AN;(exact qa _ _ h);intro _ _)|(with_reducible apply AN;(exact o64 _ _ (by assumption) (by assumption));intro _ _)|(with_reducible apply AN;(exact o65 _ h);intro _ _)|(with_reducible apply AN;(exact Eo _ _ _ _ _ (by omega));intro _ _)|(with_reducible apply BA;(exact fun _=>qa _ _ h);intro _)|(with_reducible apply BA;(exact fun _=>o64 _ _ (by assumption) (by assumption));intro _)|(with_reducible apply BA;(exact fun _=>o65 _ h);intro _)|(with_reducible apply BA;(exact fun _=>Eo _ _ _ _ _ (by omega));intro _)|with_reducible refine AW ?_ ?_))<;>exact A3
theorem o16{s:Scm}(hs:As (Au s)≤1048576):Ok (fun b=>b=true→∀(i:Nat) (m:Msg),s.messages[i]?=some m→GdM s m) (UP s):=by
 have k:Ok (fun b=>b=true→(∀(i:Nat) (m:Msg),s.messages[i]?=some m→GdM0 s m)∧∀(i:Nat) (e:Enm),s.enums[i]?=some e→LY e) (UP s):=by
  dsimp only[UP,gH,vz,wg,lr,cl,An]
  (repeat' (first|with_reducible (first|refine AP (fun _=>?_) fun _=>?_|refine AL ?_)|(with_reducible apply AN;(exact o37 hs);intro _ _)|with_reducible refine AW ?_ ?_))<;>exact A3
 exact k.mono fun b h a i m hm=>⟨((h a).1 i m hm).asc,((h a).1 i m hm).df,(h a).2⟩
abbrev A2(v:Val):Prop:=As (Ag v)≤1048576
theorem NP{v x:Val}(h:A2 v)(hx:x∈v.list):A2 x:=by
 have a:=C2 (e:=A8) hx
 rw[Gv]at a
 unfold A2 at*
 conv at h=>unfold Ag
 simp only[As,bk]at h
 omega
theorem GE{v:Val}{x:Pr}(h:A2 v)(hx:x∈v.pairs):A2 x.key∧A2 x.val:=by
 have a:=C2 (e:=Ap) hx
 have e:Ap x=Ag x.key++Ag x.val:=by rw[Lm];rfl
 rw[e,M0]at a
 unfold A2 at*
 conv at h=>unfold Ag
 simp only[As,bk]at h
 omega
theorem In{v:Val}{x:Slt}(h:A2 v)(hx:x∈v.slots):A2 x.val:=by
 have a:=C2 (e:=Aq) hx
 have e:Aq x=D.int .i64 x.num::Ag x.val:=by rw[K6];rfl
 rw[e,As]at a
 unfold A2 at*
 conv at h=>unfold Ag
 simp only[As,bk]at h
 omega
theorem VK{α:Type}(p:α→Bool):∀l:List α,l.find? p=(l.findIdx? p).bind fun i=>l[i]?
 |[]=>rfl
 |x::l=>by
  rw[List.find?_cons,List.findIdx?_cons]
  cases h:p x with
  |true=>simp
  |false=>
   rw[VK p l]
   cases List.findIdx? p l<;>simp
def C8{α:Type}[Inhabited α](l:List α)(z:α)(p:α→Bool):α×Bool:=(l.find? p).elim (z,false) fun x=>(x,true)
theorem P4{α:Type}[Inhabited α](l:List α)(z:α)(p:α→Bool):C8 l z p=match l.findIdx? p with|some i=>(l.getD i default,true)|none=>(z,false):=by
 unfold C8
 rw[VK]
 cases h:l.findIdx? p with
 |none=>rfl
 |some i=>
  have:=(Kj.1 h).1
  simp[this]
def zM:Msg:=.mk ⟨#[]⟩ [] [] [] []
def zF:Fld:=.mk 0 ⟨#[]⟩ 0 0 (.mk 0 ⟨#[]⟩) ⟨#[]⟩ false (.mk 0 0 ⟨#[]⟩ [] [] [] []) []
theorem Zq(s:Scm)(n:ByteArray)(h:s.messages.length≤1048576):KU s n=some (C8 s.messages zM fun m=>decide (m.name=n)):=by
 have c:=Eu (B:=R1 s n) (N:=Am) s.messages (fun m=>decide (m.name=n)) (fun i=>(s.messages.getD i default,true)) () (fun i x hx=>by
  have a:=BM hx
  have d:=(Yb.1 hx).1
  have b:i+1<9223372036854775808:=by omega
  dsimp only[R1,Tz,br,ix,vz,wg,vs,Ay,ln,Ai,wa,An,br]
  simp only[a,b,hx,Yr,Yv,Ya,Yg,YT]
  cases decide (x.name=n)<;>simp) (by simp[R1,Tz,br,ix,vz,wg,vs,Ay,ln,Ai,wa,An,br]) (A1 (by omega))
 dsimp only[KU,fc,cb,aF,wg,lr,lc]
 rw[c,P4]
 cases s.messages.findIdx? fun m=>decide (m.name=n)<;>rfl
theorem m84(l:List Msg)(n:ByteArray)(h:l.length≤1048576):UO l (fun z=>MG z n)=some (C8 l zM fun m=>decide (m.name=n)):=by
 have c:=Eu (B:=Rl l fun z=>MG z n) (N:=Am) l (fun m=>decide (m.name=n)) (fun i=>(l.getD i default,true)) () (fun i x hx=>by
  have a:=BM hx
  have d:=(Yb.1 hx).1
  have b:i+1<9223372036854775808:=by omega
  have e:MG x n=some (decide (x.name=n)):=rfl
  dsimp only[Rl,Tl,br,ix,wg,vs,Ay,ln,Ai,cf,wa,br]
  simp only[a,b,hx,e,Yr,Yv,Ya,Yg,YT]
  cases decide (x.name=n)<;>simp) (by simp[Rl,Tl,br,ix,wg,vs,Ay,ln,Ai,cf,wa,br]) (A1 (by omega))
 dsimp only[UO,dN,dD,dP,vz,wg,lr,lc,An]
 rw[c,P4]
 cases l.findIdx? fun m=>decide (m.name=n)<;>rfl
theorem MY{s:Scm}(h:SzS s)(n:ByteArray):(C8 s.messages zM fun m=>decide (m.name=n)).1.fields.length≤1048576:=by
 unfold C8
 cases e:s.messages.find? fun m=>decide (m.name=n)with
 |none=>simp[zM]
 |some m=>exact(h.m _ (I4 e)).fl
theorem vX{v x:Val}(hx:x∈v.list):As (Ag x)<As (Ag v):=by
 have a:=C2 (e:=A8) hx
 rw[Gv]at a
 conv=>rhs;unfold Ag
 simp only[As,bk]
 omega
theorem XQ{v:Val}{x:Pr}(hx:x∈v.pairs):As (Ag x.key)<As (Ag v)∧As (Ag x.val)<As (Ag v):=by
 have b:=C2 (e:=Ap) hx
 have e:Ap x=Ag x.key++Ag x.val:=by rw[Lm];rfl
 rw[e,M0]at b
 have a:As (Ag v)=As [.int .i64 v.kind,.int .u64 v.bits,.str v.text,.list (v.list.map A8),.list (v.pairs.map Ap),.list (v.slots.map Aq),.list (v.raws.map Av)]:=rfl
 rw[a]
 simp only[As,bk]
 omega
theorem vP{v:Val}{x:Slt}(hx:x∈v.slots):As (Ag x.val)<As (Ag v):=by
 have a:=C2 (e:=Aq) hx
 have e:Aq x=D.int .i64 x.num::Ag x.val:=by rw[K6];rfl
 rw[e,As]at a
 have b:As (Ag v)=As [.int .i64 v.kind,.int .u64 v.bits,.str v.text,.list (v.list.map A8),.list (v.pairs.map Ap),.list (v.slots.map Aq),.list (v.raws.map Av)]:=rfl
 rw[b]
 simp only[As,bk]at a⊢
 omega
def BR(F:List Fld)(k:Int):Fld×Bool:=C8 F zF fun f=>decide (f.num=k)
def A7(F:List Fld)(k:Int):Fld:=(BR F k).1
def AY(s:Scm)(n:ByteArray):List Fld:=(C8 s.messages zM fun m=>decide (m.name=n)).1.fields
theorem n61(s:Scm)(n:ByteArray)(h:s.messages.length≤1048576):U1 s n=some (C8 s.messages zM fun m=>decide (m.name=n)):=by
 dsimp only[U1,ey,wg,lr,cs]
 rw[m84 _ _ h]
 rfl
theorem n74(l:List Fld)(k:Int)(h:l.length≤1048576):UV l (fun z=>MJ z k)=some (BR l k):=by
 have c:=Eu (B:=RY l fun z=>MJ z k) (N:=Am) l (fun f=>decide (f.num=k)) (fun i=>(l.getD i default,true)) () (fun i x hx=>by
  have a:=BM hx
  have d:=(Yb.1 hx).1
  have b:i+1<9223372036854775808:=by omega
  have e:MJ x k=some (decide (x.num=k)):=rfl
  dsimp only[RY,X7,br,ix,wg,vs,Ay,ln,Ai,cf,wa,br]
  simp only[a,b,hx,e,Yr,Yv,Ya,Yg,YT]
  cases decide (x.num=k)<;>simp) (by simp[RY,X7,br,ix,wg,vs,Ay,ln,Ai,cf,wa,br]) (A1 (by omega))
 dsimp only[UV,eo,ft,eE,vz,wg,lr,lc,An]
 unfold BR
 rw[c,P4]
 cases l.findIdx? fun m=>decide (m.num=k)<;>rfl
theorem n43(m:Msg)(k:Int)(h:m.fields.length≤1048576):jM m k=some (BR m.fields k):=by
 dsimp only[jM,dB,wg,lr,cs]
 rw[n74 _ _ h]
 rfl
theorem p8(m:Msg)(k:Int)(h:m.fields.length≤1048576):jE m k=some (BR m.fields k):=by
 have c:=Eu (B:=Q5 m k) (N:=Am) m.fields (fun f=>decide (f.num=k)) (fun i=>(m.fields.getD i default,true)) () (fun i x hx=>by
  have a:=BM hx
  have d:=(Yb.1 hx).1
  have b:i+1<9223372036854775808:=by omega
  dsimp only[Q5,V7,br,ix,vz,wg,vs,Ay,ln,Ai,wa,An,br]
  simp only[a,b,hx,Yr,Yv,Ya,Yg,YT]
  cases decide (x.num=k)<;>simp) (by simp[Q5,V7,br,ix,vz,wg,vs,Ay,ln,Ai,wa,An,br]) (A1 (by omega))
 dsimp only[jE,nh,nr,ou,wg,lr,lc]
 unfold BR
 rw[c,P4]
 cases m.fields.findIdx? fun f=>decide (f.num=k)<;>rfl
def CX{α:Type}(l:List α)(p:α→Bool):Int:=match l.findIdx? p with
 |some i=>(i:Int)
 |none=>-1
theorem ZIH{α:Type}(l:List α)(p:α→Bool):decide (0≤CX l p)=l.any p:=by
 unfold CX
 rw[←Ol]
 cases l.findIdx? p with
 |none=>rfl
 |some i=>simp
theorem n70(l:List Slt)(f:Slt→Option Bool)(p:Slt→Bool)(d:∀x∈l,f x=some (p x))(h:l.length<4611686018427387904):U8 l f=some (CX l p):=by
 have e:=Eu (B:=Rp l f) (N:=Am) l p (fun i=>(i:Int)) () (fun i x hx=>by
  have a:=BM hx
  have g:=(Yb.1 hx).1
  have b:i+1<9223372036854775808:=by omega
  have c:=d x (Yi hx)
  dsimp only[Rp,S4,br,ix,vs,Ay,ln,Ai,cf,wa,br]
  simp only[a,b,c,hx,Yr,Yv,Ya]
  cases p x<;>simp) (by simp[Rp,S4,br,ix,vs,Ay,ln,Ai,cf,wa,br]) (A1 h)
 dsimp only[U8,bS,dL,da,vz,lr,lc,An]
 rw[e]
 unfold CX
 cases l.findIdx? p<;>rfl
def Ca(l:List Slt)(k:Int):Bool:=l.any fun x=>decide (x.num=k)
theorem n19(v:Val)(k:Int)(h:v.slots.length<4611686018427387904):jR v k=some (Ca v.slots k):=by
 dsimp only[jR,dt,wg,lr,cl,y3,dq,lr,cs]
 rw[n70 v.slots (fun z=>UU z k) (fun x=>decide (x.num=k)) (fun x _=>rfl) h]
 simp only[Ya]
 rw[ZIH]
 rfl
theorem ZSl{v:Val}{x:Raw}(h:A2 v)(hx:x∈v.raws):x.data.size≤1048576:=by
 have a:=C2 (e:=Av) hx
 unfold A2 at h
 conv at h=>unfold Ag
 simp only[As,bk,Av]at h a
 omega
theorem ZoI{F:List Fld}{k:Int}(h:(BR F k).2=true):(A7 F k).num=k:=by
 unfold A7 BR C8 at*
 cases e:F.find? fun f=>decide (f.num=k)with
 |none=>rw[e]at h;cases h
 |some f=>exact Y3 (p:=f.num=k) (ax (p:=fun f:Fld=>decide (f.num=k)) e)
abbrev W4:=Scm→Fld→Val→Int→Bool→Option Int
def Cc{α:Type}(f:Nat→α→Int):List α→Nat→Int
 |[],_=>0
 |x::l,i=>if f i x=0 then Cc f l (i+1)else f i x
theorem QT{α:Type}(f:Nat→α→Int):∀(l:List α) (i:Nat),Cc f l i=0↔∀(j:Nat) (x:α),l[j]?=some x→f (i+j) x=0
 |[],i=>by simp[Cc]
 |x::l,i=>by
  unfold Cc
  have a:=QT f l (i+1)
  by_cases h:f i x=0
  ·rw[Yk h,a]
   constructor
   ·intro k j y hy
    cases j with
    |zero=>cases hy;exact h
    |succ j=>have:=k j y hy;rw[show i+(j+1)=i+1+j by omega];exact this
   ·intro k j y hy
    have:=k (j+1) y hy
    rw[show i+(j+1)=i+1+j by omega]at this
    exact this
  ·rw[Ym h]
   exact⟨fun e=>absurd e h,fun k=>k 0 x rfl⟩
theorem PL{α ξ ρ:Type}{B:Nat→Option (Lv Nat ξ ρ)}{N:Nat}(l:List α)(f:Nat→α→Int)(r:Int→ρ)(e:ξ)
  (hs:∀(i:Nat) (x:α),l[i]?=some x→(∀(j:Nat) (y:α),j<i→l[j]?=some y→f j y=0)→B i=some (if f i x=0 then .nx (i+1)else .rt (r (f i x))))
  (he:B l.length=some (.ex e)) (hN:l.length<N):Al B N 0=some (if Cc f l 0=0 then .inl e else .inr (r (Cc f l 0))):=by
 suffices H:∀k i N,i+k=l.length→(∀(j:Nat) (y:α),j<i→l[j]?=some y→f j y=0)→k<N→Al B N i=some (if Cc f (l.drop i) i=0 then .inl e else .inr (r (Cc f (l.drop i) i)))by
  have:=H l.length 0 N (by omega) (fun j y c=>absurd c (by omega)) hN
  rwa [L7]at this
 intro k
 induction k with
 |zero=>
  intro i N hi _ hN
  obtain⟨N,rfl⟩:∃m,N=m+1:=⟨N-1,by omega⟩
  have:i=l.length:=by omega
  subst this
  rw[Al,he,SL]
  rfl
 |succ k d=>
  intro i N hi b hN
  obtain⟨N,rfl⟩:∃m,N=m+1:=⟨N-1,by omega⟩
  have a:i<l.length:=by omega
  rw[Al,hs i l[i] (Ye a) b,HP a,Cc]
  by_cases h:f i l[i]=0
  ·rw[Yk h,Yk h]
   refine d (i+1) N (by omega) (fun j y c hy=>?_) (by omega)
   by_cases e:j=i
   ·subst e
    rw[Ye a]at hy
    cases hy
    exact h
   ·exact b j y (by omega) hy
  ·rw[Ym h,Ym h,Ym h]
def BW(v:Val):Bool:=decide ((v.kind≠11∧0<v.list.length)∨(v.kind≠12∧0<v.pairs.length)∨(v.kind≠10∧(0<v.slots.length∨0<v.raws.length))∨(v.text≠⟨#[]⟩∧¬(v.kind=7∨v.kind=8))∨(v.bits≠0∧(v.kind=7∨v.kind=8∨v.kind=10∨v.kind=11∨v.kind=12)))
def CA(x:ByteArray)(p:Nat)(lo hi:Nat):Bool:=decide (p<x.size)&&decide (lo≤(x.get! p).toNat)&&decide ((x.get! p).toNat≤hi)
def CI(x:ByteArray)(p:Nat):Nat:=
 let b:=(x.get! p).toNat
 if b<0x80 then 1
 else if 0xc2≤b∧b≤0xdf∧CA x (p+1) 0x80 0xbf=true then 2
 else if b=0xe0∧CA x (p+1) 0xa0 0xbf=true∧CA x (p+2) 0x80 0xbf=true then 3
 else if b=0xed∧CA x (p+1) 0x80 0x9f=true∧CA x (p+2) 0x80 0xbf=true then 3
 else if 0xe1≤b∧b≤0xef∧b≠0xed∧CA x (p+1) 0x80 0xbf=true∧CA x (p+2) 0x80 0xbf=true then 3
 else if b=0xf0∧CA x (p+1) 0x90 0xbf=true∧CA x (p+2) 0x80 0xbf=true∧CA x (p+3) 0x80 0xbf=true then 4
 else if 0xf1≤b∧b≤0xf3∧CA x (p+1) 0x80 0xbf=true∧CA x (p+2) 0x80 0xbf=true∧CA x (p+3) 0x80 0xbf=true then 4
 else if b=0xf4∧CA x (p+1) 0x80 0x8f=true∧CA x (p+2) 0x80 0xbf=true∧CA x (p+3) 0x80 0xbf=true then 4
 else 0
def F4(x:ByteArray):Nat→Nat→Bool
 |0,_=>true
 |n+1,p=>if p<x.size then(if CI x p=0 then false else F4 x n (p+CI x p))else true
def Kn(x:ByteArray):Bool:=F4 x (x.size+1) 0
def T6(n b:Int):Bool:=if n=1 then decide (b≤1)else if n=2 then decide (-2147483648≤IntKind.i64.wrap b∧IntKind.i64.wrap b≤2147483647)else if n=4 then decide (b≤4294967295)else if n=9 then decide (b≤2147483647)else true
def Me(v:Val):Bool:=decide (v.list.length=0∧v.pairs.length=0∧v.slots.length=0∧v.raws.length=0)
def Pi(n:Int):Bool:=decide (n=7∨n=8)
def Jp(n:Int)(v:Val):Bool:=decide (1≤n∧n≤9∧v.kind=n)&&Me v&&(if Pi n then decide (v.bits=0∧v.text.size≤4096)&&(decide (n=8)||Kn v.text)else decide (v.text=⟨#[]⟩)&&T6 n v.bits)
def DW(n:Int)(v:Val):Int:=if v.kind≠n∨BW v=true then 12 else if 4096<v.text.size then 3 else if Jp n v=true then 0 else if n=7 then 7 else 12
def zE:Enm:=.mk ⟨#[]⟩ false [] [] []
def Bf(s:Scm)(n:ByteArray):Msg×Bool:=C8 s.messages zM fun m=>decide (m.name=n)
def Dh(s:Scm)(n:ByteArray):Enm×Bool:=C8 s.enums zE fun e=>decide (e.name=n)
def LJ(e:Enm)(b:Int):Bool:=e.items.any fun x=>decide (IntKind.u64.wrap x.num=b)
def Dk(R:Msg→Val→Int)(s:Scm)(t:Typ)(v:Val):Int:=
 if t.kind=10 then(if(Bf s t.name).2=true then R (Bf s t.name).1 v else 10)
 else if t.kind<1∨9<t.kind then 12
 else if DW t.kind v≠0∨t.kind≠9 then DW t.kind v
 else if(Dh s t.name).2=false then 10
 else if(Dh s t.name).1.opn=false∧LJ (Dh s t.name).1 v.bits=false then 16 else 0
def KN(a b:Val):Bool:=decide (a.bits=b.bits)&&decide (a.text=b.text)
def Kw(E:Val→Int)(key:Int)(k:Bool)(l:List Pr)(i:Nat)(p:Pr):Int:=
 if DW key p.key≠0 then DW key p.key else if k=true∧((l.take i).any fun q=>KN q.key p.key)=true then 9 else E p.val
def B7(R:Msg→Val→Int)(s:Scm)(k:Bool)(f:Fld)(v:Val):Int:=
 if f.card=4 then(if v.kind≠11∨BW v=true then 12 else Cc (fun _ x=>Dk R s f.type x) v.list 0)
 else if f.card=5 then(if v.kind≠12∨BW v=true then 12 else Cc (Kw (Dk R s f.type) f.key k v.pairs) v.pairs 0)
 else Dk R s f.type v
def Kv(F:List Fld)(l:List Slt)(u:ByteArray):Bool:=!decide (u=⟨#[]⟩)&&l.any fun y=>decide ((A7 F y.num).union=u)
def F5(R:Fld→Val→Int)(F:List Fld)(l:List Slt)(i:Nat)(x:Slt):Int:=
 if(BR F x.num).2=false then 8 else if Ca (l.take i) x.num=true then 9 else if Kv F (l.take i) (A7 F x.num).union=true then 15 else R (A7 F x.num) x.val
def IG(l:List Slt)(f:Fld):Int:=if f.card=1∧Ca l f.num=false then 14 else 0
def uq(s:Scm)(f:Fld)(x:Raw):Bool:=decide (f.type.kind=9)&&(Dh s f.type.name).2&&!(Dh s f.type.name).1.opn&&!decide (f.card=5)&&decide (x.wire=0)&&decide (x.bits<2147483648)&&!LJ (Dh s f.type.name).1 x.bits
def Kl(s:Scm)(F:List Fld)(x:Raw):Int:=
 if x.num<1∨65535<x.num∨x.wire<0∨6<x.wire∨(x.wire≤2∧x.data≠⟨#[]⟩)∨(2<x.wire∧x.bits≠0)then 1
 else if(BR F x.num).2=true∧uq s (A7 F x.num) x=false then 1
 else if(x.wire=3∧4096<x.data.size)∨65536<x.data.size then 3 else 0
def Ba(s:Scm)(k:Bool):Nat→Msg→Val→Int
 |0,_,v=>if v.kind≠10∨BW v=true then 12 else 17
 |d+1,m,v=>
  if v.kind≠10∨BW v=true then 12
  else if Cc (F5 (B7 (Ba s k d) s k) m.fields v.slots) v.slots 0≠0 then Cc (F5 (B7 (Ba s k d) s k) m.fields v.slots) v.slots 0
  else if Cc (fun _ f=>IG v.slots f) m.fields 0≠0 then Cc (fun _ f=>IG v.slots f) m.fields 0
  else Cc (fun _ x=>Kl s m.fields x) v.raws 0
mutual
def cnt:Val→Nat
 |.mk _ _ _ l p s r=>1+r.length+Br l+BN p+Cb s
def Br:List Val→Nat
 |[]=>0
 |v::l=>cnt v+Br l
def NL:Pr→Nat
 |.mk k v=>cnt k+cnt v
def BN:List Pr→Nat
 |[]=>0
 |p::l=>NL p+BN l
def NT:Slt→Nat
 |.mk _ v=>cnt v
def Cb:List Slt→Nat
 |[]=>0
 |x::l=>NT x+Cb l
end
def Km(s:Scm)(k:Bool)(n:ByteArray)(v:Val):Int:=
 if(Bf s n).2=false then 10 else if Ba s k 16 (Bf s n).1 v≠0 then Ba s k 16 (Bf s n).1 v else if 4096<cnt v then 3 else 0
theorem rT(x:ByteArray)(p:Nat):x.data.toList.getD p 0=x.get! p:=by
 cases x with
 |mk d=>
  show d.toList.getD p 0=d.getD p 0
  rw[Yg,YC,Yy]
theorem zS(x:ByteArray)(i:Nat)(lo hi:Nat)(h:x.size≤1048576):MC x (i:Int) (lo:Int) (hi:Int)=some (CA x i lo hi):=by
 have w:x.size<4611686018427387904:=by omega
 dsimp only[MC,WL,vz,lr,BF,Ge]
 simp only[w,Yv,YV,rT]
 have a:∀b c:Bool,(b=true→decide ((i:Int)<x.size)=true)→(if(b=true→(0:Int)≤i∧(i:Int)<x.size)then(some c)else none)=some c:=fun b c d=>by
  rw[Yk]
  intro h
  have:=d h
  simp only[YB]at this
  omega
 rw[a _ _ (fun h=>by rw[Yc]at h;exact h.1),a _ _ (fun h=>h)]
 unfold CA
 congr 1
 rw[ay]
 simp only[Yc,YB]
 omega
theorem ta(x:ByteArray)(i n:Nat)(h:x.size≤1048576)(hi:i≤2097152)(p:n≤9):KW x (i:Int) (n:Int)=some ((List.range n).all fun k=>CA x (i+k) 128 191):=by
 have o:=Eu (B:=Ln x (i:Int) (n:Int)) (N:=Am) (List.range n) (fun k=>!CA x (i+k) 128 191) (fun _=>false) () (fun k y a=>by
  have b:=(Yb.1 a).1
  rw[ZV]at b
  have hy:y=k:=by rw[List.getElem?_range b]at a;cases a;rfl
  subst hy
  have e:=zS x (i+y) 128 191 h
  rw[Int.natCast_add]at e
  have d:(y:Int)<n:=by omega
  have f:y+1<9223372036854775808:=by omega
  have g: -9223372036854775808≤(i:Int)+y∧(i:Int)+y<9223372036854775808:=by omega
  dsimp only[Ln,QI,br,vs,Ay,ln,Ai,cl,wa,wi,br]
  simp only[d,f,g,Yr,Yv,Ck]
  rw[show((128:Int))=((128:Nat):Int)from rfl,show((191:Int))=((191:Nat):Int)from rfl,e,Ya]
  cases CA x (i+y) 128 191<;>rfl) (by rw[ZV];dsimp only[Ln,QI,br,vs,Ay,ln,Ai,cl,wa,wi,br];simp) (by rw[ZV];exact A1 (by omega))
 dsimp only[KW,Wn,Wr,WC,lr,lc]
 rw[o]
 cases c:(List.range n).findIdx? fun k=>!CA x (i+k) 128 191 with
 |none=>
  have:=L3.1 c
  have e:((List.range n).all fun k=>CA x (i+k) 128 191)=true:=Yu.2 fun k a=>by simpa using this k a
  rw[e]
  rfl
 |some j=>
  obtain⟨l,m,_⟩:=Kj.1 c
  have e:((List.range n).all fun k=>CA x (i+k) 128 191)=false:=by
   rw[List.all_eq_false]
   exact⟨_,Gi l,by simpa using m⟩
  rw[e]
  rfl
theorem Jl{c:Prop}[Decidable c]{b:Bool}(n:Nat)(h:b=true↔c){x:Option Int}{m:Nat}(k:x=some (m:Int)):(if b=true then some (n:Int)else x)=some ((if c then n else m:Nat):Int):=by
 by_cases a:c
 ·rw[Yk (h.2 a),Yk a]
 ·rw[Ym (fun e=>a (h.1 e)),Ym a,k]
theorem ZMg(x:ByteArray)(p:Nat)(q:p<x.size)(h:x.size≤1048576):Ps x (p:Int)=some (CI x p:Int):=by
 have t1:∀n:Nat,n≤9→KW x ((p:Int)+1) (n:Int)=_:=fun n d=>ta x (p+1) n h (by omega) d
 have t2:∀n:Nat,n≤9→KW x ((p:Int)+2) (n:Int)=_:=fun n d=>ta x (p+2) n h (by omega) d
 have a:∀lo hi:Nat,MC x ((p:Int)+1) lo hi=_:=fun lo hi=>zS x (p+1) lo hi h
 have a1:=t1 1 (by omega)
 have b:=t1 2 (by omega)
 have a3:=t1 3 (by omega)
 have a4:=t2 1 (by omega)
 have c:=t2 2 (by omega)
 have e:=a 160 191
 have g:=a 128 159
 have i:=a 144 191
 have j:=a 128 143
 have w0:(0:Int)≤p∧(p:Int)<x.size:=by omega
 have o: -9223372036854775808≤(p:Int)+1∧(p:Int)+1<9223372036854775808:=by omega
 have w2: -9223372036854775808≤(p:Int)+2∧(p:Int)+2<9223372036854775808:=by omega
 have k:∀f:Nat→Bool,(List.range 1).all f=f 0:=fun f=>by simp[az]
 have l:∀f:Nat→Bool,(List.range 2).all f=(f 0&&f 1):=fun f=>by simp[az]
 have m:∀f:Nat→Bool,(List.range 3).all f=(f 0&&(f 1&&f 2)):=fun f=>by simp[az,Bool.and_assoc]
 rw[k]at a1 a4
 rw[l]at b c
 rw[m]at a3
 simp only[G3,YI,Nat.reduceAdd,Int.cast_ofNat_Int]at a1 b a3 a4 c e g i j
 dsimp only[Ps,Wf,br,vg,lr,AO,wi,br,R5]
 simp only[w0,o,w2,Ck,Yv,YV,rT,a1,b,a3,a4,c,e,g,i,j,Gn,YT,D5]
 unfold CI
 refine Jl 1 (by simp only[YB];omega) ?_
 refine Jl 2 (by simp only[Yc,YB];grind) ?_
 refine Jl 3 (by simp only[Yc,YB];grind) ?_
 refine Jl 3 (by simp only[Yc,YB];grind) ?_
 refine Jl 3 (by simp only[Yc,YJ,YB,YL];grind) ?_
 refine Jl 4 (by simp only[Yc,YB];grind) ?_
 refine Jl 4 (by simp only[Yc,YB];grind) ?_
 refine Jl 4 (by simp only[Yc,YB];grind) ?_
 rfl
theorem ZO3(x:ByteArray)(p:Nat):CI x p≤4:=by
 unfold CI
 dsimp only
 repeat' (first|split|omega)
theorem ZE0(x:ByteArray):∀(k p n m:Nat),x.size-p=k→x.size-p<n→x.size-p<m→F4 x n p=F4 x m p:=by
 intro k
 induction k using Nat.strongRecOn with
 |_ k c=>
  intro p n m d e hm
  obtain⟨n,rfl⟩:∃j,n=j+1:=⟨n-1,by omega⟩
  obtain⟨m,rfl⟩:∃j,m=j+1:=⟨m-1,by omega⟩
  unfold F4
  by_cases a:p<x.size
  ·rw[Yk a,Yk a]
   by_cases b:CI x p=0
   ·rw[Yk b,Yk b]
   ·rw[Ym b,Ym b]
    exact c (x.size-(p+CI x p)) (by omega) _ _ _ rfl (by omega) (by omega)
  ·rw[Ym a,Ym a]
def KQ(x:ByteArray)(p:Nat):Bool:=F4 x (x.size+1-p) p
theorem ZyB{x:ByteArray}{p:Nat}(h:x.size≤p):KQ x p=true:=by
 unfold KQ
 cases x.size+1-p with
 |zero=>rfl
 |succ n=>unfold F4;rw[Ym (by omega)]
theorem Zs6{x:ByteArray}{p:Nat}(h:p<x.size):KQ x p=if CI x p=0 then false else KQ x (p+CI x p):=by
 unfold KQ
 obtain⟨n,e⟩:∃n,x.size+1-p=n+1:=⟨x.size-p,by omega⟩
 rw[e]
 conv=>lhs;unfold F4
 rw[Yk h]
 by_cases a:CI x p=0
 ·rw[Yk a,Yk a]
 ·rw[Ym a,Ym a]
  by_cases b:p+CI x p<x.size
  ·exact ZE0 x _ _ _ _ rfl (by omega) (by omega)
  ·have c:F4 x n (p+CI x p)=true:=by
    cases n with
    |zero=>rfl
    |succ n=>unfold F4;rw[Ym b]
   have d:F4 x (x.size+1-(p+CI x p)) (p+CI x p)=true:=by
    cases x.size+1-(p+CI x p)with
    |zero=>rfl
    |succ n=>unfold F4;rw[Ym b]
   rw[c,d]
theorem ZLN(x:ByteArray):Kn x=KQ x 0:=rfl
theorem Ztp(x:ByteArray)(h:x.size≤1048576):Mz x=some (Kn x):=by
 have q:Ok (Sum.elim (fun _=>Kn x=true) (fun r:Int=>0≤r∧Kn x=false)) (Al (M2 x) Am 0):=by
  refine BC (fun v:Int=>0≤v∧Kn x=KQ x v.toNat) (fun v:Int=>x.size-v.toNat) ⟨by omega,ZLN x⟩ (A1 (by omega)) fun v c=>?_
  obtain⟨v,rfl⟩:∃n:Nat,v=n:=⟨v.toNat,by omega⟩
  obtain⟨_,c⟩:=c
  rw[YV]at c
  have w:x.size<4611686018427387904:=by omega
  dsimp only[M2,WK,br,vz,vs,Ay,ln,Ai,cl,wi,BF,br]
  by_cases g:v<x.size
  ·have d:(v:Int)<x.size:=by omega
   have hs:=ZO3 x v
   have b:=Zs6 g
   simp only[w,Yv,d,Yr,ZMg x v g h,Ya]
   by_cases f:CI x v=0
   ·rw[Yk f]at b
    simp only[f,Int.ofNat_zero,Int.cast_ofNat_Int,Yr,Yv]
    exact⟨_,rfl,by omega,by rw[c,b]⟩
   ·rw[Ym f]at b
    have j:¬((CI x v:Int)=0):=by omega
    have k: -9223372036854775808≤(v:Int)+CI x v∧(v:Int)+CI x v<9223372036854775808:=by omega
    simp only[j,YU,Yo,YN,k,Ck,Yv]
    refine⟨_,rfl,⟨by omega,?_⟩,?_⟩
    ·rw[c,b,show((v:Int)+CI x v).toNat=v+CI x v by omega]
    ·show x.size-((v:Int)+CI x v).toNat<x.size-(v:Int).toNat
     omega
  ·have d:¬(v:Int)<x.size:=by omega
   simp only[w,Yv,d,YU,Yo,YN]
   exact⟨_,rfl,by rw[c,ZyB (by omega)]⟩
 obtain⟨y,e,a⟩:=q
 dsimp only[Mz,Tq,lr,cl,UR,Wh,WB,Wp,lr,lc]
 rw[e]
 cases y with
 |inl y=>
  have a:Kn x=true:=a
  rw[a]
  rfl
 |inr r=>
  obtain⟨a1,i⟩:=a
  rw[i]
  simp only[Ya,Sum.elim_inr]
  rw[show decide (r<0)=false by simpa using a1]
def ZT(c:Nat)(x:Val):Prop:=∀a,c≤a→Ok (fun b=>b=true) (Jv a x x)
theorem ZT.mono{c d:Nat}{x:Val}(h:ZT c x)(k:c≤d):ZT d x:=fun a b=>h a (D3 k b)
end Go.Proofs.YtjbijbkdiijhaaaGreat
