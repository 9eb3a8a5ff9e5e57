import Derived.Test.YtjbijbkdiijhaaaGreatZb20
import Derived.Test.YtjbijbkdiijhaaaGreatZb19
import Derived.Test.YtjbijbkdiijhaaaGreatZb00
namespace Go.Proofs.YtjbijbkdiijhaaaGreat
set_option linter.all false
open Go Go.Eng
theorem Ex(d:ByteArray)(l:List Prb)(b:Bool)(n e:Int)(h:l.length<549755813887):Ok (fun y=>l.length≤y.length∧y.length≤l.length+1∧(b=true→l.length+1≤y.length)) (BG d l b n e):=by
 dsimp only[BG,bN,dB,eJ,be,vz,vw,wg,lr,lc,ap,BY,fl]
 (repeat' (first|with_reducible (first|refine AS (fun _=>?_) fun _=>?_|refine AM ?_|refine AX ?_ ?_)))<;>first|exact A5|simp_all
theorem J8(d:ByteArray)(l:List Prb)(x:List Nt)(t n:Int)(h:l.length<549755813887)(hx:HX x):Ok (fun y=>l.length≤y.length∧y.length≤l.length+1) (H4 d l x t n):=by
 dsimp only[H4,b7,gM,dj,fv,vz,lr,lc,cl,fl]
 (repeat' (first|with_reducible (first|refine AS (fun _=>?_) fun _=>?_|refine AM ?_)|(with_reducible apply AO;(exact ZVc _ _ hx);intro _ _)|(with_reducible apply AO;(exact Ex _ _ _ _ _ h);intro _ _)|with_reducible refine AX ?_ ?_))<;>exact A5
theorem o96(d:ByteArray)(l:List Prb)(x:List Spn)(t n:Int)(h:l.length<500000000000)(hx:x.length≤1048576):Ok (fun y=>l.length≤y.length∧y.length≤l.length+2*x.length) (Pu d l x t n):=by
 have q:Ok (Sum.elim (fun y:List Prb=>l.length≤y.length∧y.length≤l.length+2*x.length) No) (Am (XM d x t n) Al (0,l)):=by
  refine BF (fun v:Nat×List Prb=>v.1≤x.length∧l.length≤v.2.length∧v.2.length≤l.length+2*v.1) (fun v:Nat×List Prb=>x.length-v.1) ⟨by omega,by simp,by simp⟩ (B1 (by omega)) fun v e=>?_
  obtain⟨i,r⟩:=v
  obtain⟨a,b,c⟩:=e
  dsimp only at a b c
  dsimp only[XM,fA,dJ,bV,gx,ff,gL,br,ix,A1,vz,vs,vg,ln,Ai,lc,wa,wi,fl,An,br]
  (repeat' (first|with_reducible (first|refine AS (fun _=>?_) fun _=>?_|refine AM ?_|refine B0 ?_ fun _ _ _=>?_)|(with_reducible apply AO;(exact Ex _ _ _ _ _ (by omega));intro _ _)|with_reducible (first|refine Gy ?_ fun _=>?_|refine AX ?_ ?_)))<;>exact A5
 dsimp only[Pu,bI,cU,vz,lr,lc,fl]
 (repeat' (first|with_reducible (first|refine AS (fun _=>?_) fun _=>?_|refine AM ?_)|(with_reducible apply BT;(exact q);all_goals(intro _ _;try dsimp only))|with_reducible refine AX ?_ ?_))<;>exact A5
theorem ql(s:Scm)(w:Int)(h:SzS s):Ok (fun y=>y.length≤3145728) (jW s w):=by
 have a:=h.ml
 have b:=h.el
 have j:=h.wl
 have e:Ok (Sum.elim (fun y:List ByteArray=>y.length≤1048576) No) (Am (Xu s w) Al ([],0)):=by
  refine BF (fun v:List ByteArray×Nat=>v.2≤s.messages.length∧v.1.length≤v.2) (fun v:List ByteArray×Nat=>s.messages.length-v.2) ⟨by omega,by simp⟩ (B1 (by omega)) fun v c=>?_
  obtain⟨r,i⟩:=v
  obtain⟨a,b⟩:=c
  dsimp only at a b
  dsimp only[Xu,ed,br,ix,vz,vy,vw,wg,vs,v2,ln,Ai,ap,wa,fl,An,br]
  (repeat' (first|with_reducible (first|refine AS (fun _=>?_) fun _=>?_|refine AM ?_|refine B0 ?_ fun _ _ _=>?_|refine AX ?_ ?_)))<;>exact A5
 have f:∀r:List ByteArray,r.length≤1048576→Ok (Sum.elim (fun y:List ByteArray=>y.length≤2097152) No) (Am (Zf s w) Al (r,0)):=by
  intro r d
  refine BF (fun v:List ByteArray×Nat=>v.2≤s.enums.length∧v.1.length≤1048576+v.2) (fun v:List ByteArray×Nat=>s.enums.length-v.2) ⟨by omega,by simpa using d⟩ (B1 (by omega)) fun v c=>?_
  obtain⟨r,i⟩:=v
  obtain⟨a,b⟩:=c
  dsimp only at a b
  dsimp only[Zf,fq,br,ix,vz,vy,vw,wg,vs,ln,Ai,ap,wa,fl,An,br]
  (repeat' (first|with_reducible (first|refine AS (fun _=>?_) fun _=>?_|refine AM ?_|refine B0 ?_ fun _ _ _=>?_|refine AX ?_ ?_)))<;>exact A5
 have g:∀r:List ByteArray,r.length≤2097152→Ok (Sum.elim (fun y:List ByteArray=>y.length≤3145728) No) (Am (TE s w) Al (r,0)):=by
  intro r d
  refine BF (fun v:List ByteArray×Nat=>v.2≤s.services.length∧v.1.length≤2097152+v.2) (fun v:List ByteArray×Nat=>s.services.length-v.2) ⟨by omega,by simpa using d⟩ (B1 (by omega)) fun v c=>?_
  obtain⟨r,i⟩:=v
  obtain⟨a,b⟩:=c
  dsimp only at a b
  dsimp only[TE,dw,br,ix,vz,vy,vw,wg,vs,ln,Ai,ap,wa,fl,An,br]
  (repeat' (first|with_reducible (first|refine AS (fun _=>?_) fun _=>?_|refine AM ?_|refine B0 ?_ fun _ _ _=>?_|refine AX ?_ ?_)))<;>exact A5
 dsimp only[jW,dk,dR,cT,bu,de,da,vz,vw,lr,lc,fl,fr]
 (repeat' (first|with_reducible (first|refine AS (fun _=>?_) fun _=>?_|refine AM ?_)|(with_reducible apply BT;(exact e);all_goals(intro _ _;try dsimp only))|(with_reducible apply BT;(exact f _ (by assumption));all_goals(intro _ _;try dsimp only))|(with_reducible apply BT;(exact g _ (by assumption));all_goals(intro _ _;try dsimp only))|with_reducible refine AX ?_ ?_))<;>exact A5
theorem o63(l:List ByteArray)(h:l.length≤3145728):Ok Tr (jj l):=by
 have q:Ok Ts (Am (Zh l) Al 1):=by
  refine BF (fun v:Nat=>1≤v∧v≤l.length+1) (fun v:Nat=>l.length+1-v) ⟨by omega,by omega⟩ (by unfold Al;omega) fun v a=>?_
  dsimp only[Zh,eP,br,ix,CI,vz,vs,AA,ln,Ai,wa,wi,An,br]
  (repeat' (first|with_reducible (first|refine AS (fun _=>?_) fun _=>?_|refine AM ?_|refine B0 ?_ fun _ _ _=>?_|refine AX ?_ ?_)))<;>exact A5
 dsimp only[jj,dH,b8,fU,lr,lc]
 (repeat' (first|with_reducible (first|refine AS (fun _=>?_) fun _=>?_|refine AM ?_)|(with_reducible apply BT;(exact q);all_goals(intro _ _;try dsimp only))|with_reducible refine AX ?_ ?_))<;>exact A5
theorem ZU5(l:List ByteArray)(x:ByteArray)(h:l.length≤3145728):Ok Tr (PE l x):=by
 have q:Ok Ts (Am (NF l x) Al 0):=by
  refine BF (fun v:Nat=>v≤l.length) (fun v:Nat=>l.length-v) (by omega) (by unfold Al;omega) fun v a=>?_
  dsimp only[NF,Zj,br,ix,vz,vs,AA,ln,Ai,wa,An,br]
  (repeat' (first|with_reducible (first|refine AS (fun _=>?_) fun _=>?_|refine AM ?_|refine B0 ?_ fun _ _ _=>?_|refine AX ?_ ?_)))<;>exact A5
 dsimp only[PE,XA,XL,XY,lr,lc]
 (repeat' (first|with_reducible (first|refine AS (fun _=>?_) fun _=>?_|refine AM ?_)|(with_reducible apply BT;(exact q);all_goals(intro _ _;try dsimp only))|with_reducible refine AX ?_ ?_))<;>exact A5
theorem o64(l k:List ByteArray)(h:l.length≤3145728)(a:k.length≤3145728):Ok Tr (jA l k):=by
 have q:Ok Ts (Am (XC l k) Al 0):=by
  refine BF (fun v:Nat=>v≤l.length) (fun v:Nat=>l.length-v) (by omega) (by unfold Al;omega) fun v b=>?_
  dsimp only[XC,dX,br,ix,vz,vs,AA,ln,Ai,cl,wa,An,br]
  (repeat' (first|with_reducible (first|refine AS (fun _=>?_) fun _=>?_|refine AM ?_|refine B0 ?_ fun _ _ _=>?_)|(with_reducible apply AO;(exact ZU5 _ _ a);intro _ _)|with_reducible refine AX ?_ ?_))<;>exact A5
 dsimp only[jA,dN,fh,bo,lr,lc]
 (repeat' (first|with_reducible (first|refine AS (fun _=>?_) fun _=>?_|refine AM ?_)|(with_reducible apply BT;(exact q);all_goals(intro _ _;try dsimp only))|with_reducible refine AX ?_ ?_))<;>exact A5
def L3(s:Scm)(f:Fld):Prop:=(f.type.kind=9→∃m∈s.enums,m.name=f.type.name)∧(f.type.kind=10→(∃m∈s.messages,m.name=f.type.name)∧f.card≠3)∧1≤f.type.kind∧f.type.kind≤10
theorem o92(s:Scm)(f:Fld)(h:SzS s):Ok (fun b=>b=true→L3 s f) (jC s f):=by
 unfold L3
 dsimp only[jC,dY,br,wg,lr,cl,br]
 (repeat' (first|with_reducible (first|refine AS (fun _=>?_) fun _=>?_|refine AM ?_)|(with_reducible apply AO;(exact iR _ _ h);intro _ _)|(with_reducible apply AO;(exact Sq _ _ h);intro _ _)|with_reducible refine AX ?_ ?_))
 ·intro a
  have d:f.type.kind=9:=Y4 (by assumption)
  have e:=(show _<_∧(_→∃m∈s.enums,m.name=f.type.name)by assumption).2 (Y4 a)
  exact⟨fun _=>e,fun k=>by omega,by omega,by omega⟩
 ·intro a
  have c:f.type.kind=10:=Y4 (by assumption)
  rw[Yb]at a
  have e:=(show _<_∧(_→∃m∈s.messages,m.name=f.type.name)by assumption).2 (Y4 a.1)
  exact⟨fun k=>by omega,fun _=>⟨e,by simpa using a.2⟩,by omega,by omega⟩
 ·intro a
  simp only[Yb,Yy]at a
  exact⟨fun k=>by omega,fun k=>by omega,by omega,by omega⟩
def Ov(f:Fld):Prop:=f.union≠⟨#[]⟩→f.card=2
theorem o93(m:Msg)(i:Nat)(h:SzM m)(hi:i<m.fields.length):Ok (fun b=>b=true→∀f,m.fields[i]?=some f→Ov f) (jP m i):=by
 have hl:=h.fl
 have q:∀e,Ok (Sum.elim (fun b:Bool=>b=true→0<i) Tr) (Am (X7 m i e) Al (false,0)):=by
  intro e
  refine BF (fun v:Bool×Nat=>v.2≤m.fields.length∧(v.1=true→0<i)) (fun v:Bool×Nat=>m.fields.length-v.2) ⟨by omega,by simp⟩ (B1 (by omega)) fun v k=>?_
  obtain⟨b,j⟩:=v
  obtain⟨c,d⟩:=k
  dsimp only at c d
  dsimp only[X7,fB,br,ix,A1,vz,wg,vs,AA,ln,Ai,wa,An,br]
  (repeat' (first|with_reducible (first|refine AS (fun _=>?_) fun _=>?_|refine AM ?_|refine B0 ?_ fun _ _ _=>?_|refine Gy ?_ fun _=>?_|refine AX ?_ ?_)))<;>exact A5
 dsimp only[jP,ee,fM,eR,br,CI,A1,wg,vg,lr,lc,AP,wi,br]
 (repeat' (first|with_reducible (first|refine AS (fun _=>?_) fun _=>?_|refine AM ?_|refine B0 ?_ fun _ _ _=>?_)|(with_reducible apply BT;(exact q _);all_goals(intro _ _;try dsimp only))|(with_reducible apply AO;(exact LV _ ((h.f _ (by assumption)).u));intro _ _)|(with_reducible apply BB;(exact fun _=>LV _ ((h.f _ (by assumption)).u));intro _)|with_reducible (first|refine Gy ?_ fun _=>?_|refine AX ?_ ?_)))<;>first|(intro h;cases h;done)|(have he:=‹m.fields[i]?=some _›;intro _ f a;rw[he]at a;cases a;intro g;first|exact absurd (Y4 (by assumption)) g|(simp only[YI,YJ,Ki,aj,Yy,YN]at*;omega)|grind)|exact A5
def IX(f:Fld):Prop:=f.hasDefault=true→Ot f.type.kind f.dflt∧f.card=2∧f.union=⟨#[]⟩
theorem o94(s:Scm)(f:Fld)(h:SzS s)(a:SzF f):Ok (fun b=>b=true→IX f) (jS s f):=by
 have g:SzV (.mk 0 0 ⟨#[]⟩ [] [] [] []):=by constructor<;>decide
 have he:∀y,y∈s.enums→y.items.length≤1048576:=fun y hy=>(h.e y hy).il
 have q:∀y:Int,0≤y→y<s.enums.length→Ok Ts (Am (Zu s f y) Al 0):=by
  intro y hy k
  refine BF (fun v:Nat=>v≤1048576) (fun v:Nat=>1048576-v) (by omega) (B1 (by omega)) fun v l=>?_
  dsimp only[Zu,eU,br,ix,CI,vz,wg,vs,AA,ln,Ai,wa,An,br]
  (repeat' (first|with_reducible (first|refine AS (fun _=>?_) fun _=>?_|refine AM ?_|refine B0 ?_ fun _ _ _=>?_|refine AX ?_ ?_)))<;>exact A5
 have key:∀(c d:Bool),((!((!decide (f.card=2))||(!decide (f.union=⟨#[]⟩))))=true→c=true→Ot f.type.kind f.dflt)→((((!decide (f.card=2))||(!decide (f.union=⟨#[]⟩)))||!c)||!d)=false→IX f:=fun c d i j _=>by
  cases c<;>cases d<;>simp_all
 have e:(!f.hasDefault)=true→IX f:=fun i j=>by simp_all
 dsimp only[jS,gy,cQ,b5,br,wg,lr,lc,cl,AP,br]
 (repeat' (first|with_reducible (first|refine AS (fun _=>?_) fun _=>?_|refine AM ?_)|(with_reducible apply BT;(exact q _ Ck Ck);all_goals(intro _ _;try dsimp only))|(with_reducible apply AO;(exact UN _ _ a.d g);intro _ _)|(with_reducible apply AO;(exact U5 _ _ a.d);intro _ _)|(with_reducible apply AO;(exact xG _ a.d);intro _ _)|(with_reducible apply AO;(exact UN _ _ a.d (by solve_by_elim));intro _ _)|(with_reducible apply AO;(exact iR _ _ h);intro _ _)|(with_reducible apply BB;(exact fun _=>UN _ _ a.d g);intro _)|(with_reducible apply BB;(exact fun _=>U5 _ _ a.d);intro _)|(with_reducible apply BB;(exact fun _=>xG _ a.d);intro _)|(with_reducible apply BB;(exact fun _=>UN _ _ a.d (by solve_by_elim));intro _)|(with_reducible apply BB;(exact fun _=>iR _ _ h);intro _)|with_reducible refine AX ?_ ?_))<;>first|(intro _;exact key _ _ (by assumption) (by assumption))|(intro _;exact e (by assumption))|exact A5
theorem o87(s:Scm)(m:Msg)(l:List Bool)(h:SzS s)(hm:SzM m)(hl:l.length=s.messages.length):Ok Tr (jT s m l):=by
 have a:=hm.fl
 have q:Ok Ts (Am (TM s m l) Al 0):=by
  refine BF (fun v:Nat=>v≤m.fields.length) (fun v:Nat=>m.fields.length-v) (by omega) (B1 (by omega)) fun v b=>?_
  dsimp only[TM,bP,br,ix,A1,vz,wg,vs,AA,ln,Ai,cl,wa,An,br]
  (repeat' (first|with_reducible (first|refine AS (fun _=>?_) fun _=>?_|refine AM ?_|refine B0 ?_ fun _ _ _=>?_)|(with_reducible apply AO;(exact Sq _ _ h);intro _ _)|with_reducible (first|refine Gy ?_ fun _=>?_|refine AX ?_ ?_)))<;>exact A5
 dsimp only[jT,a5,gJ,gC,lr,lc]
 (repeat' (first|with_reducible (first|refine AS (fun _=>?_) fun _=>?_|refine AM ?_)|(with_reducible apply BT;(exact q);all_goals(intro _ _;try dsimp only))|with_reducible refine AX ?_ ?_))<;>exact A5
theorem xq(s:Scm)(m:Msg)(l:List Bool)(h:SzS s)(hm:SzM m)(hl:l.length=s.messages.length):Ok Tr (Vg s m l):=by
 have a:=hm.fl
 have q:Ok Ts (Am (Wu s m l) Al 0):=by
  refine BF (fun v:Nat=>v≤m.fields.length) (fun v:Nat=>m.fields.length-v) (by omega) (B1 (by omega)) fun v b=>?_
  dsimp only[Wu,lE,br,ix,vz,wg,vs,vg,AA,ln,Ai,cl,wa,AI,Fq,fl,An,br,AI]
  (repeat' (first|with_reducible (first|refine AS (fun _=>?_) fun _=>?_|refine AM ?_|refine B0 ?_ fun _ _ _=>?_)|(with_reducible apply AO;(exact Sq _ _ h);intro _ _)|with_reducible refine AX ?_ ?_))<;>exact A5
 dsimp only[Vg,lV,lS,l5,vz,lr,lc,fl]
 (repeat' (first|with_reducible (first|refine AS (fun _=>?_) fun _=>?_|refine AM ?_)|(with_reducible apply BT;(exact q);all_goals(intro _ _;try dsimp only))|with_reducible refine AX ?_ ?_))<;>exact A5
theorem o65(s:Scm)(h:SzS s):Ok (fun y=>y.length=s.messages.length) (je s):=by
 have g:=h.ml
 have q:∀(v:Nat) (r:List Bool),r.length=s.messages.length→Ok (Sum.elim (fun y:Bool×List Bool=>y.2.length=s.messages.length) No) (Am (XS s v) Al (false,0,r)):=by
  intro w r e
  refine BF (fun v:Bool×Nat×List Bool=>v.2.1≤s.messages.length∧v.2.2.length=s.messages.length) (fun v:Bool×Nat×List Bool=>s.messages.length-v.2.1) ⟨by simp,e⟩ (B1 (by simp;omega)) fun v d=>?_
  obtain⟨b,i,r⟩:=v
  obtain⟨c,a⟩:=d
  dsimp only at c a
  dsimp only[XS,eL,br,A1,vz,vw,wg,vs,v2,ln,Ai,J3,wa,ir,ca,st,rn,fl,An,br]
  (repeat' (first|with_reducible (first|refine AS (fun _=>?_) fun _=>?_|refine AM ?_|refine B0 ?_ fun _ _ _=>?_)|(with_reducible apply AO;(exact xq _ _ _ h (h.m _ (by grind)) a);intro _ _)|(with_reducible apply BB;(exact fun _=>xq _ _ _ h (h.m _ (by grind)) a);intro _)|with_reducible (first|refine Gy ?_ fun _=>?_|refine AX ?_ ?_)))<;>exact A5
 have f:Ok (Sum.elim (fun y:List Bool=>y.length=s.messages.length) No) (Am (Zc s) Al (true,0,List.replicate s.messages.length false)):=by
  refine BF (fun v:Bool×Nat×List Bool=>v.2.1≤s.messages.length∧v.2.2.length=s.messages.length) (fun v:Bool×Nat×List Bool=>s.messages.length-v.2.1) ⟨by simp,by simp⟩ (B1 (by simp;omega)) fun v d=>?_
  obtain⟨b,i,r⟩:=v
  obtain⟨c,a⟩:=d
  dsimp only at c a
  dsimp only[Zc,fI,fa,cG,br,vz,wg,vs,v2,ln,Ai,lc,wa,fl,An,br]
  (repeat' (first|with_reducible (first|refine AS (fun _=>?_) fun _=>?_|refine AM ?_)|(with_reducible apply BT;(exact q _ _ a);all_goals(intro _ _;try dsimp only))|with_reducible refine AX ?_ ?_))<;>exact A5
 dsimp only[je,eQ,cJ,fm,vz,wg,lr,lc,ms,fl,fr,An]
 (repeat' (first|with_reducible (first|refine AS (fun _=>?_) fun _=>?_|refine AM ?_)|(with_reducible apply BT;(exact f);all_goals(intro _ _;try dsimp only))|with_reducible refine AX ?_ ?_))<;>exact A5
end Go.Proofs.YtjbijbkdiijhaaaGreat
namespace Go.Proofs.YtjbijbkdiijhaaaGreat
set_option linter.all false
open Go Go.Eng
def Df(l:List Fld)(n:Nat):Prop:=∀(i:Nat) (a b:Fld),i+1<n→l[i]?=some a→l[i+1]?=some b→a.num<b.num
theorem ZxJ{l:List Fld}{v:Nat}{a b:Fld}(h:Df l v)(g:l[v]?=some a)(j:0<v→l[v-1]?=some b∧b.num<a.num):Df l (v+1):=by
 intro i x y hi hx hy
 by_cases e:i+1<v
 ·exact h i x y e hx hy
 ·have d:i+1=v:=by omega
  have f:v-1=i:=by omega
  rw[d]at hy
  obtain⟨c,k⟩:=j (by omega)
  rw[f]at c
  rw[g]at hy
  rw[c]at hx
  cases hx
  cases hy
  exact k
structure GdM0 (s:Scm) (m:Msg):Prop where
 asc:Df m.fields m.fields.length
 df:∀(j:Nat) (f:Fld),m.fields[j]?=some f→IX f∧LY f∧L3 s f∧Ov f
def L2(e:Enm):Prop:=∃x,e.items[0]?=some x∧x.num=0
structure GdM (s:Scm) (m:Msg):Prop where
 asc:Df m.fields m.fields.length
 df:∀(j:Nat) (f:Fld),m.fields[j]?=some f→IX f∧LY f∧L3 s f∧Ov f
 en:∀(j:Nat) (e:Enm),s.enums[j]?=some e→L2 e
theorem ZSI(x:Msg):x.fields.length+x.reserved.length+x.gone.length≤Ar (AR x):=by
 have a:=CD (e:=AB) x.fields
 have b:=CD (e:=CH) x.reserved
 have c:=CD (e:=Bx) x.gone
 simp only[AR,Ar,bk]
 omega
theorem ZRA(x:Enm):x.items.length+x.reserved.length≤Ar (CA x):=by
 have a:=CD (e:=Gc) x.items
 have b:=CD (e:=CH) x.reserved
 simp only[CA,Ar,bk]
 omega
theorem ZRE(x:Svc):x.methods.length≤Ar (Dr x):=by
 have a:=CD (e:=Hz) x.methods
 simp only[Dr,Ar,bk]
 omega
theorem yG(d:ByteArray)(b:Bool)(n e:Int):Ok (fun y=>y.length≤1) (BG d [] b n e):=(Ex d [] b n e (by simp)).mono fun y h=>by simpa using h.2.1
theorem o66(s:Scm)(m:Msg)(l:List Bool)(h:SzS s)(hm:SzM m)(hl:l.length=s.messages.length):Ok (fun y=>y.length≤20*(Ar (AR m)+1)∧(y.length=0→GdM0 s m)) (jo s m l):=by
 have g:=ZSI m
 have G:=hm.fl
 have q:=hm.r
 have B:=hm.gl
 have E:∀(v:Nat) (r:List Prb) (e:Fld),v≤m.fields.length→Ok (Sum.elim Tr No) (Am (T3 s m l v r e) Al (false,0)):=by
  intro w r e I
  refine BF (fun v:Bool×Nat=>v.2≤w) (fun v:Bool×Nat=>w-v.2) (by simp) (B1 (by omega)) fun v k=>?_
  obtain⟨b,i⟩:=v
  dsimp only at k
  dsimp only[T3,dS,br,ix,vz,wg,vs,ln,Ai,wa,fl,br]
  (repeat' (first|with_reducible (first|refine AS (fun _=>?_) fun _=>?_|refine AM ?_|refine B0 ?_ fun _ _ _=>?_|refine AX ?_ ?_)))<;>exact A5
 have D:∀a:List Prb,a.length≤9→Ok (Sum.elim (fun y:List Prb=>y.length≤9+10*m.fields.length∧(y.length=0→GdM0 s m)) No) (Am (ZC s m l) Al (0,a)):=by
  intro a o
  refine BF (fun v:Nat×List Prb=>v.1≤m.fields.length∧v.2.length≤9+10*v.1∧(v.2.length=0→Df m.fields v.1∧∀(j:Nat) (f:Fld),j<v.1→m.fields[j]?=some f→IX f∧LY f∧L3 s f∧Ov f)) (fun v:Nat×List Prb=>m.fields.length-v.1) ⟨by simp,by simpa using o,fun _=>⟨fun i x y hi=>by simp at hi,fun j f n=>by simp at n⟩⟩ (B1 (by omega)) fun v k=>?_
  obtain⟨v,r⟩:=v
  obtain⟨t,u,c⟩:=k
  dsimp only at t u c
  dsimp only[ZC,mm,mb,nT,nE,mU,pk,nM,og,mL,oI,oi,nK,nJ,nh,ph,oy,dl,fH,dM,a7,fs,aX,fD,fE,br,ix,A1,vz,wg,vs,vg,ln,Ai,lc,cl,AP,wa,wi,fl,An,br]
  (repeat' (first|with_reducible (first|refine AS (fun _=>?_) fun _=>?_|refine AM ?_|refine B0 ?_ fun _ _ _=>?_)|(with_reducible apply BT;(exact E _ _ _ (by omega));all_goals(intro _ _;try dsimp only))|(with_reducible apply AO;(exact Ex _ _ _ _ _ (by omega));intro _ _)|(with_reducible apply AO;(exact LV _ (hm.f _ (by assumption)).n);intro _ _)|(with_reducible apply AO;(exact qn _ _ q);intro _ _)|(with_reducible apply AO;(exact o86 _ _ B);intro _ _)|(with_reducible apply AO;(exact o91 _);intro _ _)|(with_reducible apply AO;(exact o92 _ _ h);intro _ _)|(with_reducible apply AO;(exact o93 _ _ hm Ck);intro _ _)|(with_reducible apply AO;(exact o94 _ _ h (hm.f _ (by assumption)));intro _ _)|(with_reducible apply AO;(exact J8 _ _ _ _ _ (by omega) (hm.f _ (by assumption)).o);intro _ _)|(with_reducible apply BB;(exact fun _=>Ex _ _ _ _ _ (by omega));intro _)|(with_reducible apply BB;(exact fun _=>LV _ (hm.f _ (by assumption)).n);intro _)|(with_reducible apply BB;(exact fun _=>qn _ _ q);intro _)|(with_reducible apply BB;(exact fun _=>o86 _ _ B);intro _)|(with_reducible apply BB;(exact fun _=>o91 _);intro _)|(with_reducible apply BB;(exact fun _=>o92 _ _ h);intro _)|(with_reducible apply BB;(exact fun _=>o93 _ _ hm Ck);intro _)|(with_reducible apply BB;(exact fun _=>o94 _ _ h (hm.f _ (by assumption)));intro _)|(with_reducible apply BB;(exact fun _=>J8 _ _ _ _ _ (by omega) (hm.f _ (by assumption)).o);intro _)|with_reducible (first|refine Gy ?_ fun _=>?_|refine AX ?_ ?_)))
  all_goals try exact Ck
  have hx:=‹decide (0<(v:Int))=true→m.fields[((v:Int)-1).toNat]?=some (m.fields.getD ((v:Int)-1).toNat Rw.z)∧_›
  have he:=‹m.fields[v]?=some _›
  dsimp only
  refine⟨⟨by exact Ck,by omega,fun p=>⟨ZxJ (b:=m.fields.getD ((v:Int)-1).toNat Rw.z) (c (by omega)).1 he fun k=>?_,fun j f n d=>?_⟩⟩,by exact Ck⟩
  have ev:((v:Int)-1).toNat=v-1:=by omega
  refine⟨ev▸(hx (Yn (by omega))).1,?_⟩
  rcases Int.lt_or_le (m.fields.getD ((v:Int)-1).toNat Rw.z).num (Fld.num _)with A|z
  ·exact A
  ·exfalso
   have H:=Yb _ _▸And.intro (Yn (show(0:Int)<v by omega)) (Yn z)
   grind
  ·rcases Nat.lt_or_eq_of_le (Nat.le_of_lt_succ n)with n|rfl
   ·exact(c (by omega)).2 j f n d
   ·rw[he]at d
    cases d
    refine⟨(show _=true→IX _ by assumption) (OA fun g=>?_),(show _=true→LY _ by assumption) (OA fun g=>?_),(show _=true→L3 s _ by assumption) (OA fun g=>?_),(show _=true→∀f,m.fields[j]?=some f→Ov f by assumption) (OA fun g=>?_) _ he⟩
    all_goals(
     rw[Bool.not_eq_true]at g
     subst g
     simp only[CU,Ti]at*
     omega)
  have C:v=m.fields.length:=by exact Ck
  subst C
  exact⟨by exact Ck,fun p=>⟨(c p).1,fun j f d=>(c p).2 j f (Ya.1 d).1 d⟩⟩
 have F:∀a:List Prb,a.length≤20000000→Ok (Sum.elim (fun y:List Prb=>a.length≤y.length∧y.length≤a.length+m.gone.length) No) (Am (Za s m l) Al (0,a)):=by
  intro a o
  refine BF (fun v:Nat×List Prb=>v.1≤m.gone.length∧v.2.length≤a.length+v.1∧a.length≤v.2.length) (fun v:Nat×List Prb=>m.gone.length-v.1) ⟨by simp,by simp,by simp⟩ (B1 (by omega)) fun v k=>?_
  obtain⟨v,r⟩:=v
  obtain⟨t,u,c⟩:=k
  dsimp only at t u c
  dsimp only[Za,oR,mi,nU,pR,br,ix,vz,wg,vs,ln,Ai,lc,cl,wa,fl,An,br]
  (repeat' (first|with_reducible (first|refine AS (fun _=>?_) fun _=>?_|refine AM ?_|refine B0 ?_ fun _ _ _=>?_)|(with_reducible apply AO;(exact Ex _ _ _ _ _ (by omega));intro _ _)|(with_reducible apply AO;(exact qo _ (hm.g _ (by assumption)));intro _ _)|with_reducible refine AX ?_ ?_))<;>exact A5
 dsimp only[jo,ou,pn,mu,mG,n1,oY,mO,nP,nv,nN,oo,oV,nR,pP,vz,vy,vw,wg,lr,lc,cl,fl,fr,An]
 (repeat' (first|with_reducible (first|refine AS (fun _=>?_) fun _=>?_|refine AM ?_)|(with_reducible apply BT;(exact D _ Ck);all_goals(intro _ _;try dsimp only))|(with_reducible apply BT;(exact F _ (by omega));all_goals(intro _ _;try dsimp only))|(with_reducible apply AO;(exact qm _ hm.n);intro _ _)|(with_reducible apply AO;(exact yG _ _ _ _);intro _ _)|(with_reducible apply AO;(exact Ex _ _ _ _ _ (by omega));intro _ _)|(with_reducible apply AO;(exact J8 _ _ _ _ _ (by omega) hm.o);intro _ _)|(with_reducible apply AO;(exact o96 _ _ _ _ _ (by omega) q);intro _ _)|(with_reducible apply AO;(exact o87 _ _ _ h hm hl);intro _ _)|with_reducible refine AX ?_ ?_))<;>exact A5
theorem o67(e:Enm)(hm:SzE e):Ok (fun y=>y.length≤20*(Ar (CA e)+1)∧(y.length=0→L2 e)) (jx e):=by
 have A:=ZRA e
 have z:=hm.il
 have g:=hm.r
 have q:∀(v:Nat) (r:List Prb) (x:Itm),v≤e.items.length→Ok (Sum.elim Tr No) (Am (Tx e v r x) Al (false,0)):=by
  intro w r x B
  refine BF (fun v:Bool×Nat=>v.2≤w) (fun v:Bool×Nat=>w-v.2) (by simp) (B1 (by omega)) fun v f=>?_
  obtain⟨b,i⟩:=v
  dsimp only at f
  dsimp only[Tx,cu,br,ix,vz,wg,vs,ln,Ai,wa,fl,br]
  (repeat' (first|with_reducible (first|refine AS (fun _=>?_) fun _=>?_|refine AM ?_|refine B0 ?_ fun _ _ _=>?_|refine AX ?_ ?_)))<;>exact A5
 have p:∀a:List Prb,a.length≤9→Ok (Sum.elim (fun y:List Prb=>a.length≤y.length∧y.length≤9+10*e.items.length) No) (Am (X9 e) Al (0,a)):=by
  intro a d
  refine BF (fun v:Nat×List Prb=>v.1≤e.items.length∧a.length≤v.2.length∧v.2.length≤9+10*v.1) (fun v:Nat×List Prb=>e.items.length-v.1) ⟨by simp,by simp,by simpa using d⟩ (B1 (by omega)) fun v f=>?_
  obtain⟨v,r⟩:=v
  obtain⟨m,o,n⟩:=f
  dsimp only at m n o
  dsimp only[X9,pI,nr,m7,mD,oz,mE,mT,nX,fi,eq,eW,gD,eu,bM,eN,cB,br,ix,A1,vz,wg,vs,vg,ln,Ai,lc,cl,wa,wi,fl,An,br]
  (repeat' (first|with_reducible (first|refine AS (fun _=>?_) fun _=>?_|refine AM ?_|refine B0 ?_ fun _ _ _=>?_)|(with_reducible apply BT;(exact q _ _ _ (by omega));all_goals(intro _ _;try dsimp only))|(with_reducible apply AO;(exact Ex _ _ _ _ _ (by omega));intro _ _)|(with_reducible apply AO;(exact LV _ (hm.i _ (by assumption)).n);intro _ _)|(with_reducible apply AO;(exact qn _ _ g);intro _ _)|(with_reducible apply AO;(exact J8 _ _ _ _ _ (by omega) (hm.i _ (by assumption)).o);intro _ _)|with_reducible (first|refine Gy ?_ fun _=>?_|refine AX ?_ ?_)))<;>exact A5
 dsimp only[jx,mc,pj,n7,nw,oq,nY,oO,oT,mr,nL,nz,pD,mz,A1,vz,vy,vw,wg,lr,lc,cl,fl,fr,An]
 (repeat' (first|with_reducible (first|refine AS (fun _=>?_) fun _=>?_|refine AM ?_)|(with_reducible apply BT;(exact p _ Ck);all_goals(intro _ _;try dsimp only))|(with_reducible apply AO;(exact qm _ hm.n);intro _ _)|(with_reducible apply AO;(exact Ex _ _ _ _ _ Ck);intro _ _)|(with_reducible apply AO;(exact J8 _ _ _ _ _ (by omega) hm.o);intro _ _)|(with_reducible apply AO;(exact o96 _ _ _ _ _ (by omega) g);intro _ _)|with_reducible (first|refine Gy ?_ fun _=>?_|refine AX ?_ ?_)))
 all_goals try exact A5
 rename_i C a0 D a1 E k x F a3 b a4 G s H t
 refine⟨by exact Ck,fun u=>?_⟩
 have l:¬(e.items.length:Int)<1:=fun h=>by
  have:=k.2.2 (by simp only[h,Yr,OH])
  omega
 have j:(0:Int)<e.items.length:=by omega
 refine⟨_,(x (Yn j)).1,Decidable.not_not.1 fun c=>?_⟩
 have:=a3.2.2 (by simp only[j,c,Yr,YV,CU,OD])
 omega
theorem o68(s:Scm)(e:Svc)(h:SzS s)(hm:SzW e):Ok (fun y=>y.length≤20*(Ar (Dr e)+1)) (jm s e):=by
 have j:=ZRE e
 have i:=hm.ml
 have g:∀b:List Prb,b.length≤9→Ok (Sum.elim (fun y:List Prb=>y.length≤9+10*e.methods.length) No) (Am (T1 s e) Al (0,b)):=by
  intro b a
  refine BF (fun v:Nat×List Prb=>v.1≤e.methods.length∧v.2.length≤9+10*v.1) (fun v:Nat×List Prb=>e.methods.length-v.1) ⟨by simp,by simpa using a⟩ (B1 (by omega)) fun v f=>?_
  obtain⟨v,r⟩:=v
  obtain⟨c,d⟩:=f
  dsimp only at c d
  dsimp only[T1,mA,nB,nO,mY,bt,aW,eG,dV,gk,bm,b6,cX,cY,br,ix,A1,vz,wg,vs,vg,ln,Ai,lc,cl,AP,wa,wi,fl,An,br]
  (repeat' (first|with_reducible (first|refine AS (fun _=>?_) fun _=>?_|refine AM ?_|refine B0 ?_ fun _ _ _=>?_)|(with_reducible apply AO;(exact Ex _ _ _ _ _ (by omega));intro _ _)|(with_reducible apply AO;(exact Sq _ _ h);intro _ _)|(with_reducible apply AO;(exact LV _ (hm.m _ (by assumption)).n);intro _ _)|(with_reducible apply AO;(exact J8 _ _ _ _ _ (by omega) (hm.m _ (by assumption)).o);intro _ _)|(with_reducible apply BB;(exact fun _=>Ex _ _ _ _ _ (by omega));intro _)|(with_reducible apply BB;(exact fun _=>Sq _ _ h);intro _)|(with_reducible apply BB;(exact fun _=>LV _ (hm.m _ (by assumption)).n);intro _)|(with_reducible apply BB;(exact fun _=>J8 _ _ _ _ _ (by omega) (hm.m _ (by assumption)).o);intro _)|with_reducible (first|refine Gy ?_ fun _=>?_|refine AX ?_ ?_)))<;>exact A5
 dsimp only[jm,oH,od,pm,o1,o7,nZ,nV,o2,mn,vz,vw,wg,lr,lc,cl,fl,fr,An]
 (repeat' (first|with_reducible (first|refine AS (fun _=>?_) fun _=>?_|refine AM ?_)|(with_reducible apply BT;(exact g _ Ck);all_goals(intro _ _;try dsimp only))|(with_reducible apply AO;(exact qm _ hm.n);intro _ _)|(with_reducible apply AO;(exact yG _ _ _ _);intro _ _)|(with_reducible apply AO;(exact Ex _ _ _ _ _ (by omega));intro _ _)|(with_reducible apply AO;(exact J8 _ _ _ _ _ (by omega) hm.o);intro _ _)|with_reducible refine AX ?_ ?_))<;>exact A5
structure Few (s:Scm):Prop where
 m:s.messages.length≤150
 e:s.enums.length≤150
 w:s.services.length≤150
theorem o37{s:Scm}(hs:Ar (Au s)≤1048576):Ok (fun y=>y.length=0→(∀(i:Nat) (m:Msg),s.messages[i]?=some m→GdM0 s m)∧∀(i:Nat) (e:Enm),s.enums[i]?=some e→L2 e) (jE s):=by
 have h:=Gk hs
 have u:=h.ml
 have w:=h.el
 have x:=h.wl
 have t:AU (s.messages.map AR)+AU (s.enums.map CA)+AU (s.services.map Dr)≤1048576:=by
  simp only[Au,Ar,bk]at hs
  omega
 have n:Ok (Sum.elim (fun y:List Prb=>y.length≤9) No) (Am (X8 s) Al (1,[])):=by
  refine BF (fun v:Nat×List Prb=>1≤v.1∧v.1≤4∧v.2.length≤2*v.1) (fun v:Nat×List Prb=>4-v.1) ⟨by simp,by simp,by simp⟩ (B1 (by omega)) fun v g=>?_
  obtain⟨v,r⟩:=v
  obtain⟨c,d,f⟩:=g
  dsimp only at c d f
  dsimp only[X8,di,bE,dx,fX,aY,fQ,db,br,vz,wg,vs,ln,Ai,lc,cl,wa,fl,An,br]
  (repeat' (first|with_reducible (first|refine AS (fun _=>?_) fun _=>?_|refine AM ?_)|(with_reducible apply AO;(exact ql _ _ h);intro _ _)|(with_reducible apply AO;(exact Ex _ _ _ _ _ (by omega));intro _ _)|(with_reducible apply AO;(exact o63 _ (by assumption));intro _ _)|with_reducible refine AX ?_ ?_))<;>exact A5
 have o:∀(a:List Prb) (l:List Bool),a.length≤10→l.length=s.messages.length→Ok (Sum.elim (fun y:List Prb=>y.length≤20971540∧(y.length=0→∀(i:Nat) (m:Msg),s.messages[i]?=some m→GdM0 s m)) No) (Am (TV s l) Al (0,a)):=by
  intro a l b hl
  refine BF (fun v:Nat×List Prb=>v.1≤s.messages.length∧v.2.length≤10+20*AU ((s.messages.take v.1).map AR)∧(v.2.length=0→∀(i:Nat) (m:Msg),i<v.1→s.messages[i]?=some m→GdM0 s m)) (fun v:Nat×List Prb=>s.messages.length-v.1) ⟨by simp,Ed b (OL _ _),fun _ i m hi=>by simp at hi⟩ (B1 (by omega)) fun v g=>?_
  obtain⟨v,r⟩:=v
  obtain⟨c,d,f⟩:=g
  dsimp only at c d f
  have a1:=MZ AR s.messages v
  have j:=MZ AR s.messages (v+1)
  dsimp only[TV,pU,cI,RR,br,ix,vz,wg,vs,ln,Ai,lc,aq,cl,wa,tw,fl,An,br]
  (repeat' (first|with_reducible (first|refine AS (fun _=>?_) fun _=>?_|refine AM ?_|refine B0 ?_ fun _ _ _=>?_)|(with_reducible apply AO;(exact o66 _ _ _ h (h.m _ (by assumption)) hl);intro _ _)|with_reducible refine AX ?_ ?_))<;>first|(have a3:=VO AR ‹s.messages[v]?=some _›;exact A5)|exact A5
 have p:∀a:List Prb,a.length≤20971540→Ok (Sum.elim (fun y:List Prb=>a.length≤y.length∧y.length≤41943080∧(y.length=0→∀(i:Nat) (e:Enm),s.enums[i]?=some e→L2 e)) No) (Am (Tw s) Al (0,a)):=by
  intro a b
  refine BF (fun v:Nat×List Prb=>v.1≤s.enums.length∧v.2.length≤20971540+20*AU ((s.enums.take v.1).map CA)∧a.length≤v.2.length∧(v.2.length=0→∀(i:Nat) (e:Enm),i<v.1→s.enums[i]?=some e→L2 e)) (fun v:Nat×List Prb=>s.enums.length-v.1) ⟨by simp,Ed b (OL _ _),by simp,fun _ i e hi=>by simp at hi⟩ (B1 (by omega)) fun v g=>?_
  obtain⟨v,r⟩:=v
  obtain⟨c,d,f,k⟩:=g
  dsimp only at c d f k
  have a1:=MZ CA s.enums v
  have j:=MZ CA s.enums (v+1)
  dsimp only[Tw,mX,mW,Rt,br,ix,vz,wg,vs,ln,Ai,lc,aq,cl,wa,tw,fl,An,br]
  (repeat' (first|with_reducible (first|refine AS (fun _=>?_) fun _=>?_|refine AM ?_|refine B0 ?_ fun _ _ _=>?_)|(with_reducible apply AO;(exact o67 _ (h.e _ (by assumption)));intro _ _)|with_reducible refine AX ?_ ?_))<;>first|(have a3:=VO CA ‹s.enums[v]?=some _›;exact A5)|exact A5
 have q:∀a:List Prb,a.length≤41943080→Ok (Sum.elim (fun y:List Prb=>a.length≤y.length) No) (Am (Tz s) Al (0,a)):=by
  intro a b
  refine BF (fun v:Nat×List Prb=>v.1≤s.services.length∧v.2.length≤41943080+20*AU ((s.services.take v.1).map Dr)∧a.length≤v.2.length) (fun v:Nat×List Prb=>s.services.length-v.1) ⟨by simp,Ed b (OL _ _),by simp⟩ (B1 (by omega)) fun v g=>?_
  obtain⟨v,r⟩:=v
  obtain⟨c,d,f⟩:=g
  dsimp only at c d f
  have a1:=MZ Dr s.services v
  have j:=MZ Dr s.services (v+1)
  dsimp only[Tz,nn,pg,Rq,br,ix,vz,wg,vs,ln,Ai,lc,aq,cl,wa,tw,fl,An,br]
  (repeat' (first|with_reducible (first|refine AS (fun _=>?_) fun _=>?_|refine AM ?_|refine B0 ?_ fun _ _ _=>?_)|(with_reducible apply AO;(exact o68 _ _ h (h.w _ (by assumption)));intro _ _)|with_reducible refine AX ?_ ?_))<;>first|(have a3:=VO Dr ‹s.services[v]?=some _›;exact A5)|exact A5
 dsimp only[jE,pC,nd,pE,m5,oJ,mh,mF,o3,pe,oC,ox,oL,vz,vw,wg,lr,lc,cl,AP,fl,fr]
 (repeat' (first|with_reducible (first|refine AS (fun _=>?_) fun _=>?_|refine AM ?_)|(with_reducible apply BT;(exact n);all_goals(intro _ _;try dsimp only))|(with_reducible apply BT;(exact o _ _ (by omega) (by assumption));all_goals(intro _ _;try dsimp only))|(with_reducible apply BT;(exact p _ (by omega));all_goals(intro _ _;try dsimp only))|(with_reducible apply BT;(exact q _ (by omega));all_goals(intro _ _;try dsimp only))|(with_reducible apply AO;(exact ql _ _ h);intro _ _)|(with_reducible apply AO;(exact o64 _ _ (by assumption) (by assumption));intro _ _)|(with_reducible apply AO;(exact o65 _ h);intro _ _)|(with_reducible apply AO;(exact Ex _ _ _ _ _ (by omega));intro _ _)|(with_reducible apply BB;(exact fun _=>ql _ _ h);intro _)|(with_reducible apply BB;(exact fun _=>o64 _ _ (by assumption) (by assumption));intro _)|(with_reducible apply BB;(exact fun _=>o65 _ h);intro _)|(with_reducible apply BB;(exact fun _=>Ex _ _ _ _ _ (by omega));intro _)|with_reducible refine AX ?_ ?_))<;>exact A5
theorem o16{s:Scm}(hs:Ar (Au s)≤1048576):Ok (fun b=>b=true→∀(i:Nat) (m:Msg),s.messages[i]?=some m→GdM s m) (Vh s):=by
 have k:Ok (fun b=>b=true→(∀(i:Nat) (m:Msg),s.messages[i]?=some m→GdM0 s m)∧∀(i:Nat) (e:Enm),s.enums[i]?=some e→L2 e) (Vh s):=by
  dsimp only[Vh,iu,vz,wg,lr,cl,An]
  (repeat' (first|with_reducible (first|refine AS (fun _=>?_) fun _=>?_|refine AM ?_)|(with_reducible apply AO;(exact o37 hs);intro _ _)|with_reducible refine AX ?_ ?_))<;>exact A5
 exact k.mono fun b h a i m hm=>⟨((h a).1 i m hm).asc,((h a).1 i m hm).df,(h a).2⟩
abbrev A3(v:Val):Prop:=Ar (Ag v)≤1048576
theorem Sa{v x:Val}(h:A3 v)(hx:x∈v.list):A3 x:=by
 have a:=C8 (e:=Bb) hx
 rw[Gx]at a
 unfold A3 at*
 conv at h=>unfold Ag
 simp only[Ar,bk]at h
 omega
theorem GE{v:Val}{x:Pr}(h:A3 v)(hx:x∈v.pairs):A3 x.key∧A3 x.val:=by
 have a:=C8 (e:=Ap) hx
 have e:Ap x=Ag x.key++Ag x.val:=by rw[Ls];rfl
 rw[e,Na]at a
 unfold A3 at*
 conv at h=>unfold Ag
 simp only[Ar,bk]at h
 omega
theorem J2{v:Val}{x:Slt}(h:A3 v)(hx:x∈v.slots):A3 x.val:=by
 have a:=C8 (e:=Aq) hx
 have e:Aq x=D.int .i64 x.num::Ag x.val:=by rw[La];rfl
 rw[e,Ar]at a
 unfold A3 at*
 conv at h=>unfold Ag
 simp only[Ar,bk]at h
 omega
theorem lb{α:Type}(p:α→Bool):∀l:List α,l.find? p=(l.findIdx? p).bind fun i=>l[i]?
 |[]=>rfl
 |x::l=>by
  rw[List.find?_cons,List.findIdx?_cons]
  cases h:p x with
  |true=>simp
  |false=>
   rw[lb p l]
   cases List.findIdx? p l<;>simp
def C2{α:Type}[Inhabited α](l:List α)(z:α)(p:α→Bool):α×Bool:=(l.find? p).elim (z,false) fun x=>(x,true)
theorem Qf{α:Type}[Inhabited α](l:List α)(z:α)(p:α→Bool):C2 l z p=match l.findIdx? p with|some i=>(l.getD i default,true)|none=>(z,false):=by
 unfold C2
 rw[lb]
 cases h:l.findIdx? p with
 |none=>rfl
 |some i=>
  have:=(Mc.1 h).1
  simp[this]
def zM:Msg:=.mk ⟨#[]⟩ [] [] [] []
def zF:Fld:=.mk 0 ⟨#[]⟩ 0 0 (.mk 0 ⟨#[]⟩) ⟨#[]⟩ false (.mk 0 0 ⟨#[]⟩ [] [] [] []) []
theorem qg(s:Scm)(n:ByteArray)(h:s.messages.length≤1048576):MK s n=some (C2 s.messages zM fun m=>decide (m.name=n)):=by
 have c:=Fa (B:=R0 s n) (N:=Al) s.messages (fun m=>decide (m.name=n)) (fun i=>(s.messages.getD i default,true)) () (fun i x hx=>by
  have a:=BS hx
  have d:=(Ya.1 hx).1
  have b:i+1<9223372036854775808:=by omega
  dsimp only[R0,T7,br,ix,vz,wg,vs,AA,ln,Ai,wa,An,br]
  simp only[a,b,hx,Yr,Yv,Yc,Yg,YU]
  cases decide (x.name=n)<;>simp) (by simp[R0,T7,br,ix,vz,wg,vs,AA,ln,Ai,wa,An,br]) (A2 (by omega))
 dsimp only[MK,bd,dL,gK,wg,lr,lc]
 rw[c,Qf]
 cases s.messages.findIdx? fun m=>decide (m.name=n)<;>rfl
theorem m84(l:List Msg)(n:ByteArray)(h:l.length≤1048576):Vf l (fun z=>MO z n)=some (C2 l zM fun m=>decide (m.name=n)):=by
 have c:=Fa (B:=RV l fun z=>MO z n) (N:=Al) l (fun m=>decide (m.name=n)) (fun i=>(l.getD i default,true)) () (fun i x hx=>by
  have a:=BS hx
  have d:=(Ya.1 hx).1
  have b:i+1<9223372036854775808:=by omega
  have e:MO x n=some (decide (x.name=n)):=rfl
  dsimp only[RV,Zt,br,ix,wg,vs,AA,ln,Ai,cf,wa,br]
  simp only[a,b,hx,e,Yr,Yv,Yc,Yg,YU]
  cases decide (x.name=n)<;>simp) (by simp[RV,Zt,br,ix,wg,vs,AA,ln,Ai,cf,wa,br]) (A2 (by omega))
 dsimp only[Vf,fG,dU,gA,vz,wg,lr,lc,An]
 rw[c,Qf]
 cases l.findIdx? fun m=>decide (m.name=n)<;>rfl
theorem Qd{s:Scm}(h:SzS s)(n:ByteArray):(C2 s.messages zM fun m=>decide (m.name=n)).1.fields.length≤1048576:=by
 unfold C2
 cases e:s.messages.find? fun m=>decide (m.name=n)with
 |none=>simp[zM]
 |some m=>exact(h.m _ (HR e)).fl
theorem u9{v x:Val}(hx:x∈v.list):Ar (Ag x)<Ar (Ag v):=by
 have a:=C8 (e:=Bb) hx
 rw[Gx]at a
 conv=>rhs;unfold Ag
 simp only[Ar,bk]
 omega
theorem TJ{v:Val}{x:Pr}(hx:x∈v.pairs):Ar (Ag x.key)<Ar (Ag v)∧Ar (Ag x.val)<Ar (Ag v):=by
 have b:=C8 (e:=Ap) hx
 have e:Ap x=Ag x.key++Ag x.val:=by rw[Ls];rfl
 rw[e,Na]at b
 have a:Ar (Ag v)=Ar [.int .i64 v.kind,.int .u64 v.bits,.str v.text,.list (v.list.map Bb),.list (v.pairs.map Ap),.list (v.slots.map Aq),.list (v.raws.map Av)]:=rfl
 rw[a]
 simp only[Ar,bk]
 omega
theorem wD{v:Val}{x:Slt}(hx:x∈v.slots):Ar (Ag x.val)<Ar (Ag v):=by
 have a:=C8 (e:=Aq) hx
 have e:Aq x=D.int .i64 x.num::Ag x.val:=by rw[La];rfl
 rw[e,Ar]at a
 have b:Ar (Ag v)=Ar [.int .i64 v.kind,.int .u64 v.bits,.str v.text,.list (v.list.map Bb),.list (v.pairs.map Ap),.list (v.slots.map Aq),.list (v.raws.map Av)]:=rfl
 rw[b]
 simp only[Ar,bk]at a⊢
 omega
def Bz(F:List Fld)(k:Int):Fld×Bool:=C2 F zF fun f=>decide (f.num=k)
def A4(F:List Fld)(k:Int):Fld:=(Bz F k).1
def AD(s:Scm)(n:ByteArray):List Fld:=(C2 s.messages zM fun m=>decide (m.name=n)).1.fields
theorem n61(s:Scm)(n:ByteArray)(h:s.messages.length≤1048576):Vo s n=some (C2 s.messages zM fun m=>decide (m.name=n)):=by
 dsimp only[Vo,bG,wg,lr,cs]
 rw[m84 _ _ h]
 rfl
theorem n74(l:List Fld)(k:Int)(h:l.length≤1048576):Vj l (fun z=>MS z k)=some (Bz l k):=by
 have c:=Fa (B:=RJ l fun z=>MS z k) (N:=Al) l (fun f=>decide (f.num=k)) (fun i=>(l.getD i default,true)) () (fun i x hx=>by
  have a:=BS hx
  have d:=(Ya.1 hx).1
  have b:i+1<9223372036854775808:=by omega
  have e:MS x k=some (decide (x.num=k)):=rfl
  dsimp only[RJ,Xz,br,ix,wg,vs,AA,ln,Ai,cf,wa,br]
  simp only[a,b,hx,e,Yr,Yv,Yc,Yg,YU]
  cases decide (x.num=k)<;>simp) (by simp[RJ,Xz,br,ix,wg,vs,AA,ln,Ai,cf,wa,br]) (A2 (by omega))
 dsimp only[Vj,bf,dc,cO,vz,wg,lr,lc,An]
 unfold Bz
 rw[c,Qf]
 cases l.findIdx? fun m=>decide (m.num=k)<;>rfl
theorem n43(m:Msg)(k:Int)(h:m.fields.length≤1048576):kn m k=some (Bz m.fields k):=by
 dsimp only[kn,fe,wg,lr,cs]
 rw[n74 _ _ h]
 rfl
theorem qj(m:Msg)(k:Int)(h:m.fields.length≤1048576):jQ m k=some (Bz m.fields k):=by
 have c:=Fa (B:=Rc m k) (N:=Al) m.fields (fun f=>decide (f.num=k)) (fun i=>(m.fields.getD i default,true)) () (fun i x hx=>by
  have a:=BS hx
  have d:=(Ya.1 hx).1
  have b:i+1<9223372036854775808:=by omega
  dsimp only[Rc,Xj,br,ix,vz,wg,vs,AA,ln,Ai,wa,An,br]
  simp only[a,b,hx,Yr,Yv,Yc,Yg,YU]
  cases decide (x.num=k)<;>simp) (by simp[Rc,Xj,br,ix,vz,wg,vs,AA,ln,Ai,wa,An,br]) (A2 (by omega))
 dsimp only[jQ,ow,pt,oG,wg,lr,lc]
 unfold Bz
 rw[c,Qf]
 cases m.fields.findIdx? fun f=>decide (f.num=k)<;>rfl
def C5{α:Type}(l:List α)(p:α→Bool):Int:=match l.findIdx? p with
 |some i=>(i:Int)
 |none=>-1
theorem ZHL{α:Type}(l:List α)(p:α→Bool):decide (0≤C5 l p)=l.any p:=by
 unfold C5
 rw[←Ox]
 cases l.findIdx? p with
 |none=>rfl
 |some i=>simp
theorem n70(l:List Slt)(f:Slt→Option Bool)(p:Slt→Bool)(d:∀x∈l,f x=some (p x))(h:l.length<4611686018427387904):Vz l f=some (C5 l p):=by
 have e:=Fa (B:=RO l f) (N:=Al) l p (fun i=>(i:Int)) () (fun i x hx=>by
  have a:=BS hx
  have g:=(Ya.1 hx).1
  have b:i+1<9223372036854775808:=by omega
  have c:=d x (Yi hx)
  dsimp only[RO,TD,br,ix,vs,AA,ln,Ai,cf,wa,br]
  simp only[a,b,c,hx,Yr,Yv,Yc]
  cases p x<;>simp) (by simp[RO,TD,br,ix,vs,AA,ln,Ai,cf,wa,br]) (A2 h)
 dsimp only[Vz,dW,bY,eX,vz,lr,lc,An]
 rw[e]
 unfold C5
 cases l.findIdx? p<;>rfl
def B7(l:List Slt)(k:Int):Bool:=l.any fun x=>decide (x.num=k)
theorem n19(v:Val)(k:Int)(h:v.slots.length<4611686018427387904):j6 v k=some (B7 v.slots k):=by
 dsimp only[j6,dq,wg,lr,cl,y7,eH,lr,cs]
 rw[n70 v.slots (fun z=>Vi z k) (fun x=>decide (x.num=k)) (fun x _=>rfl) h]
 simp only[Yc]
 rw[ZHL]
 rfl
theorem ZRH{v:Val}{x:Raw}(h:A3 v)(hx:x∈v.raws):x.data.size≤1048576:=by
 have a:=C8 (e:=Av) hx
 unfold A3 at h
 conv at h=>unfold Ag
 simp only[Ar,bk,Av]at h a
 omega
theorem M4{F:List Fld}{k:Int}(h:(Bz F k).2=true):(A4 F k).num=k:=by
 unfold A4 Bz C2 at*
 cases e:F.find? fun f=>decide (f.num=k)with
 |none=>rw[e]at h;cases h
 |some f=>exact Y4 (p:=f.num=k) (aS (p:=fun f:Fld=>decide (f.num=k)) e)
abbrev TS:=Scm→Fld→Val→Int→Bool→Option Int
def Cb{α:Type}(f:Nat→α→Int):List α→Nat→Int
 |[],_=>0
 |x::l,i=>if f i x=0 then Cb f l (i+1)else f i x
theorem Lw{α:Type}(f:Nat→α→Int):∀(l:List α) (i:Nat),Cb f l i=0↔∀(j:Nat) (x:α),l[j]?=some x→f (i+j) x=0
 |[],i=>by simp[Cb]
 |x::l,i=>by
  unfold Cb
  have a:=Lw f l (i+1)
  by_cases h:f i x=0
  ·rw[Ym h,a]
   constructor
   ·intro k j y hy
    cases j with
    |zero=>cases hy;exact h
    |succ j=>have:=k j y hy;rw[show i+(j+1)=i+1+j by omega];exact this
   ·intro k j y hy
    have:=k (j+1) y hy
    rw[show i+(j+1)=i+1+j by omega]at this
    exact this
  ·rw[Yk h]
   exact⟨fun e=>absurd e h,fun k=>k 0 x rfl⟩
theorem PW{α ξ ρ:Type}{B:Nat→Option (Lv Nat ξ ρ)}{N:Nat}(l:List α)(f:Nat→α→Int)(r:Int→ρ)(e:ξ)
  (hs:∀(i:Nat) (x:α),l[i]?=some x→(∀(j:Nat) (y:α),j<i→l[j]?=some y→f j y=0)→B i=some (if f i x=0 then .nx (i+1)else .rt (r (f i x))))
  (he:B l.length=some (.ex e)) (hN:l.length<N):Am B N 0=some (if Cb f l 0=0 then .inl e else .inr (r (Cb f l 0))):=by
 suffices H:∀k i N,i+k=l.length→(∀(j:Nat) (y:α),j<i→l[j]?=some y→f j y=0)→k<N→Am B N i=some (if Cb f (l.drop i) i=0 then .inl e else .inr (r (Cb f (l.drop i) i)))by
  have:=H l.length 0 N (by omega) (fun j y c=>absurd c (by omega)) hN
  rwa [Mg]at this
 intro k
 induction k with
 |zero=>
  intro i N hi _ hN
  obtain⟨N,rfl⟩:∃m,N=m+1:=⟨N-1,by omega⟩
  have:i=l.length:=by omega
  subst this
  rw[Am,he,S6]
  rfl
 |succ k d=>
  intro i N hi b hN
  obtain⟨N,rfl⟩:∃m,N=m+1:=⟨N-1,by omega⟩
  have a:i<l.length:=by omega
  rw[Am,hs i l[i] (Ye a) b,HQ a,Cb]
  by_cases h:f i l[i]=0
  ·rw[Ym h,Ym h]
   refine d (i+1) N (by omega) (fun j y c hy=>?_) (by omega)
   by_cases e:j=i
   ·subst e
    rw[Ye a]at hy
    cases hy
    exact h
   ·exact b j y (by omega) hy
  ·rw[Yk h,Yk h,Yk h]
def Cq(v:Val):Bool:=decide ((v.kind≠11∧0<v.list.length)∨(v.kind≠12∧0<v.pairs.length)∨(v.kind≠10∧(0<v.slots.length∨0<v.raws.length))∨(v.text≠⟨#[]⟩∧¬(v.kind=7∨v.kind=8))∨(v.bits≠0∧(v.kind=7∨v.kind=8∨v.kind=10∨v.kind=11∨v.kind=12)))
def CB(x:ByteArray)(p:Nat)(lo hi:Nat):Bool:=decide (p<x.size)&&decide (lo≤(x.get! p).toNat)&&decide ((x.get! p).toNat≤hi)
def CJ(x:ByteArray)(p:Nat):Nat:=
 let b:=(x.get! p).toNat
 if b<0x80 then 1
 else if 0xc2≤b∧b≤0xdf∧CB x (p+1) 0x80 0xbf=true then 2
 else if b=0xe0∧CB x (p+1) 0xa0 0xbf=true∧CB x (p+2) 0x80 0xbf=true then 3
 else if b=0xed∧CB x (p+1) 0x80 0x9f=true∧CB x (p+2) 0x80 0xbf=true then 3
 else if 0xe1≤b∧b≤0xef∧b≠0xed∧CB x (p+1) 0x80 0xbf=true∧CB x (p+2) 0x80 0xbf=true then 3
 else if b=0xf0∧CB x (p+1) 0x90 0xbf=true∧CB x (p+2) 0x80 0xbf=true∧CB x (p+3) 0x80 0xbf=true then 4
 else if 0xf1≤b∧b≤0xf3∧CB x (p+1) 0x80 0xbf=true∧CB x (p+2) 0x80 0xbf=true∧CB x (p+3) 0x80 0xbf=true then 4
 else if b=0xf4∧CB x (p+1) 0x80 0x8f=true∧CB x (p+2) 0x80 0xbf=true∧CB x (p+3) 0x80 0xbf=true then 4
 else 0
def F5(x:ByteArray):Nat→Nat→Bool
 |0,_=>true
 |n+1,p=>if p<x.size then(if CJ x p=0 then false else F5 x n (p+CJ x p))else true
def KQ(x:ByteArray):Bool:=F5 x (x.size+1) 0
def U6(n b:Int):Bool:=if n=1 then decide (b≤1)else if n=2 then decide (-2147483648≤IntKind.i64.wrap b∧IntKind.i64.wrap b≤2147483647)else if n=4 then decide (b≤4294967295)else if n=9 then decide (b≤2147483647)else true
def Mi(v:Val):Bool:=decide (v.list.length=0∧v.pairs.length=0∧v.slots.length=0∧v.raws.length=0)
def Pa(n:Int):Bool:=decide (n=7∨n=8)
def I8(n:Int)(v:Val):Bool:=decide (1≤n∧n≤9∧v.kind=n)&&Mi v&&(if Pa n then decide (v.bits=0∧v.text.size≤4096)&&(decide (n=8)||KQ v.text)else decide (v.text=⟨#[]⟩)&&U6 n v.bits)
def DZ(n:Int)(v:Val):Int:=if v.kind≠n∨Cq v=true then 12 else if 4096<v.text.size then 3 else if I8 n v=true then 0 else if n=7 then 7 else 12
def zE:Enm:=.mk ⟨#[]⟩ false [] [] []
def AZ(s:Scm)(n:ByteArray):Msg×Bool:=C2 s.messages zM fun m=>decide (m.name=n)
def Ds(s:Scm)(n:ByteArray):Enm×Bool:=C2 s.enums zE fun e=>decide (e.name=n)
def LP(e:Enm)(b:Int):Bool:=e.items.any fun x=>decide (IntKind.u64.wrap x.num=b)
def CN(R:Msg→Val→Int)(s:Scm)(t:Typ)(v:Val):Int:=
 if t.kind=10 then(if(AZ s t.name).2=true then R (AZ s t.name).1 v else 10)
 else if t.kind<1∨9<t.kind then 12
 else if DZ t.kind v≠0∨t.kind≠9 then DZ t.kind v
 else if(Ds s t.name).2=false then 10
 else if(Ds s t.name).1.opn=false∧LP (Ds s t.name).1 v.bits=false then 16 else 0
def IK(a b:Val):Bool:=decide (a.bits=b.bits)&&decide (a.text=b.text)
def Ko(E:Val→Int)(key:Int)(k:Bool)(l:List Pr)(i:Nat)(p:Pr):Int:=
 if DZ key p.key≠0 then DZ key p.key else if k=true∧((l.take i).any fun q=>IK q.key p.key)=true then 9 else E p.val
def BV(R:Msg→Val→Int)(s:Scm)(k:Bool)(f:Fld)(v:Val):Int:=
 if f.card=4 then(if v.kind≠11∨Cq v=true then 12 else Cb (fun _ x=>CN R s f.type x) v.list 0)
 else if f.card=5 then(if v.kind≠12∨Cq v=true then 12 else Cb (Ko (CN R s f.type) f.key k v.pairs) v.pairs 0)
 else CN R s f.type v
def KJ(F:List Fld)(l:List Slt)(u:ByteArray):Bool:=!decide (u=⟨#[]⟩)&&l.any fun y=>decide ((A4 F y.num).union=u)
def F1(R:Fld→Val→Int)(F:List Fld)(l:List Slt)(i:Nat)(x:Slt):Int:=
 if(Bz F x.num).2=false then 8 else if B7 (l.take i) x.num=true then 9 else if KJ F (l.take i) (A4 F x.num).union=true then 15 else R (A4 F x.num) x.val
def HY(l:List Slt)(f:Fld):Int:=if f.card=1∧B7 l f.num=false then 14 else 0
def uo(s:Scm)(f:Fld)(x:Raw):Bool:=decide (f.type.kind=9)&&(Ds s f.type.name).2&&!(Ds s f.type.name).1.opn&&!decide (f.card=5)&&decide (x.wire=0)&&decide (x.bits<2147483648)&&!LP (Ds s f.type.name).1 x.bits
def Ky(s:Scm)(F:List Fld)(x:Raw):Int:=
 if x.num<1∨65535<x.num∨x.wire<0∨6<x.wire∨(x.wire≤2∧x.data≠⟨#[]⟩)∨(2<x.wire∧x.bits≠0)then 1
 else if(Bz F x.num).2=true∧uo s (A4 F x.num) x=false then 1
 else if(x.wire=3∧4096<x.data.size)∨65536<x.data.size then 3 else 0
def Ba(s:Scm)(k:Bool):Nat→Msg→Val→Int
 |0,_,v=>if v.kind≠10∨Cq v=true then 12 else 17
 |d+1,m,v=>
  if v.kind≠10∨Cq v=true then 12
  else if Cb (F1 (BV (Ba s k d) s k) m.fields v.slots) v.slots 0≠0 then Cb (F1 (BV (Ba s k d) s k) m.fields v.slots) v.slots 0
  else if Cb (fun _ f=>HY v.slots f) m.fields 0≠0 then Cb (fun _ f=>HY v.slots f) m.fields 0
  else Cb (fun _ x=>Ky s m.fields x) v.raws 0
mutual
def cnt:Val→Nat
 |.mk _ _ _ l p s r=>1+r.length+Br l+BP p+Cf s
def Br:List Val→Nat
 |[]=>0
 |v::l=>cnt v+Br l
def NU:Pr→Nat
 |.mk k v=>cnt k+cnt v
def BP:List Pr→Nat
 |[]=>0
 |p::l=>NU p+BP l
def N4:Slt→Nat
 |.mk _ v=>cnt v
def Cf:List Slt→Nat
 |[]=>0
 |x::l=>N4 x+Cf l
end
def Ku(s:Scm)(k:Bool)(n:ByteArray)(v:Val):Int:=
 if(AZ s n).2=false then 10 else if Ba s k 16 (AZ s n).1 v≠0 then Ba s k 16 (AZ s n).1 v else if 4096<cnt v then 3 else 0
theorem tp(x:ByteArray)(p:Nat):x.data.toList.getD p 0=x.get! p:=by
 cases x with
 |mk d=>
  show d.toList.getD p 0=d.getD p 0
  rw[Yg,YE,Yz]
theorem ZlY(x:ByteArray)(i:Nat)(lo hi:Nat)(h:x.size≤1048576):MJ x (i:Int) (lo:Int) (hi:Int)=some (CB x i lo hi):=by
 have w:x.size<4611686018427387904:=by omega
 dsimp only[MJ,WX,vz,lr,BH,Gi]
 simp only[w,Yv,Y0,tp]
 have a:∀b c:Bool,(b=true→decide ((i:Int)<x.size)=true)→(if(b=true→(0:Int)≤i∧(i:Int)<x.size)then(some c)else none)=some c:=fun b c d=>by
  rw[Ym]
  intro h
  have:=d h
  simp only[Yy]at this
  omega
 rw[a _ _ (fun h=>by rw[Yb]at h;exact h.1),a _ _ (fun h=>h)]
 unfold CB
 congr 1
 rw[aT]
 simp only[Yb,Yy]
 omega
theorem rR(x:ByteArray)(i n:Nat)(h:x.size≤1048576)(hi:i≤2097152)(p:n≤9):KW x (i:Int) (n:Int)=some ((List.range n).all fun k=>CB x (i+k) 128 191):=by
 have o:=Fa (B:=Lh x (i:Int) (n:Int)) (N:=Al) (List.range n) (fun k=>!CB x (i+k) 128 191) (fun _=>false) () (fun k y a=>by
  have b:=(Ya.1 a).1
  rw[am]at b
  have hy:y=k:=by rw[List.getElem?_range b]at a;cases a;rfl
  subst hy
  have e:=ZlY x (i+y) 128 191 h
  rw[Int.natCast_add]at e
  have d:(y:Int)<n:=by omega
  have f:y+1<9223372036854775808:=by omega
  have g: -9223372036854775808≤(i:Int)+y∧(i:Int)+y<9223372036854775808:=by omega
  dsimp only[Lh,QH,br,vs,AA,ln,Ai,cl,wa,wi,br]
  simp only[d,f,g,Yr,Yv,Cw]
  rw[show((128:Int))=((128:Nat):Int)from rfl,show((191:Int))=((191:Nat):Int)from rfl,e,Yc]
  cases CB x (i+y) 128 191<;>rfl) (by rw[am];dsimp only[Lh,QH,br,vs,AA,ln,Ai,cl,wa,wi,br];simp) (by rw[am];exact A2 (by omega))
 dsimp only[KW,Xp,Xo,WJ,lr,lc]
 rw[o]
 cases c:(List.range n).findIdx? fun k=>!CB x (i+k) 128 191 with
 |none=>
  have:=L8.1 c
  have e:((List.range n).all fun k=>CB x (i+k) 128 191)=true:=Ys.2 fun k a=>by simpa using this k a
  rw[e]
  rfl
 |some j=>
  obtain⟨l,m,_⟩:=Mc.1 c
  have e:((List.range n).all fun k=>CB x (i+k) 128 191)=false:=by
   rw[List.all_eq_false]
   exact⟨_,Gn l,by simpa using m⟩
  rw[e]
  rfl
theorem I5{c:Prop}[Decidable c]{b:Bool}(n:Nat)(h:b=true↔c){x:Option Int}{m:Nat}(k:x=some (m:Int)):(if b=true then some (n:Int)else x)=some ((if c then n else m:Nat):Int):=by
 by_cases a:c
 ·rw[Ym (h.2 a),Ym a]
 ·rw[Yk (fun e=>a (h.1 e)),Yk a,k]
theorem ZNP(x:ByteArray)(p:Nat)(q:p<x.size)(h:x.size≤1048576):PA x (p:Int)=some (CJ x p:Int):=by
 have t1:∀n:Nat,n≤9→KW x ((p:Int)+1) (n:Int)=_:=fun n d=>rR x (p+1) n h (by omega) d
 have t2:∀n:Nat,n≤9→KW x ((p:Int)+2) (n:Int)=_:=fun n d=>rR x (p+2) n h (by omega) d
 have a:∀lo hi:Nat,MJ x ((p:Int)+1) lo hi=_:=fun lo hi=>ZlY x (p+1) lo hi h
 have a1:=t1 1 (by omega)
 have b:=t1 2 (by omega)
 have a3:=t1 3 (by omega)
 have a4:=t2 1 (by omega)
 have c:=t2 2 (by omega)
 have e:=a 160 191
 have g:=a 128 159
 have i:=a 144 191
 have j:=a 128 143
 have w0:(0:Int)≤p∧(p:Int)<x.size:=by omega
 have o: -9223372036854775808≤(p:Int)+1∧(p:Int)+1<9223372036854775808:=by omega
 have w2: -9223372036854775808≤(p:Int)+2∧(p:Int)+2<9223372036854775808:=by omega
 have k:∀f:Nat→Bool,(List.range 1).all f=f 0:=fun f=>by simp[aU]
 have l:∀f:Nat→Bool,(List.range 2).all f=(f 0&&f 1):=fun f=>by simp[aU]
 have m:∀f:Nat→Bool,(List.range 3).all f=(f 0&&(f 1&&f 2)):=fun f=>by simp[aU,Bool.and_assoc]
 rw[k]at a1 a4
 rw[l]at b c
 rw[m]at a3
 simp only[G6,YK,Nat.reduceAdd,Int.cast_ofNat_Int]at a1 b a3 a4 c e g i j
 dsimp only[PA,WS,br,vg,lr,AP,wi,br,Sn]
 simp only[w0,o,w2,Cw,Yv,Y0,tp,a1,b,a3,a4,c,e,g,i,j,Gs,YU,EZ]
 unfold CJ
 refine I5 1 (by simp only[Yy];omega) ?_
 refine I5 2 (by simp only[Yb,Yy];grind) ?_
 refine I5 3 (by simp only[Yb,Yy];grind) ?_
 refine I5 3 (by simp only[Yb,Yy];grind) ?_
 refine I5 3 (by simp only[Yb,YJ,Yy,YN];grind) ?_
 refine I5 4 (by simp only[Yb,Yy];grind) ?_
 refine I5 4 (by simp only[Yb,Yy];grind) ?_
 refine I5 4 (by simp only[Yb,Yy];grind) ?_
 rfl
theorem ZMX(x:ByteArray)(p:Nat):CJ x p≤4:=by
 unfold CJ
 dsimp only
 repeat' (first|split|omega)
theorem ZKX(x:ByteArray):∀(k p n m:Nat),x.size-p=k→x.size-p<n→x.size-p<m→F5 x n p=F5 x m p:=by
 intro k
 induction k using Nat.strongRecOn with
 |_ k c=>
  intro p n m d e hm
  obtain⟨n,rfl⟩:∃j,n=j+1:=⟨n-1,by omega⟩
  obtain⟨m,rfl⟩:∃j,m=j+1:=⟨m-1,by omega⟩
  unfold F5
  by_cases a:p<x.size
  ·rw[Ym a,Ym a]
   by_cases b:CJ x p=0
   ·rw[Ym b,Ym b]
   ·rw[Yk b,Yk b]
    exact c (x.size-(p+CJ x p)) (by omega) _ _ _ rfl (by omega) (by omega)
  ·rw[Yk a,Yk a]
def KU(x:ByteArray)(p:Nat):Bool:=F5 x (x.size+1-p) p
theorem ZAj{x:ByteArray}{p:Nat}(h:x.size≤p):KU x p=true:=by
 unfold KU
 cases x.size+1-p with
 |zero=>rfl
 |succ n=>unfold F5;rw[Yk (by omega)]
theorem ZuH{x:ByteArray}{p:Nat}(h:p<x.size):KU x p=if CJ x p=0 then false else KU x (p+CJ x p):=by
 unfold KU
 obtain⟨n,e⟩:∃n,x.size+1-p=n+1:=⟨x.size-p,by omega⟩
 rw[e]
 conv=>lhs;unfold F5
 rw[Ym h]
 by_cases a:CJ x p=0
 ·rw[Ym a,Ym a]
 ·rw[Yk a,Yk a]
  by_cases b:p+CJ x p<x.size
  ·exact ZKX x _ _ _ _ rfl (by omega) (by omega)
  ·have c:F5 x n (p+CJ x p)=true:=by
    cases n with
    |zero=>rfl
    |succ n=>unfold F5;rw[Yk b]
   have d:F5 x (x.size+1-(p+CJ x p)) (p+CJ x p)=true:=by
    cases x.size+1-(p+CJ x p)with
    |zero=>rfl
    |succ n=>unfold F5;rw[Yk b]
   rw[c,d]
theorem ZNJ(x:ByteArray):KQ x=KU x 0:=rfl
theorem Zww(x:ByteArray)(h:x.size≤1048576):ML x=some (KQ x):=by
 have q:Ok (Sum.elim (fun _=>KQ x=true) (fun r:Int=>0≤r∧KQ x=false)) (Am (Nn x) Al 0):=by
  refine BF (fun v:Int=>0≤v∧KQ x=KU x v.toNat) (fun v:Int=>x.size-v.toNat) ⟨by omega,ZNJ x⟩ (A2 (by omega)) fun v c=>?_
  obtain⟨v,rfl⟩:∃n:Nat,v=n:=⟨v.toNat,by omega⟩
  obtain⟨_,c⟩:=c
  rw[Y0]at c
  have w:x.size<4611686018427387904:=by omega
  dsimp only[Nn,Xe,br,vz,vs,AA,ln,Ai,cl,wi,BH,br]
  by_cases g:v<x.size
  ·have d:(v:Int)<x.size:=by omega
   have hs:=ZMX x v
   have b:=ZuH g
   simp only[w,Yv,d,Yr,ZNP x v g h,Yc]
   by_cases f:CJ x v=0
   ·rw[Ym f]at b
    simp only[f,Int.ofNat_zero,Int.cast_ofNat_Int,Yr,Yv]
    exact⟨_,rfl,by omega,by rw[c,b]⟩
   ·rw[Yk f]at b
    have j:¬((CJ x v:Int)=0):=by omega
    have k: -9223372036854775808≤(v:Int)+CJ x v∧(v:Int)+CJ x v<9223372036854775808:=by omega
    simp only[j,YV,Yo,YR,k,Cw,Yv]
    refine⟨_,rfl,⟨by omega,?_⟩,?_⟩
    ·rw[c,b,show((v:Int)+CJ x v).toNat=v+CJ x v by omega]
    ·show x.size-((v:Int)+CJ x v).toNat<x.size-(v:Int).toNat
     omega
  ·have d:¬(v:Int)<x.size:=by omega
   simp only[w,Yv,d,YV,Yo,YR]
   exact⟨_,rfl,by rw[c,ZAj (by omega)]⟩
 obtain⟨y,e,a⟩:=q
 dsimp only[ML,X6,lr,cl,Vd,WP,Xk,WV,lr,lc]
 rw[e]
 cases y with
 |inl y=>
  have a:KQ x=true:=a
  rw[a]
  rfl
 |inr r=>
  obtain⟨a1,i⟩:=a
  rw[i]
  simp only[Yc,Sum.elim_inr]
  rw[show decide (r<0)=false by simpa using a1]
def ag(c:Nat)(x:Val):Prop:=∀a,c≤a→Ok (fun b=>b=true) (Jv a x x)
theorem ag.mono{c d:Nat}{x:Val}(h:ag c x)(k:c≤d):ag d x:=fun a b=>h a (Ed k b)
end Go.Proofs.YtjbijbkdiijhaaaGreat
