import Derived.Test.YthgmbpciandpiaaGreatNx24
import Derived.Test.YthgmbpciandpiaaGreatNx23
import Derived.Test.YthgmbpciandpiaaGreatNx00
namespace Go.Proofs.YthgmbpciandpiaaGreat
set_option linter.all false
open Go Go.Eng
theorem Ez(d:ByteArray)(l:List Prb)(b:Bool)(n e:Int)(h:l.length<549755813887):Ok (fun y=>l.length≤y.length∧y.length≤l.length+1∧(b=true→l.length+1≤y.length)) (BF d l b n e):=by
 dsimp only[BF,dl,dw,ep,cI,vz,vw,wg,lr,lc,ap,Hm,fl]
 (repeat' (first|with_reducible (first|refine AG (fun _=>?_) fun _=>?_|refine AC ?_|refine AK ?_ ?_)))<;>first|exact AS|simp_all
theorem JD(d:ByteArray)(l:List Prb)(x:List Nt)(t n:Int)(h:l.length<549755813887)(a:Hc x):Ok (fun y=>l.length≤y.length∧y.length≤l.length+1) (HU d l x t n):=by
 dsimp only[HU,nZ,ny,ma,k8,vz,lr,lc,cl,fl]
 (repeat' (first|with_reducible (first|refine AG (fun _=>?_) fun _=>?_|refine AC ?_)|(with_reducible apply AD;(exact ZZA _ _ a);intro _ _)|(with_reducible apply AD;(exact Ez _ _ _ _ _ h);intro _ _)|with_reducible refine AK ?_ ?_))<;>exact AS
theorem o96(d:ByteArray)(l:List Prb)(x:List Spn)(t n:Int)(h:l.length<500000000000)(f:x.length≤1048576):Ok (fun y=>l.length≤y.length∧y.length≤l.length+2*x.length) (OM d l x t n):=by
 have q:Ok (Sum.elim (fun y:List Prb=>l.length≤y.length∧y.length≤l.length+2*x.length) No) (An (W3 d x t n) Aj (0,l)):=by
  refine Ba (fun v:Nat×List Prb=>v.1≤x.length∧l.length≤v.2.length∧v.2.length≤l.length+2*v.1) (fun v:Nat×List Prb=>x.length-v.1) ⟨by omega,by simp,by simp⟩ (Bq (by omega)) fun v e=>?_
  obtain⟨i,r⟩:=v
  obtain⟨a,b,c⟩:=e
  dsimp only at a b c
  dsimp only[W3,p9,k9,oN,qw,l7,qa,br,ix,AZ,vz,vs,vg,ln,Ai,lc,wa,wi,fl,Ah,br]
  (repeat' (first|with_reducible (first|refine AG (fun _=>?_) fun _=>?_|refine AC ?_|refine Bl ?_ fun _ _ _=>?_)|(with_reducible apply AD;(exact Ez _ _ _ _ _ (by omega));intro _ _)|with_reducible (first|refine Gi ?_ fun _=>?_|refine AK ?_ ?_)))<;>exact AS
 dsimp only[OM,mI,kZ,vz,lr,lc,fl]
 (repeat' (first|with_reducible (first|refine AG (fun _=>?_) fun _=>?_|refine AC ?_)|(with_reducible apply Bh;(exact q);all_goals(intro _ _;try dsimp only))|with_reducible refine AK ?_ ?_))<;>exact AS
theorem q8(s:Scm)(w:Int)(h:SzS s):Ok (fun y=>y.length≤3145728) (hZ s w):=by
 have a:=h.ml
 have b:=h.el
 have j:=h.wl
 have e:Ok (Sum.elim (fun y:List ByteArray=>y.length≤1048576) No) (An (SB s w) Aj ([],0)):=by
  refine Ba (fun v:List ByteArray×Nat=>v.2≤s.messages.length∧v.1.length≤v.2) (fun v:List ByteArray×Nat=>s.messages.length-v.2) ⟨by omega,by simp⟩ (Bq (by omega)) fun v c=>?_
  obtain⟨r,i⟩:=v
  obtain⟨a,b⟩:=c
  dsimp only at a b
  dsimp only[SB,aM,br,ix,vz,vy,vw,wg,vs,v2,ln,Ai,ap,wa,fl,Ah,br]
  (repeat' (first|with_reducible (first|refine AG (fun _=>?_) fun _=>?_|refine AC ?_|refine Bl ?_ fun _ _ _=>?_|refine AK ?_ ?_)))<;>exact AS
 have f:∀r:List ByteArray,r.length≤1048576→Ok (Sum.elim (fun y:List ByteArray=>y.length≤2097152) No) (An (RZ s w) Aj (r,0)):=by
  intro r d
  refine Ba (fun v:List ByteArray×Nat=>v.2≤s.enums.length∧v.1.length≤1048576+v.2) (fun v:List ByteArray×Nat=>s.enums.length-v.2) ⟨by omega,by simpa using d⟩ (Bq (by omega)) fun v c=>?_
  obtain⟨r,i⟩:=v
  obtain⟨a,b⟩:=c
  dsimp only at a b
  dsimp only[RZ,ct,br,ix,vz,vy,vw,wg,vs,ln,Ai,ap,wa,fl,Ah,br]
  (repeat' (first|with_reducible (first|refine AG (fun _=>?_) fun _=>?_|refine AC ?_|refine Bl ?_ fun _ _ _=>?_|refine AK ?_ ?_)))<;>exact AS
 have g:∀r:List ByteArray,r.length≤2097152→Ok (Sum.elim (fun y:List ByteArray=>y.length≤3145728) No) (An (XK s w) Aj (r,0)):=by
  intro r d
  refine Ba (fun v:List ByteArray×Nat=>v.2≤s.services.length∧v.1.length≤2097152+v.2) (fun v:List ByteArray×Nat=>s.services.length-v.2) ⟨by omega,by simpa using d⟩ (Bq (by omega)) fun v c=>?_
  obtain⟨r,i⟩:=v
  obtain⟨a,b⟩:=c
  dsimp only at a b
  dsimp only[XK,ay,br,ix,vz,vy,vw,wg,vs,ln,Ai,ap,wa,fl,Ah,br]
  (repeat' (first|with_reducible (first|refine AG (fun _=>?_) fun _=>?_|refine AC ?_|refine Bl ?_ fun _ _ _=>?_|refine AK ?_ ?_)))<;>exact AS
 dsimp only[hZ,Z4,di,ZW,dv,Z8,ey,vz,vw,lr,lc,fl,fr]
 (repeat' (first|with_reducible (first|refine AG (fun _=>?_) fun _=>?_|refine AC ?_)|(with_reducible apply Bh;(exact e);all_goals(intro _ _;try dsimp only))|(with_reducible apply Bh;(exact f _ (by assumption));all_goals(intro _ _;try dsimp only))|(with_reducible apply Bh;(exact g _ (by assumption));all_goals(intro _ _;try dsimp only))|with_reducible refine AK ?_ ?_))<;>exact AS
theorem o63(l:List ByteArray)(h:l.length≤3145728):Ok Tr (gG l):=by
 have q:Ok Ts (An (RP l) Aj 1):=by
  refine Ba (fun v:Nat=>1≤v∧v≤l.length+1) (fun v:Nat=>l.length+1-v) ⟨by omega,by omega⟩ (by unfold Aj;omega) fun v a=>?_
  dsimp only[RP,aO,br,ix,B8,vz,vs,Ar,ln,Ai,wa,wi,Ah,br]
  (repeat' (first|with_reducible (first|refine AG (fun _=>?_) fun _=>?_|refine AC ?_|refine Bl ?_ fun _ _ _=>?_|refine AK ?_ ?_)))<;>exact AS
 dsimp only[gG,bd,de,eh,lr,lc]
 (repeat' (first|with_reducible (first|refine AG (fun _=>?_) fun _=>?_|refine AC ?_)|(with_reducible apply Bh;(exact q);all_goals(intro _ _;try dsimp only))|with_reducible refine AK ?_ ?_))<;>exact AS
theorem ZYR(l:List ByteArray)(x:ByteArray)(h:l.length≤3145728):Ok Tr (OU l x):=by
 have q:Ok Ts (An (MP l x) Aj 0):=by
  refine Ba (fun v:Nat=>v≤l.length) (fun v:Nat=>l.length-v) (by omega) (by unfold Aj;omega) fun v a=>?_
  dsimp only[MP,Xe,br,ix,vz,vs,Ar,ln,Ai,wa,Ah,br]
  (repeat' (first|with_reducible (first|refine AG (fun _=>?_) fun _=>?_|refine AC ?_|refine Bl ?_ fun _ _ _=>?_|refine AK ?_ ?_)))<;>exact AS
 dsimp only[OU,V7,Xb,Wv,lr,lc]
 (repeat' (first|with_reducible (first|refine AG (fun _=>?_) fun _=>?_|refine AC ?_)|(with_reducible apply Bh;(exact q);all_goals(intro _ _;try dsimp only))|with_reducible refine AK ?_ ?_))<;>exact AS
theorem o64(l k:List ByteArray)(h:l.length≤3145728)(a:k.length≤3145728):Ok Tr (gP l k):=by
 have q:Ok Ts (An (Sa l k) Aj 0):=by
  refine Ba (fun v:Nat=>v≤l.length) (fun v:Nat=>l.length-v) (by omega) (by unfold Aj;omega) fun v b=>?_
  dsimp only[Sa,cR,br,ix,vz,vs,Ar,ln,Ai,cl,wa,Ah,br]
  (repeat' (first|with_reducible (first|refine AG (fun _=>?_) fun _=>?_|refine AC ?_|refine Bl ?_ fun _ _ _=>?_)|(with_reducible apply AD;(exact ZYR _ _ a);intro _ _)|with_reducible refine AK ?_ ?_))<;>exact AS
 dsimp only[gP,dp,dL,ZX,lr,lc]
 (repeat' (first|with_reducible (first|refine AG (fun _=>?_) fun _=>?_|refine AC ?_)|(with_reducible apply Bh;(exact q);all_goals(intro _ _;try dsimp only))|with_reducible refine AK ?_ ?_))<;>exact AS
def NS(s:Scm)(f:Fld):Prop:=(f.type.kind=9→∃m∈s.enums,m.name=f.type.name)∧(f.type.kind=10→(∃m∈s.messages,m.name=f.type.name)∧f.card≠3)∧1≤f.type.kind∧f.type.kind≤10
theorem o92(s:Scm)(f:Fld)(h:SzS s):Ok (fun b=>b=true→NS s f) (gV s f):=by
 unfold NS
 dsimp only[gV,pN,br,wg,lr,cl,br]
 (repeat' (first|with_reducible (first|refine AG (fun _=>?_) fun _=>?_|refine AC ?_)|(with_reducible apply AD;(exact ff _ _ h);intro _ _)|(with_reducible apply AD;(exact QX _ _ h);intro _ _)|with_reducible refine AK ?_ ?_))
 ·intro a
  have d:f.type.kind=9:=DT (by assumption)
  have e:=(show _<_∧(_→∃m∈s.enums,m.name=f.type.name)by assumption).2 (DT a)
  exact⟨fun _=>e,fun k=>by omega,by omega,by omega⟩
 ·intro a
  have c:f.type.kind=10:=DT (by assumption)
  rw[Yc]at a
  have e:=(show _<_∧(_→∃m∈s.messages,m.name=f.type.name)by assumption).2 (DT a.1)
  exact⟨fun k=>by omega,fun _=>⟨e,by simpa using a.2⟩,by omega,by omega⟩
 ·intro a
  simp only[Yc,Yn]at a
  exact⟨fun k=>by omega,fun k=>by omega,by omega,by omega⟩
def Rl(f:Fld):Prop:=f.union≠⟨#[]⟩→f.card=2
theorem o93(m:Msg)(i:Nat)(h:SzM m)(hi:i<m.fields.length):Ok (fun b=>b=true→∀f,m.fields[i]?=some f→Rl f) (g8 m i):=by
 have hl:=h.fl
 have q:∀e,Ok (Sum.elim (fun b:Bool=>b=true→0<i) Tr) (An (WI m i e) Aj (false,0)):=by
  intro e
  refine Ba (fun v:Bool×Nat=>v.2≤m.fields.length∧(v.1=true→0<i)) (fun v:Bool×Nat=>m.fields.length-v.2) ⟨by omega,by simp⟩ (Bq (by omega)) fun v k=>?_
  obtain⟨b,j⟩:=v
  obtain⟨c,d⟩:=k
  dsimp only at c d
  dsimp only[WI,oO,br,ix,AZ,vz,wg,vs,Ar,ln,Ai,wa,Ah,br]
  (repeat' (first|with_reducible (first|refine AG (fun _=>?_) fun _=>?_|refine AC ?_|refine Bl ?_ fun _ _ _=>?_|refine Gi ?_ fun _=>?_|refine AK ?_ ?_)))<;>exact AS
 dsimp only[g8,mK,li,n2,br,B8,AZ,wg,vg,lr,lc,Az,wi,br]
 (repeat' (first|with_reducible (first|refine AG (fun _=>?_) fun _=>?_|refine AC ?_|refine Bl ?_ fun _ _ _=>?_)|(with_reducible apply Bh;(exact q _);all_goals(intro _ _;try dsimp only))|(with_reducible apply AD;(exact Lk _ ((h.f _ (by assumption)).u));intro _ _)|(with_reducible apply Bs;(exact fun _=>Lk _ ((h.f _ (by assumption)).u));intro _)|with_reducible (first|refine Gi ?_ fun _=>?_|refine AK ?_ ?_)))<;>first|(intro h;cases h;done)|(have he:=‹m.fields[i]?=some _›;intro _ f a;rw[he]at a;cases a;intro g;first|exact absurd (DT (by assumption)) g|(simp only[Yz,YL,Hs,Rq,Yn,Yt]at*;omega)|grind)|exact AS
def JG(f:Fld):Prop:=f.hasDefault=true→NQ f.type.kind f.dflt∧f.card=2∧f.union=⟨#[]⟩
theorem o94(s:Scm)(f:Fld)(h:SzS s)(a:SzF f):Ok (fun b=>b=true→JG f) (g9 s f):=by
 have g:SzV (.mk 0 0 ⟨#[]⟩ [] [] [] []):=by constructor<;>decide
 have he:∀y,y∈s.enums→y.items.length≤1048576:=fun y hy=>(h.e y hy).il
 have q:∀y:Int,0≤y→y<s.enums.length→Ok Ts (An (WH s f y) Aj 0):=by
  intro y hy k
  refine Ba (fun v:Nat=>v≤1048576) (fun v:Nat=>1048576-v) (by omega) (Bq (by omega)) fun v l=>?_
  dsimp only[WH,pL,br,ix,B8,vz,wg,vs,Ar,ln,Ai,wa,Ah,br]
  (repeat' (first|with_reducible (first|refine AG (fun _=>?_) fun _=>?_|refine AC ?_|refine Bl ?_ fun _ _ _=>?_|refine AK ?_ ?_)))<;>exact AS
 have key:∀(c d:Bool),((!((!decide (f.card=2))||(!decide (f.union=⟨#[]⟩))))=true→c=true→NQ f.type.kind f.dflt)→((((!decide (f.card=2))||(!decide (f.union=⟨#[]⟩)))||!c)||!d)=false→JG f:=fun c d i j _=>by
  cases c<;>cases d<;>simp_all
 have e:(!f.hasDefault)=true→JG f:=fun i j=>by simp_all
 dsimp only[g9,qB,ph,kO,br,wg,lr,lc,cl,Az,br]
 (repeat' (first|with_reducible (first|refine AG (fun _=>?_) fun _=>?_|refine AC ?_)|(with_reducible apply Bh;(exact q _ A1 A1);all_goals(intro _ _;try dsimp only))|(with_reducible apply AD;(exact T0 _ _ a.d g);intro _ _)|(with_reducible apply AD;(exact T2 _ _ a.d);intro _ _)|(with_reducible apply AD;(exact ZW1 _ a.d);intro _ _)|(with_reducible apply AD;(exact T0 _ _ a.d (by solve_by_elim));intro _ _)|(with_reducible apply AD;(exact ff _ _ h);intro _ _)|(with_reducible apply Bs;(exact fun _=>T0 _ _ a.d g);intro _)|(with_reducible apply Bs;(exact fun _=>T2 _ _ a.d);intro _)|(with_reducible apply Bs;(exact fun _=>ZW1 _ a.d);intro _)|(with_reducible apply Bs;(exact fun _=>T0 _ _ a.d (by solve_by_elim));intro _)|(with_reducible apply Bs;(exact fun _=>ff _ _ h);intro _)|with_reducible refine AK ?_ ?_))<;>first|(intro _;exact key _ _ (by assumption) (by assumption))|(intro _;exact e (by assumption))|exact AS
theorem o87(s:Scm)(m:Msg)(l:List Bool)(h:SzS s)(hm:SzM m)(hl:l.length=s.messages.length):Ok Tr (hX s m l):=by
 have a:=hm.fl
 have q:Ok Ts (An (Wl s m l) Aj 0):=by
  refine Ba (fun v:Nat=>v≤m.fields.length) (fun v:Nat=>m.fields.length-v) (by omega) (Bq (by omega)) fun v b=>?_
  dsimp only[Wl,pT,br,ix,AZ,vz,wg,vs,Ar,ln,Ai,cl,wa,Ah,br]
  (repeat' (first|with_reducible (first|refine AG (fun _=>?_) fun _=>?_|refine AC ?_|refine Bl ?_ fun _ _ _=>?_)|(with_reducible apply AD;(exact QX _ _ h);intro _ _)|with_reducible (first|refine Gi ?_ fun _=>?_|refine AK ?_ ?_)))<;>exact AS
 dsimp only[hX,nV,mr,lQ,lr,lc]
 (repeat' (first|with_reducible (first|refine AG (fun _=>?_) fun _=>?_|refine AC ?_)|(with_reducible apply Bh;(exact q);all_goals(intro _ _;try dsimp only))|with_reducible refine AK ?_ ?_))<;>exact AS
theorem zY(s:Scm)(m:Msg)(l:List Bool)(h:SzS s)(hm:SzM m)(hl:l.length=s.messages.length):Ok Tr (UJ s m l):=by
 have a:=hm.fl
 have q:Ok Ts (An (VK s m l) Aj 0):=by
  refine Ba (fun v:Nat=>v≤m.fields.length) (fun v:Nat=>m.fields.length-v) (by omega) (Bq (by omega)) fun v b=>?_
  dsimp only[VK,jV,br,ix,vz,wg,vs,vg,Ar,ln,Ai,cl,wa,CM,cag,fl,Ah,br,CM]
  (repeat' (first|with_reducible (first|refine AG (fun _=>?_) fun _=>?_|refine AC ?_|refine Bl ?_ fun _ _ _=>?_)|(with_reducible apply AD;(exact QX _ _ h);intro _ _)|with_reducible refine AK ?_ ?_))<;>exact AS
 dsimp only[UJ,jA,jE,jZ,vz,lr,lc,fl]
 (repeat' (first|with_reducible (first|refine AG (fun _=>?_) fun _=>?_|refine AC ?_)|(with_reducible apply Bh;(exact q);all_goals(intro _ _;try dsimp only))|with_reducible refine AK ?_ ?_))<;>exact AS
theorem o65(s:Scm)(h:SzS s):Ok (fun y=>y.length=s.messages.length) (gj s):=by
 have g:=h.ml
 have q:∀(v:Nat) (r:List Bool),r.length=s.messages.length→Ok (Sum.elim (fun y:Bool×List Bool=>y.2.length=s.messages.length) No) (An (SN s v) Aj (false,0,r)):=by
  intro w r e
  refine Ba (fun v:Bool×Nat×List Bool=>v.2.1≤s.messages.length∧v.2.2.length=s.messages.length) (fun v:Bool×Nat×List Bool=>s.messages.length-v.2.1) ⟨by simp,e⟩ (Bq (by simp;omega)) fun v d=>?_
  obtain⟨b,i,r⟩:=v
  obtain⟨c,a⟩:=d
  dsimp only at c a
  dsimp only[SN,cF,br,AZ,vz,vw,wg,vs,v2,ln,Ai,Dy,wa,ir,ca,st,rn,fl,Ah,br]
  (repeat' (first|with_reducible (first|refine AG (fun _=>?_) fun _=>?_|refine AC ?_|refine Bl ?_ fun _ _ _=>?_)|(with_reducible apply AD;(exact zY _ _ _ h (h.m _ (by grind)) a);intro _ _)|(with_reducible apply Bs;(exact fun _=>zY _ _ _ h (h.m _ (by grind)) a);intro _)|with_reducible (first|refine Gi ?_ fun _=>?_|refine AK ?_ ?_)))<;>exact AS
 have f:Ok (Sum.elim (fun y:List Bool=>y.length=s.messages.length) No) (An (R3 s) Aj (true,0,List.replicate s.messages.length false)):=by
  refine Ba (fun v:Bool×Nat×List Bool=>v.2.1≤s.messages.length∧v.2.2.length=s.messages.length) (fun v:Bool×Nat×List Bool=>s.messages.length-v.2.1) ⟨by simp,by simp⟩ (Bq (by simp;omega)) fun v d=>?_
  obtain⟨b,i,r⟩:=v
  obtain⟨c,a⟩:=d
  dsimp only at c a
  dsimp only[R3,dH,aB,aY,br,vz,wg,vs,v2,ln,Ai,lc,wa,fl,Ah,br]
  (repeat' (first|with_reducible (first|refine AG (fun _=>?_) fun _=>?_|refine AC ?_)|(with_reducible apply Bh;(exact q _ _ a);all_goals(intro _ _;try dsimp only))|with_reducible refine AK ?_ ?_))<;>exact AS
 dsimp only[gj,bx,cq,bX,vz,wg,lr,lc,ms,fl,fr,Ah]
 (repeat' (first|with_reducible (first|refine AG (fun _=>?_) fun _=>?_|refine AC ?_)|(with_reducible apply Bh;(exact f);all_goals(intro _ _;try dsimp only))|with_reducible refine AK ?_ ?_))<;>exact AS
end Go.Proofs.YthgmbpciandpiaaGreat
namespace Go.Proofs.YthgmbpciandpiaaGreat
set_option linter.all false
open Go Go.Eng
def CG(l:List Fld)(n:Nat):Prop:=∀(i:Nat) (a b:Fld),i+1<n→l[i]?=some a→l[i+1]?=some b→a.num<b.num
theorem ZAW{l:List Fld}{v:Nat}{a b:Fld}(h:CG l v)(j:l[v]?=some a)(k:0<v→l[v-1]?=some b∧b.num<a.num):CG l (v+1):=by
 intro i x y hi c hy
 by_cases e:i+1<v
 ·exact h i x y e c hy
 ·have f:i+1=v:=by omega
  have g:v-1=i:=by omega
  rw[f]at hy
  obtain⟨d,m⟩:=k (by omega)
  rw[g]at d
  rw[j]at hy
  rw[d]at c
  cases c
  cases hy
  exact m
structure GdM (s:Scm) (m:Msg):Prop where
 asc:CG m.fields m.fields.length
 df:∀(j:Nat) (f:Fld),m.fields[j]?=some f→JG f∧NK f∧NS s f∧Rl f
theorem ZVV(x:Msg):x.fields.length+x.reserved.length+x.gone.length≤As (AE x):=by
 have a:=Cz (e:=Ao) x.fields
 have b:=Cz (e:=Cv) x.reserved
 have c:=Cz (e:=AW) x.gone
 simp only[AE,As,bk]
 omega
theorem ZWF(x:Enm):x.items.length+x.reserved.length≤As (Bw x):=by
 have a:=Cz (e:=Cr) x.items
 have b:=Cz (e:=Cv) x.reserved
 simp only[Bw,As,bk]
 omega
theorem ZVj(x:Svc):x.methods.length≤As (CV x):=by
 have a:=Cz (e:=G4) x.methods
 simp only[CV,As,bk]
 omega
theorem eT(d:ByteArray)(b:Bool)(n e:Int):Ok (fun y=>y.length≤1) (BF d [] b n e):=(Ez d [] b n e (by simp)).mono fun y h=>by simpa using h.2.1
theorem o66(s:Scm)(m:Msg)(l:List Bool)(h:SzS s)(hm:SzM m)(hl:l.length=s.messages.length):Ok (fun y=>y.length≤20*(As (AE m)+1)∧(y.length=0→GdM s m)) (gt s m l):=by
 have g:=ZVV m
 have H:=hm.fl
 have q:=hm.r
 have B:=hm.gl
 have F:∀(v:Nat) (r:List Prb) (e:Fld),v≤m.fields.length→Ok (Sum.elim Tr No) (An (S5 s m l v r e) Aj (false,0)):=by
  intro w r e J
  refine Ba (fun v:Bool×Nat=>v.2≤w) (fun v:Bool×Nat=>w-v.2) (by simp) (Bq (by omega)) fun v k=>?_
  obtain⟨b,i⟩:=v
  dsimp only at k
  dsimp only[S5,bw,br,ix,vz,wg,vs,ln,Ai,wa,fl,br]
  (repeat' (first|with_reducible (first|refine AG (fun _=>?_) fun _=>?_|refine AC ?_|refine Bl ?_ fun _ _ _=>?_|refine AK ?_ ?_)))<;>exact AS
 have E:∀a:List Prb,a.length≤9→Ok (Sum.elim (fun y:List Prb=>y.length≤9+10*m.fields.length∧(y.length=0→GdM s m)) No) (An (R4 s m l) Aj (0,a)):=by
  intro a o
  refine Ba (fun v:Nat×List Prb=>v.1≤m.fields.length∧v.2.length≤9+10*v.1∧(v.2.length=0→CG m.fields v.1∧∀(j:Nat) (f:Fld),j<v.1→m.fields[j]?=some f→JG f∧NK f∧NS s f∧Rl f)) (fun v:Nat×List Prb=>m.fields.length-v.1) ⟨by simp,by simpa using o,fun _=>⟨fun i x y hi=>by simp at hi,fun j f n=>by simp at n⟩⟩ (Bq (by omega)) fun v k=>?_
  obtain⟨v,r⟩:=v
  obtain⟨t,u,c⟩:=k
  dsimp only at t u c
  dsimp only[R4,pk,po,qi,lN,mO,ob,pc,mu,oL,pE,oF,qk,nh,pt,qG,kV,eD,bv,cS,Z9,bt,bq,bH,ag,br,ix,AZ,vz,wg,vs,vg,ln,Ai,lc,cl,Az,wa,wi,fl,Ah,br]
  (repeat' (first|with_reducible (first|refine AG (fun _=>?_) fun _=>?_|refine AC ?_|refine Bl ?_ fun _ _ _=>?_)|(with_reducible apply Bh;(exact F _ _ _ (by omega));all_goals(intro _ _;try dsimp only))|(with_reducible apply AD;(exact Ez _ _ _ _ _ (by omega));intro _ _)|(with_reducible apply AD;(exact Lk _ (hm.f _ (by assumption)).n);intro _ _)|(with_reducible apply AD;(exact ra _ _ q);intro _ _)|(with_reducible apply AD;(exact o86 _ _ B);intro _ _)|(with_reducible apply AD;(exact o91 _);intro _ _)|(with_reducible apply AD;(exact o92 _ _ h);intro _ _)|(with_reducible apply AD;(exact o93 _ _ hm A1);intro _ _)|(with_reducible apply AD;(exact o94 _ _ h (hm.f _ (by assumption)));intro _ _)|(with_reducible apply AD;(exact JD _ _ _ _ _ (by omega) (hm.f _ (by assumption)).o);intro _ _)|(with_reducible apply Bs;(exact fun _=>Ez _ _ _ _ _ (by omega));intro _)|(with_reducible apply Bs;(exact fun _=>Lk _ (hm.f _ (by assumption)).n);intro _)|(with_reducible apply Bs;(exact fun _=>ra _ _ q);intro _)|(with_reducible apply Bs;(exact fun _=>o86 _ _ B);intro _)|(with_reducible apply Bs;(exact fun _=>o91 _);intro _)|(with_reducible apply Bs;(exact fun _=>o92 _ _ h);intro _)|(with_reducible apply Bs;(exact fun _=>o93 _ _ hm A1);intro _)|(with_reducible apply Bs;(exact fun _=>o94 _ _ h (hm.f _ (by assumption)));intro _)|(with_reducible apply Bs;(exact fun _=>JD _ _ _ _ _ (by omega) (hm.f _ (by assumption)).o);intro _)|with_reducible (first|refine Gi ?_ fun _=>?_|refine AK ?_ ?_)))
  all_goals try exact A1
  have D:=‹decide (0<(v:Int))=true→m.fields[((v:Int)-1).toNat]?=some (m.fields.getD ((v:Int)-1).toNat Rw.z)∧_›
  have he:=‹m.fields[v]?=some _›
  dsimp only
  refine⟨⟨by exact A1,by omega,fun p=>⟨ZAW (b:=m.fields.getD ((v:Int)-1).toNat Rw.z) (c (by omega)).1 he fun k=>?_,fun j f n d=>?_⟩⟩,by exact A1⟩
  have ev:((v:Int)-1).toNat=v-1:=by omega
  refine⟨ev▸(D (YQ (by omega))).1,?_⟩
  rcases Int.lt_or_le (m.fields.getD ((v:Int)-1).toNat Rw.z).num (Fld.num _)with A|z
  ·exact A
  ·exfalso
   have I:=Yc _ _▸And.intro (YQ (show(0:Int)<v by omega)) (YQ z)
   grind
  ·rcases Nat.lt_or_eq_of_le (Nat.le_of_lt_succ n)with n|rfl
   ·exact(c (by omega)).2 j f n d
   ·rw[he]at d
    cases d
    refine⟨(show _=true→JG _ by assumption) (NW fun g=>?_),(show _=true→NK _ by assumption) (NW fun g=>?_),(show _=true→NS s _ by assumption) (NW fun g=>?_),(show _=true→∀f,m.fields[j]?=some f→Rl f by assumption) (NW fun g=>?_) _ he⟩
    all_goals(
     rw[Bool.not_eq_true]at g
     subst g
     simp only[YW,Fw]at*
     omega)
  have C:v=m.fields.length:=by exact A1
  subst C
  exact⟨by exact A1,fun p=>⟨(c p).1,fun j f d=>(c p).2 j f (Yb.1 d).1 d⟩⟩
 have G:∀a:List Prb,a.length≤20000000→Ok (Sum.elim (fun y:List Prb=>a.length≤y.length∧y.length≤a.length+m.gone.length) No) (An (XG s m l) Aj (0,a)):=by
  intro a o
  refine Ba (fun v:Nat×List Prb=>v.1≤m.gone.length∧v.2.length≤a.length+v.1∧a.length≤v.2.length) (fun v:Nat×List Prb=>m.gone.length-v.1) ⟨by simp,by simp,by simp⟩ (Bq (by omega)) fun v k=>?_
  obtain⟨v,r⟩:=v
  obtain⟨t,u,c⟩:=k
  dsimp only at t u c
  dsimp only[XG,mZ,pB,mN,k7,br,ix,vz,wg,vs,ln,Ai,lc,cl,wa,fl,Ah,br]
  (repeat' (first|with_reducible (first|refine AG (fun _=>?_) fun _=>?_|refine AC ?_|refine Bl ?_ fun _ _ _=>?_)|(with_reducible apply AD;(exact Ez _ _ _ _ _ (by omega));intro _ _)|(with_reducible apply AD;(exact rc _ (hm.g _ (by assumption)));intro _ _)|with_reducible refine AK ?_ ?_))<;>exact AS
 dsimp only[gt,nL,nw,pu,px,qj,qH,pU,n7,oo,qn,pg,nD,lV,mQ,vz,vy,vw,wg,lr,lc,cl,fl,fr,Ah]
 (repeat' (first|with_reducible (first|refine AG (fun _=>?_) fun _=>?_|refine AC ?_)|(with_reducible apply Bh;(exact E _ A1);all_goals(intro _ _;try dsimp only))|(with_reducible apply Bh;(exact G _ (by omega));all_goals(intro _ _;try dsimp only))|(with_reducible apply AD;(exact q9 _ hm.n);intro _ _)|(with_reducible apply AD;(exact eT _ _ _ _);intro _ _)|(with_reducible apply AD;(exact Ez _ _ _ _ _ (by omega));intro _ _)|(with_reducible apply AD;(exact JD _ _ _ _ _ (by omega) hm.o);intro _ _)|(with_reducible apply AD;(exact o96 _ _ _ _ _ (by omega) q);intro _ _)|(with_reducible apply AD;(exact o87 _ _ _ h hm hl);intro _ _)|with_reducible refine AK ?_ ?_))<;>exact AS
theorem o67(e:Enm)(hm:SzE e):Ok (fun y=>y.length≤20*(As (Bw e)+1)) (h9 e):=by
 have m:=ZWF e
 have l:=hm.il
 have f:=hm.r
 have k:∀(v:Nat) (r:List Prb) (x:Itm),v≤e.items.length→Ok (Sum.elim Tr No) (An (R2 e v r x) Aj (false,0)):=by
  intro w r x n
  refine Ba (fun v:Bool×Nat=>v.2≤w) (fun v:Bool×Nat=>w-v.2) (by simp) (Bq (by omega)) fun v c=>?_
  obtain⟨b,i⟩:=v
  dsimp only at c
  dsimp only[R2,ce,br,ix,vz,wg,vs,ln,Ai,wa,fl,br]
  (repeat' (first|with_reducible (first|refine AG (fun _=>?_) fun _=>?_|refine AC ?_|refine Bl ?_ fun _ _ _=>?_|refine AK ?_ ?_)))<;>exact AS
 have j:∀d:List Prb,d.length≤9→Ok (Sum.elim (fun y:List Prb=>y.length≤9+10*e.items.length) No) (An (RR e) Aj (0,d)):=by
  intro d a
  refine Ba (fun v:Nat×List Prb=>v.1≤e.items.length∧v.2.length≤9+10*v.1) (fun v:Nat×List Prb=>e.items.length-v.1) ⟨by simp,by simpa using a⟩ (Bq (by omega)) fun v c=>?_
  obtain⟨v,r⟩:=v
  obtain⟨g,h⟩:=c
  dsimp only at g h
  dsimp only[RR,pP,kQ,lZ,o9,oz,pr,pW,lM,dT,b0,dy,bz,cm,ek,cY,eB,br,ix,AZ,vz,wg,vs,vg,ln,Ai,lc,cl,wa,wi,fl,Ah,br]
  (repeat' (first|with_reducible (first|refine AG (fun _=>?_) fun _=>?_|refine AC ?_|refine Bl ?_ fun _ _ _=>?_)|(with_reducible apply Bh;(exact k _ _ _ (by omega));all_goals(intro _ _;try dsimp only))|(with_reducible apply AD;(exact Ez _ _ _ _ _ (by omega));intro _ _)|(with_reducible apply AD;(exact Lk _ (hm.i _ (by assumption)).n);intro _ _)|(with_reducible apply AD;(exact ra _ _ f);intro _ _)|(with_reducible apply AD;(exact JD _ _ _ _ _ (by omega) (hm.i _ (by assumption)).o);intro _ _)|with_reducible (first|refine Gi ?_ fun _=>?_|refine AK ?_ ?_)))<;>exact AS
 dsimp only[h9,pq,pS,ly,o3,n9,l8,ng,qh,mi,mg,la,oI,qt,AZ,vz,vy,vw,wg,lr,lc,cl,fl,fr,Ah]
 (repeat' (first|with_reducible (first|refine AG (fun _=>?_) fun _=>?_|refine AC ?_)|(with_reducible apply Bh;(exact j _ A1);all_goals(intro _ _;try dsimp only))|(with_reducible apply AD;(exact q9 _ hm.n);intro _ _)|(with_reducible apply AD;(exact eT _ _ _ _);intro _ _)|(with_reducible apply AD;(exact Ez _ _ _ _ _ (by omega));intro _ _)|(with_reducible apply AD;(exact JD _ _ _ _ _ (by omega) hm.o);intro _ _)|(with_reducible apply AD;(exact o96 _ _ _ _ _ (by omega) f);intro _ _)|with_reducible (first|refine Gi ?_ fun _=>?_|refine AK ?_ ?_)))<;>exact AS
theorem o68(s:Scm)(e:Svc)(h:SzS s)(hm:SzW e):Ok (fun y=>y.length≤20*(As (CV e)+1)) (gv s e):=by
 have j:=ZVj e
 have i:=hm.ml
 have g:∀b:List Prb,b.length≤9→Ok (Sum.elim (fun y:List Prb=>y.length≤9+10*e.methods.length) No) (An (XO s e) Aj (0,b)):=by
  intro b a
  refine Ba (fun v:Nat×List Prb=>v.1≤e.methods.length∧v.2.length≤9+10*v.1) (fun v:Nat×List Prb=>e.methods.length-v.1) ⟨by simp,by simpa using a⟩ (Bq (by omega)) fun v f=>?_
  obtain⟨v,r⟩:=v
  obtain⟨c,d⟩:=f
  dsimp only at c d
  dsimp only[XO,p6,mB,mo,lY,cE,cu,bE,dW,aj,dJ,eC,bj,eI,br,ix,AZ,vz,wg,vs,vg,ln,Ai,lc,cl,Az,wa,wi,fl,Ah,br]
  (repeat' (first|with_reducible (first|refine AG (fun _=>?_) fun _=>?_|refine AC ?_|refine Bl ?_ fun _ _ _=>?_)|(with_reducible apply AD;(exact Ez _ _ _ _ _ (by omega));intro _ _)|(with_reducible apply AD;(exact QX _ _ h);intro _ _)|(with_reducible apply AD;(exact Lk _ (hm.m _ (by assumption)).n);intro _ _)|(with_reducible apply AD;(exact JD _ _ _ _ _ (by omega) (hm.m _ (by assumption)).o);intro _ _)|(with_reducible apply Bs;(exact fun _=>Ez _ _ _ _ _ (by omega));intro _)|(with_reducible apply Bs;(exact fun _=>QX _ _ h);intro _)|(with_reducible apply Bs;(exact fun _=>Lk _ (hm.m _ (by assumption)).n);intro _)|(with_reducible apply Bs;(exact fun _=>JD _ _ _ _ _ (by omega) (hm.m _ (by assumption)).o);intro _)|with_reducible (first|refine Gi ?_ fun _=>?_|refine AK ?_ ?_)))<;>exact AS
 dsimp only[gv,pR,mC,n8,kY,oB,qC,qI,oC,n1,vz,vw,wg,lr,lc,cl,fl,fr,Ah]
 (repeat' (first|with_reducible (first|refine AG (fun _=>?_) fun _=>?_|refine AC ?_)|(with_reducible apply Bh;(exact g _ A1);all_goals(intro _ _;try dsimp only))|(with_reducible apply AD;(exact q9 _ hm.n);intro _ _)|(with_reducible apply AD;(exact eT _ _ _ _);intro _ _)|(with_reducible apply AD;(exact Ez _ _ _ _ _ (by omega));intro _ _)|(with_reducible apply AD;(exact JD _ _ _ _ _ (by omega) hm.o);intro _ _)|with_reducible refine AK ?_ ?_))<;>exact AS
structure Few (s:Scm):Prop where
 m:s.messages.length≤150
 e:s.enums.length≤150
 w:s.services.length≤150
theorem o37{s:Scm}(hs:As (Al s)≤1048576):Ok (fun y=>y.length=0→∀(i:Nat) (m:Msg),s.messages[i]?=some m→GdM s m) (gU s):=by
 have h:=Df hs
 have q:=h.ml
 have t:=h.el
 have u:=h.wl
 have p:AU (s.messages.map AE)+AU (s.enums.map Bw)+AU (s.services.map CV)≤1048576:=by
  simp only[Al,As,bk]at hs
  omega
 have j:Ok (Sum.elim (fun y:List Prb=>y.length≤9) No) (An (RS s) Aj (1,[])):=by
  refine Ba (fun v:Nat×List Prb=>1≤v.1∧v.1≤4∧v.2.length≤2*v.1) (fun v:Nat×List Prb=>4-v.1) ⟨by simp,by simp,by simp⟩ (Bq (by omega)) fun v f=>?_
  obtain⟨v,r⟩:=v
  obtain⟨c,d,e⟩:=f
  dsimp only at c d e
  dsimp only[RS,aD,Z1,cV,dI,ZS,ai,dD,br,vz,wg,vs,ln,Ai,lc,cl,wa,fl,Ah,br]
  (repeat' (first|with_reducible (first|refine AG (fun _=>?_) fun _=>?_|refine AC ?_)|(with_reducible apply AD;(exact q8 _ _ h);intro _ _)|(with_reducible apply AD;(exact Ez _ _ _ _ _ (by omega));intro _ _)|(with_reducible apply AD;(exact o63 _ (by assumption));intro _ _)|with_reducible refine AK ?_ ?_))<;>exact AS
 have k:∀(a:List Prb) (l:List Bool),a.length≤10→l.length=s.messages.length→Ok (Sum.elim (fun y:List Prb=>y.length≤20971540∧(y.length=0→∀(i:Nat) (m:Msg),s.messages[i]?=some m→GdM s m)) No) (An (Sj s l) Aj (0,a)):=by
  intro a l b hl
  refine Ba (fun v:Nat×List Prb=>v.1≤s.messages.length∧v.2.length≤10+20*AU ((s.messages.take v.1).map AE)∧(v.2.length=0→∀(i:Nat) (m:Msg),i<v.1→s.messages[i]?=some m→GdM s m)) (fun v:Nat×List Prb=>s.messages.length-v.1) ⟨by simp,CY b (N7 _ _),fun _ i m hi=>by simp at hi⟩ (Bq (by omega)) fun v f=>?_
  obtain⟨v,r⟩:=v
  obtain⟨c,d,e⟩:=f
  dsimp only at c d e
  have a1:=MG AE s.messages v
  have g:=MG AE s.messages (v+1)
  dsimp only[Sj,oP,dX,Qm,br,ix,vz,wg,vs,ln,Ai,lc,aq,cl,wa,tw,fl,Ah,br]
  (repeat' (first|with_reducible (first|refine AG (fun _=>?_) fun _=>?_|refine AC ?_|refine Bl ?_ fun _ _ _=>?_)|(with_reducible apply AD;(exact o66 _ _ _ h (h.m _ (by assumption)) hl);intro _ _)|with_reducible refine AK ?_ ?_))<;>first|(have a3:=Vn AE ‹s.messages[v]?=some _›;exact AS)|exact AS
 have n:∀a:List Prb,a.length≤20971540→Ok (Sum.elim (fun y:List Prb=>a.length≤y.length∧y.length≤41943080) No) (An (XL s) Aj (0,a)):=by
  intro a b
  refine Ba (fun v:Nat×List Prb=>v.1≤s.enums.length∧v.2.length≤20971540+20*AU ((s.enums.take v.1).map Bw)∧a.length≤v.2.length) (fun v:Nat×List Prb=>s.enums.length-v.1) ⟨by simp,CY b (N7 _ _),by simp⟩ (Bq (by omega)) fun v f=>?_
  obtain⟨v,r⟩:=v
  obtain⟨c,d,e⟩:=f
  dsimp only at c d e
  have a1:=MG Bw s.enums v
  have g:=MG Bw s.enums (v+1)
  dsimp only[XL,kR,oA,PI,br,ix,vz,wg,vs,ln,Ai,lc,aq,cl,wa,tw,fl,Ah,br]
  (repeat' (first|with_reducible (first|refine AG (fun _=>?_) fun _=>?_|refine AC ?_|refine Bl ?_ fun _ _ _=>?_)|(with_reducible apply AD;(exact o67 _ (h.e _ (by assumption)));intro _ _)|with_reducible refine AK ?_ ?_))<;>first|(have a3:=Vn Bw ‹s.enums[v]?=some _›;exact AS)|exact AS
 have o:∀a:List Prb,a.length≤41943080→Ok (Sum.elim (fun y:List Prb=>a.length≤y.length) No) (An (Sy s) Aj (0,a)):=by
  intro a b
  refine Ba (fun v:Nat×List Prb=>v.1≤s.services.length∧v.2.length≤41943080+20*AU ((s.services.take v.1).map CV)∧a.length≤v.2.length) (fun v:Nat×List Prb=>s.services.length-v.1) ⟨by simp,CY b (N7 _ _),by simp⟩ (Bq (by omega)) fun v f=>?_
  obtain⟨v,r⟩:=v
  obtain⟨c,d,e⟩:=f
  dsimp only at c d e
  have a1:=MG CV s.services v
  have g:=MG CV s.services (v+1)
  dsimp only[Sy,o2,mz,PP,br,ix,vz,wg,vs,ln,Ai,lc,aq,cl,wa,tw,fl,Ah,br]
  (repeat' (first|with_reducible (first|refine AG (fun _=>?_) fun _=>?_|refine AC ?_|refine Bl ?_ fun _ _ _=>?_)|(with_reducible apply AD;(exact o68 _ _ h (h.w _ (by assumption)));intro _ _)|with_reducible refine AK ?_ ?_))<;>first|(have a3:=Vn CV ‹s.services[v]?=some _›;exact AS)|exact AS
 dsimp only[gU,oT,nF,n6,qy,oU,lW,mW,qg,m0,o7,qA,lh,vz,vw,wg,lr,lc,cl,Az,fl,fr]
 (repeat' (first|with_reducible (first|refine AG (fun _=>?_) fun _=>?_|refine AC ?_)|(with_reducible apply Bh;(exact j);all_goals(intro _ _;try dsimp only))|(with_reducible apply Bh;(exact k _ _ (by omega) (by assumption));all_goals(intro _ _;try dsimp only))|(with_reducible apply Bh;(exact n _ (by omega));all_goals(intro _ _;try dsimp only))|(with_reducible apply Bh;(exact o _ (by omega));all_goals(intro _ _;try dsimp only))|(with_reducible apply AD;(exact q8 _ _ h);intro _ _)|(with_reducible apply AD;(exact o64 _ _ (by assumption) (by assumption));intro _ _)|(with_reducible apply AD;(exact o65 _ h);intro _ _)|(with_reducible apply AD;(exact Ez _ _ _ _ _ (by omega));intro _ _)|(with_reducible apply Bs;(exact fun _=>q8 _ _ h);intro _)|(with_reducible apply Bs;(exact fun _=>o64 _ _ (by assumption) (by assumption));intro _)|(with_reducible apply Bs;(exact fun _=>o65 _ h);intro _)|(with_reducible apply Bs;(exact fun _=>Ez _ _ _ _ _ (by omega));intro _)|with_reducible refine AK ?_ ?_))<;>exact AS
theorem o16{s:Scm}(hs:As (Al s)≤1048576):Ok (fun b=>b=true→∀(i:Nat) (m:Msg),s.messages[i]?=some m→GdM s m) (UK s):=by
 dsimp only[UK,cA,vz,wg,lr,cl,Ah]
 (repeat' (first|with_reducible (first|refine AG (fun _=>?_) fun _=>?_|refine AC ?_)|(with_reducible apply AD;(exact o37 hs);intro _ _)|with_reducible refine AK ?_ ?_))<;>exact AS
theorem Lj(l:List ByteArray)(n:Int)(h:l.length≤1048576)(b:0≤n)(a:n≤400):Ok (fun y:Int=>0≤y∧y≤1048986∧(l.length≤10→(l.length:Int)≤y)) (gH l n):=by
 have q:Ok (Sum.elim Tr fun y:Int=>10≤y∧y≤410) (An (Su l n) Aj 0):=by
  refine Ba (fun v:Nat=>v≤l.length) (fun v:Nat=>l.length-v) (by omega) (Bq (by omega)) fun v c=>?_
  dsimp only[Su,eg,br,ix,vz,vs,Ar,ln,Ai,wa,wi,Ah,A9,br]
  (repeat' (first|with_reducible (first|refine AG (fun _=>?_) fun _=>?_|refine AC ?_|refine Bl ?_ fun _ _ _=>?_|refine AK ?_ ?_)))<;>exact AS
 dsimp only[gH,dA,ZZ,ZU,vz,lr,lc,Ah]
 (repeat' (first|with_reducible (first|refine AG (fun _=>?_) fun _=>?_|refine AC ?_)|(with_reducible apply Bh;(exact q);all_goals(intro _ _;try dsimp only))|with_reducible refine AK ?_ ?_))<;>exact AS
theorem NG(l:List Nt)(n:Int)(h:Hc l)(e:0≤n)(c:n≤400):Ok (fun y:Int=>0≤y∧y≤1048986) (gn l n):=by
 obtain⟨d,b⟩:=h
 have g:∀x∈l,x.val.list.length≤1048576:=fun x a=>(b x a).v.l
 have i:∀x∈l,x.val.pairs.length≤1048576:=fun x a=>(b x a).v.p
 have j:∀x∈l,x.val.slots.length≤1048576:=fun x a=>(b x a).v.s
 have k:∀x∈l,x.val.raws.length≤1048576:=fun x a=>(b x a).v.r
 have q:Ok (Sum.elim Tr fun y:Int=>10≤y∧y≤410) (An (Se l n) Aj 0):=by
  refine Ba (fun v:Nat=>v≤l.length) (fun v:Nat=>l.length-v) (by omega) (Bq (by omega)) fun v f=>?_
  dsimp only[Se,cJ,br,ix,vz,vy,wg,vs,vg,Ar,ln,Ai,wa,wi,Ah,A9,br]
  (repeat' (first|with_reducible (first|refine AG (fun _=>?_) fun _=>?_|refine AC ?_|refine Bl ?_ fun _ _ _=>?_|refine AK ?_ ?_)))<;>exact AS
 dsimp only[gn,bb,bf,aX,vz,lr,lc,Ah]
 (repeat' (first|with_reducible (first|refine AG (fun _=>?_) fun _=>?_|refine AC ?_)|(with_reducible apply Bh;(exact q);all_goals(intro _ _;try dsimp only))|with_reducible refine AK ?_ ?_))<;>exact AS
theorem o15(s:Scm)(h:SzS s):Ok (fun b=>b=true→Few s) (hH s):=by
 have u:=h.ml
 have z:=h.el
 have A:=h.wl
 have l:∀(v:Nat) (m:Msg) (n:Int),SzM m→ -10000000≤n→n≤400→Ok (Sum.elim (fun y:Int=>-10000000≤y∧y≤400) No) (An (RW s v m) Aj (n,0)):=by
  intro w m n hm g f
  have j:=hm.fl
  refine Ba (fun v:Int×Nat=>v.2≤m.fields.length∧ -10000000≤v.1∧v.1≤400) (fun v:Int×Nat=>m.fields.length-v.2) ⟨by omega,by omega,by omega⟩ (Bq (by omega)) fun v e=>?_
  obtain⟨n,v⟩:=v
  obtain⟨c,d,a⟩:=e
  dsimp only at c d a
  dsimp only[RW,aJ,br,ix,vz,wg,vs,v2,ln,Ai,cl,wa,wi,Ah,A9,br]
  (repeat' (first|with_reducible (first|refine AG (fun _=>?_) fun _=>?_|refine AC ?_|refine Bl ?_ fun _ _ _=>?_)|(with_reducible apply AD;(exact NG _ _ (hm.f _ (by assumption)).o A1 a);intro _ _)|(with_reducible apply AD;(exact Lj _ _ (by simp) A1 a);intro _ _)|with_reducible refine AK ?_ ?_))<;>exact AS
 have k:Ok (Sum.elim (fun y:Int=>-10000000≤y∧y≤400) No) (An (SH s) Aj (400,0)):=by
  refine Ba (fun v:Int×Nat=>v.2≤s.messages.length∧ -10000000≤v.1∧v.1≤400) (fun v:Int×Nat=>s.messages.length-v.2) ⟨by omega,by omega,by omega⟩ (Bq (by omega)) fun v e=>?_
  obtain⟨n,v⟩:=v
  obtain⟨c,d,a⟩:=e
  dsimp only at c d a
  dsimp only[SH,cZ,bB,dP,br,ix,vz,wg,vs,v2,ln,Ai,lc,cl,wa,wi,Ah,br]
  have t:∀x∈s.messages,x.reserved.length≤1048576:=fun x i=>(h.m x i).r
  (repeat' (first|with_reducible (first|refine AG (fun _=>?_) fun _=>?_|refine AC ?_|refine Bl ?_ fun _ _ _=>?_)|(with_reducible apply Bh;(exact l _ _ _ (h.m _ (by assumption)) A1 A1);all_goals(intro _ _;try dsimp only))|(with_reducible apply AD;(exact NG _ _ (h.m _ (by assumption)).o A1 a);intro _ _)|(with_reducible apply AD;(exact Lj _ _ (h.m _ (by assumption)).gl A1 a);intro _ _)|(with_reducible apply AD;(exact Lj _ _ (by simp) A1 a);intro _ _)|with_reducible refine AK ?_ ?_))<;>exact AS
 have p:∀(v:Nat) (m:Enm) (n:Int),SzE m→ -10000000≤n→n≤400→Ok (Sum.elim (fun y:Int=>-10000000≤y∧y≤400) No) (An (XJ s v m) Aj (n,0)):=by
  intro w m n hm g f
  have j:=hm.il
  refine Ba (fun v:Int×Nat=>v.2≤m.items.length∧ -10000000≤v.1∧v.1≤400) (fun v:Int×Nat=>m.items.length-v.2) ⟨by omega,by omega,by omega⟩ (Bq (by omega)) fun v e=>?_
  obtain⟨n,v⟩:=v
  obtain⟨c,d,a⟩:=e
  dsimp only at c d a
  dsimp only[XJ,ez,br,ix,vz,wg,vs,ln,Ai,cl,wa,wi,Ah,br]
  (repeat' (first|with_reducible (first|refine AG (fun _=>?_) fun _=>?_|refine AC ?_|refine Bl ?_ fun _ _ _=>?_)|(with_reducible apply AD;(exact NG _ _ (hm.i _ (by assumption)).o A1 a);intro _ _)|(with_reducible apply AD;(exact Lj _ _ (by simp) A1 a);intro _ _)|with_reducible refine AK ?_ ?_))<;>exact AS
 have o:∀n:Int,-10000000≤n→n≤400→Ok (Sum.elim (fun y:Int=>-10000000≤y∧y≤400) No) (An (Tb s) Aj (n,0)):=by
  intro n g f
  refine Ba (fun v:Int×Nat=>v.2≤s.enums.length∧ -10000000≤v.1∧v.1≤400) (fun v:Int×Nat=>s.enums.length-v.2) ⟨by omega,by omega,by omega⟩ (Bq (by omega)) fun v e=>?_
  obtain⟨n,v⟩:=v
  obtain⟨c,d,a⟩:=e
  dsimp only at c d a
  dsimp only[Tb,dO,bQ,bW,br,ix,vz,wg,vs,ln,Ai,lc,cl,wa,wi,Ah,br]
  have t:∀x∈s.enums,x.reserved.length≤1048576:=fun x i=>(h.e x i).r
  (repeat' (first|with_reducible (first|refine AG (fun _=>?_) fun _=>?_|refine AC ?_|refine Bl ?_ fun _ _ _=>?_)|(with_reducible apply Bh;(exact p _ _ _ (h.e _ (by assumption)) A1 A1);all_goals(intro _ _;try dsimp only))|(with_reducible apply AD;(exact NG _ _ (h.e _ (by assumption)).o A1 a);intro _ _)|(with_reducible apply AD;(exact Lj _ _ (by simp) A1 a);intro _ _)|with_reducible refine AK ?_ ?_))<;>exact AS
 have r:∀(v:Nat) (m:Svc) (n:Int),SzW m→ -10000000≤n→n≤400→Ok (Sum.elim (fun y:Int=>-10000000≤y∧y≤400) No) (An (Si s v m) Aj (n,0)):=by
  intro w m n hm g f
  have j:=hm.ml
  refine Ba (fun v:Int×Nat=>v.2≤m.methods.length∧ -10000000≤v.1∧v.1≤400) (fun v:Int×Nat=>m.methods.length-v.2) ⟨by omega,by omega,by omega⟩ (Bq (by omega)) fun v e=>?_
  obtain⟨n,v⟩:=v
  obtain⟨c,d,a⟩:=e
  dsimp only at c d a
  dsimp only[Si,a2,br,ix,vz,wg,vs,ln,Ai,cl,wa,wi,Ah,br]
  (repeat' (first|with_reducible (first|refine AG (fun _=>?_) fun _=>?_|refine AC ?_|refine Bl ?_ fun _ _ _=>?_)|(with_reducible apply AD;(exact NG _ _ (hm.m _ (by assumption)).o A1 a);intro _ _)|(with_reducible apply AD;(exact Lj _ _ (by simp) A1 a);intro _ _)|with_reducible refine AK ?_ ?_))<;>exact AS
 have q:∀n:Int,-10000000≤n→n≤400→Ok (Sum.elim (fun y:Int=>-10000000≤y∧y≤400) No) (An (XH s) Aj (n,0)):=by
  intro n g f
  refine Ba (fun v:Int×Nat=>v.2≤s.services.length∧ -10000000≤v.1∧v.1≤400) (fun v:Int×Nat=>s.services.length-v.2) ⟨by omega,by omega,by omega⟩ (Bq (by omega)) fun v e=>?_
  obtain⟨n,v⟩:=v
  obtain⟨c,d,a⟩:=e
  dsimp only at c d a
  dsimp only[XH,nJ,pM,lw,br,ix,vz,wg,vs,ln,Ai,lc,cl,wa,wi,Ah,br]
  (repeat' (first|with_reducible (first|refine AG (fun _=>?_) fun _=>?_|refine AC ?_|refine Bl ?_ fun _ _ _=>?_)|(with_reducible apply Bh;(exact r _ _ _ (h.w _ (by assumption)) A1 A1);all_goals(intro _ _;try dsimp only))|(with_reducible apply AD;(exact NG _ _ (h.w _ (by assumption)).o A1 a);intro _ _)|(with_reducible apply AD;(exact Lj _ _ (by simp) A1 a);intro _ _)|with_reducible refine AK ?_ ?_))<;>exact AS
 dsimp only[hH,lG,mJ,n4,kT,oc,br,vz,vy,wg,vg,lr,lc,wa,Ah,br]
 (repeat' (first|with_reducible (first|refine AG (fun _=>?_) fun _=>?_|refine AC ?_)|(with_reducible apply Bh;(exact k);all_goals(intro _ _;try dsimp only))|(with_reducible apply Bh;(exact o _ A1 A1);all_goals(intro _ _;try dsimp only))|(with_reducible apply Bh;(exact q _ A1 A1);all_goals(intro _ _;try dsimp only))|with_reducible refine AK ?_ ?_))<;>first|exact AS|exact fun _=>⟨by exact A1,by exact A1,by exact A1⟩
abbrev AY(v:Val):Prop:=As (Ag v)≤1048576
theorem Ie{v x:Val}(h:AY v)(b:x∈v.list):AY x:=by
 have a:=CQ (e:=AM) b
 rw[Gk]at a
 unfold AY at*
 conv at h=>unfold Ag
 simp only[As,bk]at h
 omega
theorem D0{v:Val}{x:Pr}(h:AY v)(b:x∈v.pairs):AY x.key∧AY x.val:=by
 have a:=CQ (e:=Ay) b
 have e:Ay x=Ag x.key++Ag x.val:=by rw[KT];rfl
 rw[e,MK]at a
 unfold AY at*
 conv at h=>unfold Ag
 simp only[As,bk]at h
 omega
theorem GZ{v:Val}{x:Slt}(h:AY v)(b:x∈v.slots):AY x.val:=by
 have a:=CQ (e:=Am) b
 have e:Am x=D.int .i64 x.num::Ag x.val:=by rw[H2];rfl
 rw[e,As]at a
 unfold AY at*
 conv at h=>unfold Ag
 simp only[As,bk]at h
 omega
theorem VE{α:Type}(p:α→Bool):∀l:List α,l.find? p=(l.findIdx? p).bind fun i=>l[i]?
 |[]=>rfl
 |x::l=>by
  rw[List.find?_cons,List.findIdx?_cons]
  cases h:p x with
  |true=>simp
  |false=>
   rw[VE p l]
   cases List.findIdx? p l<;>simp
def Ch{α:Type}[Inhabited α](l:List α)(z:α)(p:α→Bool):α×Bool:=(l.find? p).elim (z,false) fun x=>(x,true)
theorem ML{α:Type}[Inhabited α](l:List α)(z:α)(p:α→Bool):Ch l z p=match l.findIdx? p with|some i=>(l.getD i default,true)|none=>(z,false):=by
 unfold Ch
 rw[VE]
 cases h:l.findIdx? p with
 |none=>rfl
 |some i=>
  have:=(II.1 h).1
  simp[this]
def zM:Msg:=.mk ⟨#[]⟩ [] [] [] []
def zF:Fld:=.mk 0 ⟨#[]⟩ 0 0 (.mk 0 ⟨#[]⟩) ⟨#[]⟩ false (.mk 0 0 ⟨#[]⟩ [] [] [] []) []
theorem qU(s:Scm)(n:ByteArray)(h:s.messages.length≤1048576):Mg s n=some (Ch s.messages zM fun m=>decide (m.name=n)):=by
 have d:=Ei (B:=Qz s n) (N:=Aj) s.messages (fun m=>decide (m.name=n)) (fun i=>(s.messages.getD i default,true)) () (fun i x a=>by
  have b:=Bj a
  have e:=(Yb.1 a).1
  have c:i+1<9223372036854775808:=by omega
  dsimp only[Qz,SD,br,ix,vz,wg,vs,Ar,ln,Ai,wa,Ah,br]
  simp only[b,c,a,Yo,Yr,Ya,Yp,YH]
  cases decide (x.name=n)<;>simp) (by simp[Qz,SD,br,ix,vz,wg,vs,Ar,ln,Ai,wa,Ah,br]) (A3 (by omega))
 dsimp only[Mg,aN,dR,aS,wg,lr,lc]
 rw[d,ML]
 cases s.messages.findIdx? fun m=>decide (m.name=n)<;>rfl
theorem m84(l:List Msg)(n:ByteArray)(h:l.length≤1048576):UH l (fun z=>Mj z n)=some (Ch l zM fun m=>decide (m.name=n)):=by
 have d:=Ei (B:=PO l fun z=>Mj z n) (N:=Aj) l (fun m=>decide (m.name=n)) (fun i=>(l.getD i default,true)) () (fun i x a=>by
  have b:=Bj a
  have f:=(Yb.1 a).1
  have c:i+1<9223372036854775808:=by omega
  have e:Mj x n=some (decide (x.name=n)):=rfl
  dsimp only[PO,WB,br,ix,wg,vs,Ar,ln,Ai,cf,wa,br]
  simp only[b,c,a,e,Yo,Yr,Ya,Yp,YH]
  cases decide (x.name=n)<;>simp) (by simp[PO,WB,br,ix,wg,vs,Ar,ln,Ai,cf,wa,br]) (A3 (by omega))
 dsimp only[UH,mP,na,oM,vz,wg,lr,lc,Ah]
 rw[d,ML]
 cases l.findIdx? fun m=>decide (m.name=n)<;>rfl
theorem KS{s:Scm}(h:SzS s)(n:ByteArray):(Ch s.messages zM fun m=>decide (m.name=n)).1.fields.length≤1048576:=by
 unfold Ch
 cases e:s.messages.find? fun m=>decide (m.name=n)with
 |none=>simp[zM]
 |some m=>exact(h.m _ (IL e)).fl
theorem bZ{v x:Val}(b:x∈v.list):As (Ag x)<As (Ag v):=by
 have a:=CQ (e:=AM) b
 rw[Gk]at a
 conv=>rhs;unfold Ag
 simp only[As,bk]
 omega
theorem QJ{v:Val}{x:Pr}(c:x∈v.pairs):As (Ag x.key)<As (Ag v)∧As (Ag x.val)<As (Ag v):=by
 have b:=CQ (e:=Ay) c
 have e:Ay x=Ag x.key++Ag x.val:=by rw[KT];rfl
 rw[e,MK]at b
 have a:As (Ag v)=As [.int .i64 v.kind,.int .u64 v.bits,.str v.text,.list (v.list.map AM),.list (v.pairs.map Ay),.list (v.slots.map Am),.list (v.raws.map A0)]:=rfl
 rw[a]
 simp only[As,bk]
 omega
theorem bg{v:Val}{x:Slt}(c:x∈v.slots):As (Ag x.val)<As (Ag v):=by
 have a:=CQ (e:=Am) c
 have e:Am x=D.int .i64 x.num::Ag x.val:=by rw[H2];rfl
 rw[e,As]at a
 have b:As (Ag v)=As [.int .i64 v.kind,.int .u64 v.bits,.str v.text,.list (v.list.map AM),.list (v.pairs.map Ay),.list (v.slots.map Am),.list (v.raws.map A0)]:=rfl
 rw[b]
 simp only[As,bk]at a⊢
 omega
theorem o17:∀(b:Nat) (v:Val) (a n:Int),AY v→1≤a→42-a<b→a≤41→0≤n→n≤2000→Ok (fun y:Int=>-1≤y∧y≤2000) (GQ b v a n)
 |0,v,a,n,h,j,k,l,o,p=>by omega
 |b+1,v,a,n,h,j,k,l,o,p=>by
  obtain⟨s1,s2,z,A,B⟩:=B5 h
  have R:∀(x:Val) (n:Int),AY x→a≤40→0≤n→n≤2000→Ok (fun y:Int=>-1≤y∧y≤2000) (GQ b x (a+1) n):=fun x n r hl q g=>o17 b x (a+1) n r (by omega) (by omega) (by omega) q g
  have s:Ok (Sum.elim Tr (fun y:Int=>y= -1)) (An (XI v a n (GQ b)) Aj 0):=by
   refine Ba (fun i:Nat=>i≤v.raws.length) (fun i:Nat=>v.raws.length-i) (by omega) (Bq (by omega)) fun i hi=>?_
   dsimp only[XI,Z3,br,ix,vz,wg,vs,Ar,ln,Ai,wa,Ah,A9,br]
   (repeat' (first|with_reducible (first|refine AG (fun _=>?_) fun _=>?_|refine AC ?_|refine Bl ?_ fun _ _ _=>?_|refine AK ?_ ?_)))<;>exact AS
  have t:∀m:Int,a≤40→ -1≤m→m≤2000→Ok (Sum.elim (fun y:Int=>-1≤y∧y≤2000) No) (An (Ta v a (GQ b)) Aj (m,0)):=by
   intro m hl hm f
   refine Ba (fun i:Int×Nat=>i.2≤v.list.length∧ -1≤i.1∧i.1≤2000) (fun i:Int×Nat=>v.list.length-i.2) ⟨by omega,by omega,by omega⟩ (Bq (by omega)) fun i hi=>?_
   obtain⟨m,i⟩:=i
   obtain⟨d,e,c⟩:=hi
   dsimp only at d e c
   dsimp only[Ta,cO,br,ix,vz,wg,vs,ln,Ai,cs,wa,wi,Ah,br]
   (repeat' (first|with_reducible (first|refine AG (fun _=>?_) fun _=>?_|refine AC ?_|refine Bl ?_ fun _ _ _=>?_)|(with_reducible apply AD;(exact R _ _ (Ie h (by assumption)) hl A1 c);intro _ _)|with_reducible refine AK ?_ ?_))<;>exact AS
  have u:∀m:Int,a≤40→ -1≤m→m≤2000→Ok (Sum.elim (fun y:Int=>-1≤y∧y≤2000) No) (An (R0 v a (GQ b)) Aj (m,0)):=by
   intro m hl hm f
   refine Ba (fun i:Int×Nat=>i.2≤v.pairs.length∧ -1≤i.1∧i.1≤2000) (fun i:Int×Nat=>v.pairs.length-i.2) ⟨by omega,by omega,by omega⟩ (Bq (by omega)) fun i hi=>?_
   obtain⟨m,i⟩:=i
   obtain⟨d,e,c⟩:=hi
   dsimp only at d e c
   dsimp only[R0,dS,br,ix,vz,wg,vs,ln,Ai,cs,wa,wi,Ah,br]
   (repeat' (first|with_reducible (first|refine AG (fun _=>?_) fun _=>?_|refine AC ?_|refine Bl ?_ fun _ _ _=>?_)|(with_reducible apply AD;(exact R _ _ (D0 h (by assumption)).1 hl A1 c);intro _ _)|(with_reducible apply AD;(exact R _ _ (D0 h (by assumption)).2 hl A1 A1);intro _ _)|with_reducible refine AK ?_ ?_))<;>exact AS
  have w:∀m:Int,a≤40→ -1≤m→m≤2000→Ok (Sum.elim (fun y:Int=>-1≤y∧y≤2000) No) (An (SJ v a (GQ b)) Aj (m,0)):=by
   intro m hl hm f
   refine Ba (fun i:Int×Nat=>i.2≤v.slots.length∧ -1≤i.1∧i.1≤2000) (fun i:Int×Nat=>v.slots.length-i.2) ⟨by omega,by omega,by omega⟩ (Bq (by omega)) fun i hi=>?_
   obtain⟨m,i⟩:=i
   obtain⟨d,e,c⟩:=hi
   dsimp only at d e c
   dsimp only[SJ,bN,br,ix,vz,wg,vs,ln,Ai,cs,wa,wi,Ah,br]
   (repeat' (first|with_reducible (first|refine AG (fun _=>?_) fun _=>?_|refine AC ?_|refine Bl ?_ fun _ _ _=>?_)|(with_reducible apply AD;(exact R _ _ (GZ h (by assumption)) hl A1 c);intro _ _)|with_reducible refine AK ?_ ?_))<;>exact AS
  show Ok _ (Ud (GQ b) v a n)
  dsimp only[Ud,qF,dY,eE,dF,ah,ab,br,vz,vy,wg,vs,lr,lc,wi,Ah,A9,br]
  (repeat' (first|with_reducible (first|refine AG (fun _=>?_) fun _=>?_|refine AC ?_)|(with_reducible apply Bh;(exact s);all_goals(intro _ _;try dsimp only))|(with_reducible apply Bh;(exact t _ A1 A1 A1);all_goals(intro _ _;try dsimp only))|(with_reducible apply Bh;(exact u _ A1 A1 A1);all_goals(intro _ _;try dsimp only))|(with_reducible apply Bh;(exact w _ A1 A1 A1);all_goals(intro _ _;try dsimp only))|with_reducible refine AK ?_ ?_))<;>exact AS
theorem aw:Zdm=some true:=by kernel_rfl
def BC(F:List Fld)(k:Int):Fld×Bool:=Ch F zF fun f=>decide (f.num=k)
def AO(F:List Fld)(k:Int):Fld:=(BC F k).1
def AN(s:Scm)(n:ByteArray):List Fld:=(Ch s.messages zM fun m=>decide (m.name=n)).1.fields
theorem qZ(s:Scm)(n:ByteArray)(h:s.messages.length≤1048576):OY s n=some (Ch s.messages zM fun m=>decide (m.name=n)):=by
 dsimp only[OY,ax,wg,lr,cs]
 rw[m84 _ _ h]
 rfl
theorem qX(s:Scm)(n:ByteArray)(h:s.messages.length≤1048576):U0 s n=some (.mk (Ch s.messages zM fun m=>decide (m.name=n)).1 s,(Ch s.messages zM fun m=>decide (m.name=n)).2):=by
 dsimp only[U0,dZ,wg,lr,cl]
 rw[qZ _ _ h]
 rfl
theorem n74(l:List Fld)(k:Int)(h:l.length≤1048576):UN l (fun z=>Mo z k)=some (BC l k):=by
 have d:=Ei (B:=QO l fun z=>Mo z k) (N:=Aj) l (fun f=>decide (f.num=k)) (fun i=>(l.getD i default,true)) () (fun i x a=>by
  have b:=Bj a
  have g:=(Yb.1 a).1
  have c:i+1<9223372036854775808:=by omega
  have e:Mo x k=some (decide (x.num=k)):=rfl
  dsimp only[QO,SM,br,ix,wg,vs,Ar,ln,Ai,cf,wa,br]
  simp only[b,c,a,e,Yo,Yr,Ya,Yp,YH]
  cases decide (x.num=k)<;>simp) (by simp[QO,SM,br,ix,wg,vs,Ar,ln,Ai,cf,wa,br]) (A3 (by omega))
 dsimp only[UN,cj,dB,dj,vz,wg,lr,lc,Ah]
 unfold BC
 rw[d,ML]
 cases l.findIdx? fun m=>decide (m.num=k)<;>rfl
theorem NF(m:Msg)(k:Int)(h:m.fields.length≤1048576):iI m k=some (BC m.fields k):=by
 dsimp only[iI,Z7,wg,lr,cs]
 rw[n74 _ _ h]
 rfl
theorem qY(m:Msg)(k:Int)(h:m.fields.length≤1048576):hU m k=some (BC m.fields k):=by
 have d:=Ei (B:=PL m k) (N:=Aj) m.fields (fun f=>decide (f.num=k)) (fun i=>(m.fields.getD i default,true)) () (fun i x a=>by
  have b:=Bj a
  have e:=(Yb.1 a).1
  have c:i+1<9223372036854775808:=by omega
  dsimp only[PL,Wy,br,ix,vz,wg,vs,Ar,ln,Ai,wa,Ah,br]
  simp only[b,c,a,Yo,Yr,Ya,Yp,YH]
  cases decide (x.num=k)<;>simp) (by simp[PL,Wy,br,ix,vz,wg,vs,Ar,ln,Ai,wa,Ah,br]) (A3 (by omega))
 dsimp only[hU,pQ,lL,pJ,wg,lr,lc]
 unfold BC
 rw[d,ML]
 cases m.fields.findIdx? fun f=>decide (f.num=k)<;>rfl
def CW{α:Type}(l:List α)(p:α→Bool):Int:=match l.findIdx? p with
 |some i=>(i:Int)
 |none=>-1
theorem Zu5{α:Type}(l:List α)(p:α→Bool):decide (0≤CW l p)=l.any p:=by
 unfold CW
 rw[←Lz]
 cases l.findIdx? p with
 |none=>rfl
 |some i=>simp
theorem XZ(l:List Slt)(f:Slt→Option Bool)(p:Slt→Bool)(e:∀x∈l,f x=some (p x))(h:l.length<4611686018427387904):Mk l f=some (CW l p):=by
 have g:=Ei (B:=QK l f) (N:=Aj) l p (fun i=>(i:Int)) () (fun i x a=>by
  have b:=Bj a
  have j:=(Yb.1 a).1
  have c:i+1<9223372036854775808:=by omega
  have d:=e x (Yj a)
  dsimp only[QK,SV,br,ix,vs,Ar,ln,Ai,cf,wa,br]
  simp only[b,c,d,a,Yo,Yr,Ya]
  cases p x<;>simp) (by simp[QK,SV,br,ix,vs,Ar,ln,Ai,cf,wa,br]) (A3 h)
 dsimp only[Mk,ZV,bG,dG,vz,lr,lc,Ah]
 rw[g]
 unfold CW
 cases l.findIdx? p<;>rfl
def Co(l:List Slt)(k:Int):Bool:=l.any fun x=>decide (x.num=k)
theorem n19(v:Val)(k:Int)(h:v.slots.length<4611686018427387904):iU v k=some (Co v.slots k):=by
 dsimp only[iU,bK,wg,lr,cl,U4,SI,lr,cs]
 rw[XZ v.slots (fun z=>OQ z k) (fun x=>decide (x.num=k)) (fun x _=>rfl) h]
 simp only[Ya]
 rw[Zu5]
 rfl
def Ea(l:List Slt)(x:Slt):List Slt:=match l.findIdx? fun y=>decide (x.num<y.num)with
 |some i=>l.take i++[x]++l.drop i
 |none=>l++[x]
theorem n57(l:List Slt)(h:l.length<549755813888):KE l=some l:=by
 cases l with
 |nil=>rfl
 |cons x r=>
  dsimp only[KE,cL,al,br,vw,lr,a0,mv,br]
  simp only[DB]at h
  simp
  omega
theorem n34(l:List Slt)(x:Slt)(h:l.length≤4194304):iQ l x=some (Ea l x):=by
 have e:=XZ l (fun z=>U2 z x) (fun y=>decide (x.num<y.num)) (fun y _=>rfl) (by omega)
 have b:=n57 l (by omega)
 have c:∀i:Nat,i≤l.length→Mn l (i:Int) [x]=some (l.take i++[x]++l.drop i):=fun i hi=>by
  unfold Mn
  rw[Yg ⟨by omega,by omega,by omega,rfl⟩,YY]
 have d:∀i:Nat,i≤l.length→(l.take i++[x]++l.drop i).length<549755813888:=fun i hi=>by
  simp only[Yq,Yu,YU,DB,FE]
  omega
 dsimp only[iQ,bu,VZ,ei,K6,br,vz,wg,v2,lr,lc,cs,tw,ch,fl,fr,Ah,br]
 rw[e]
 unfold CW Ea
 simp only[Ya,b]
 cases hi:l.findIdx? fun y=>decide (x.num<y.num)with
 |none=>
  have g:=d l.length (Yh _)
  have a:=c l.length (Yh _)
  simp only[LB,Rx,JU]at g a
  simp[a,b]
  try simpa using g
 |some i=>
  have j:=(II.1 hi).1
  have g:=d i (by omega)
  have a:=c i (by omega)
  have f:¬(i:Int)<0:=by omega
  simp only[f,a,b,YF,Yk,YD,Ya]
  try rw[Yg g]
theorem ym{v:Val}{x:Raw}(h:AY v)(b:x∈v.raws):x.data.size≤1048576:=by
 have a:=CQ (e:=A0) b
 unfold AY at h
 conv at h=>unfold Ag
 simp only[As,bk,A0]at h a
 omega
theorem KP{F:List Fld}{k:Int}(h:(BC F k).2=true):(AO F k).num=k:=by
 unfold AO BC Ch at*
 cases e:F.find? fun f=>decide (f.num=k)with
 |none=>rw[e]at h;cases h
 |some f=>exact DT (p:=f.num=k) (ZM (p:=fun f:Fld=>decide (f.num=k)) e)
abbrev Sq:=Scm→Fld→Val→Int→Bool→Option Int
def BI{α:Type}(f:Nat→α→Int):List α→Nat→Int
 |[],_=>0
 |x::l,i=>if f i x=0 then BI f l (i+1)else f i x
theorem Jm{α:Type}(f:Nat→α→Int):∀(l:List α) (i:Nat),BI f l i=0↔∀(j:Nat) (x:α),l[j]?=some x→f (i+j) x=0
 |[],i=>by simp[BI]
 |x::l,i=>by
  unfold BI
  have a:=Jm f l (i+1)
  by_cases h:f i x=0
  ·rw[Yg h,a]
   constructor
   ·intro k j y hy
    cases j with
    |zero=>cases hy;exact h
    |succ j=>have:=k j y hy;rw[show i+(j+1)=i+1+j by omega];exact this
   ·intro k j y hy
    have:=k (j+1) y hy
    rw[show i+(j+1)=i+1+j by omega]at this
    exact this
  ·rw[Yf h]
   exact⟨fun e=>absurd e h,fun k=>k 0 x rfl⟩
theorem FI{α ξ ρ:Type}{B:Nat→Option (Lv Nat ξ ρ)}{N:Nat}(l:List α)(f:Nat→α→Int)(r:Int→ρ)(e:ξ)
  (hs:∀(i:Nat) (x:α),l[i]?=some x→(∀(j:Nat) (y:α),j<i→l[j]?=some y→f j y=0)→B i=some (if f i x=0 then .nx (i+1)else .rt (r (f i x))))
  (he:B l.length=some (.ex e)) (hN:l.length<N):An B N 0=some (if BI f l 0=0 then .inl e else .inr (r (BI f l 0))):=by
 suffices H:∀k i N,i+k=l.length→(∀(j:Nat) (y:α),j<i→l[j]?=some y→f j y=0)→k<N→An B N i=some (if BI f (l.drop i) i=0 then .inl e else .inr (r (BI f (l.drop i) i)))by
  have:=H l.length 0 N (by omega) (fun j y c=>absurd c (by omega)) hN
  rwa [Gc]at this
 intro k
 induction k with
 |zero=>
  intro i N hi _ hN
  obtain⟨N,rfl⟩:∃m,N=m+1:=⟨N-1,by omega⟩
  have:i=l.length:=by omega
  subst this
  rw[An,he,Rx]
  rfl
 |succ k d=>
  intro i N hi b hN
  obtain⟨N,rfl⟩:∃m,N=m+1:=⟨N-1,by omega⟩
  have a:i<l.length:=by omega
  rw[An,hs i l[i] (Ye a) b,IK a,BI]
  by_cases h:f i l[i]=0
  ·rw[Yg h,Yg h]
   refine d (i+1) N (by omega) (fun j y c hy=>?_) (by omega)
   by_cases e:j=i
   ·subst e
    rw[Ye a]at hy
    cases hy
    exact h
   ·exact b j y (by omega) hy
  ·rw[Yf h,Yf h,Yf h]
def Bk(v:Val):Bool:=decide ((v.kind≠11∧0<v.list.length)∨(v.kind≠12∧0<v.pairs.length)∨(v.kind≠10∧(0<v.slots.length∨0<v.raws.length))∨(v.text≠⟨#[]⟩∧¬(v.kind=7∨v.kind=8))∨(v.bits≠0∧(v.kind=7∨v.kind=8∨v.kind=10∨v.kind=11∨v.kind=12)))
def Ct(x:ByteArray)(p:Nat)(lo hi:Nat):Bool:=decide (p<x.size)&&decide (lo≤(x.get! p).toNat)&&decide ((x.get! p).toNat≤hi)
def BY(x:ByteArray)(p:Nat):Nat:=
 let b:=(x.get! p).toNat
 if b<0x80 then 1
 else if 0xc2≤b∧b≤0xdf∧Ct x (p+1) 0x80 0xbf=true then 2
 else if b=0xe0∧Ct x (p+1) 0xa0 0xbf=true∧Ct x (p+2) 0x80 0xbf=true then 3
 else if b=0xed∧Ct x (p+1) 0x80 0x9f=true∧Ct x (p+2) 0x80 0xbf=true then 3
 else if 0xe1≤b∧b≤0xef∧b≠0xed∧Ct x (p+1) 0x80 0xbf=true∧Ct x (p+2) 0x80 0xbf=true then 3
 else if b=0xf0∧Ct x (p+1) 0x90 0xbf=true∧Ct x (p+2) 0x80 0xbf=true∧Ct x (p+3) 0x80 0xbf=true then 4
 else if 0xf1≤b∧b≤0xf3∧Ct x (p+1) 0x80 0xbf=true∧Ct x (p+2) 0x80 0xbf=true∧Ct x (p+3) 0x80 0xbf=true then 4
 else if b=0xf4∧Ct x (p+1) 0x80 0x8f=true∧Ct x (p+2) 0x80 0xbf=true∧Ct x (p+3) 0x80 0xbf=true then 4
 else 0
def F5(x:ByteArray):Nat→Nat→Bool
 |0,_=>true
 |n+1,p=>if p<x.size then(if BY x p=0 then false else F5 x n (p+BY x p))else true
def Eu(x:ByteArray):Bool:=F5 x (x.size+1) 0
def Ik(n b:Int):Bool:=if n=1 then decide (b≤1)else if n=2 then decide (-2147483648≤IntKind.i64.wrap b∧IntKind.i64.wrap b≤2147483647)else if n=4 then decide (b≤4294967295)else if n=9 then decide (b≤2147483647)else true
def Eb(v:Val):Bool:=decide (v.list.length=0∧v.pairs.length=0∧v.slots.length=0∧v.raws.length=0)
def C9(n:Int):Bool:=decide (n=7∨n=8)
def Cs(n:Int)(v:Val):Bool:=decide (1≤n∧n≤9∧v.kind=n)&&Eb v&&(if C9 n then decide (v.bits=0∧v.text.size≤4096)&&(decide (n=8)||Eu v.text)else decide (v.text=⟨#[]⟩)&&Ik n v.bits)
def Ca(n:Int)(v:Val):Int:=if v.kind≠n∨Bk v=true then 12 else if 4096<v.text.size then 3 else if Cs n v=true then 0 else if n=7 then 7 else 12
def zE:Enm:=.mk ⟨#[]⟩ false [] [] []
def A8(s:Scm)(n:ByteArray):Msg×Bool:=Ch s.messages zM fun m=>decide (m.name=n)
def BA(s:Scm)(n:ByteArray):Enm×Bool:=Ch s.enums zE fun e=>decide (e.name=n)
def Ed(e:Enm)(b:Int):Bool:=e.items.any fun x=>decide (IntKind.u64.wrap x.num=b)
def BB(R:Msg→Val→Int)(s:Scm)(t:Typ)(v:Val):Int:=
 if t.kind=10 then(if(A8 s t.name).2=true then R (A8 s t.name).1 v else 10)
 else if t.kind<1∨9<t.kind then 12
 else if Ca t.kind v≠0∨t.kind≠9 then Ca t.kind v
 else if(BA s t.name).2=false then 10
 else if(BA s t.name).1.opn=false∧Ed (BA s t.name).1 v.bits=false then 16 else 0
def Gt(a b:Val):Bool:=decide (a.bits=b.bits)&&decide (a.text=b.text)
def Gx(E:Val→Int)(key:Int)(k:Bool)(l:List Pr)(i:Nat)(p:Pr):Int:=
 if Ca key p.key≠0 then Ca key p.key else if k=true∧((l.take i).any fun q=>Gt q.key p.key)=true then 9 else E p.val
def BL(R:Msg→Val→Int)(s:Scm)(k:Bool)(f:Fld)(v:Val):Int:=
 if f.card=4 then(if v.kind≠11∨Bk v=true then 12 else BI (fun _ x=>BB R s f.type x) v.list 0)
 else if f.card=5 then(if v.kind≠12∨Bk v=true then 12 else BI (Gx (BB R s f.type) f.key k v.pairs) v.pairs 0)
 else BB R s f.type v
def Gw(F:List Fld)(l:List Slt)(u:ByteArray):Bool:=!decide (u=⟨#[]⟩)&&l.any fun y=>decide ((AO F y.num).union=u)
def DI(R:Fld→Val→Int)(F:List Fld)(l:List Slt)(i:Nat)(x:Slt):Int:=
 if(BC F x.num).2=false then 8 else if Co (l.take i) x.num=true then 9 else if Gw F (l.take i) (AO F x.num).union=true then 15 else R (AO F x.num) x.val
def FY(l:List Slt)(f:Fld):Int:=if f.card=1∧Co l f.num=false then 14 else 0
def QI(s:Scm)(f:Fld)(x:Raw):Bool:=decide (f.type.kind=9)&&(BA s f.type.name).2&&!(BA s f.type.name).1.opn&&!decide (f.card=5)&&decide (x.wire=0)&&decide (x.bits<2147483648)&&!Ed (BA s f.type.name).1 x.bits
def F2(s:Scm)(F:List Fld)(x:Raw):Int:=
 if x.num<1∨65535<x.num∨x.wire<0∨6<x.wire∨(x.wire≤2∧x.data≠⟨#[]⟩)∨(2<x.wire∧x.bits≠0)then 1
 else if(BC F x.num).2=true∧QI s (AO F x.num) x=false then 1
 else if(x.wire=3∧4096<x.data.size)∨65536<x.data.size then 3 else 0
def AR(s:Scm)(k:Bool):Nat→Msg→Val→Int
 |0,_,v=>if v.kind≠10∨Bk v=true then 12 else 17
 |d+1,m,v=>
  if v.kind≠10∨Bk v=true then 12
  else if BI (DI (BL (AR s k d) s k) m.fields v.slots) v.slots 0≠0 then BI (DI (BL (AR s k d) s k) m.fields v.slots) v.slots 0
  else if BI (fun _ f=>FY v.slots f) m.fields 0≠0 then BI (fun _ f=>FY v.slots f) m.fields 0
  else BI (fun _ x=>F2 s m.fields x) v.raws 0
mutual
def cnt:Val→Nat
 |.mk _ _ _ l p s r=>1+r.length+A5 l+BG p+B3 s
def A5:List Val→Nat
 |[]=>0
 |v::l=>cnt v+A5 l
def M6:Pr→Nat
 |.mk k v=>cnt k+cnt v
def BG:List Pr→Nat
 |[]=>0
 |p::l=>M6 p+BG l
def M5:Slt→Nat
 |.mk _ v=>cnt v
def B3:List Slt→Nat
 |[]=>0
 |x::l=>M5 x+B3 l
end
def Fh(s:Scm)(k:Bool)(n:ByteArray)(v:Val):Int:=
 if(A8 s n).2=false then 10 else if AR s k 16 (A8 s n).1 v≠0 then AR s k 16 (A8 s n).1 v else if 4096<cnt v then 3 else 0
end Go.Proofs.YthgmbpciandpiaaGreat
