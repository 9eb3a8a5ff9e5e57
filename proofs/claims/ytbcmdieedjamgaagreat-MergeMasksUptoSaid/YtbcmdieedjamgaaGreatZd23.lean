import Derived.Test.YtbcmdieedjamgaaGreatZd22
import Derived.Test.YtbcmdieedjamgaaGreatZd21
import Derived.Sort.Walk0
import Derived.Test.YtbcmdieedjamgaaGreatZd00
namespace Go.Proofs.YtbcmdieedjamgaaGreat
set_option linter.all false
open Go Go.Eng
def DM(l:List Fld)(n:Nat):Prop:=∀(i:Nat) (a b:Fld),i+1<n→l[i]?=some a→l[i+1]?=some b→a.num<b.num
theorem Zwf{l:List Fld}{v:Nat}{a b:Fld}(h:DM l v)(g:l[v]?=some a)(j:0<v→l[v-1]?=some b∧b.num<a.num):DM l (v+1):=by
 intro i x y hi hx hy
 by_cases e:i+1<v
 ·exact h i x y e hx hy
 ·have d:i+1=v:=by omega
  have f:v-1=i:=by omega
  rw[d]at hy
  obtain⟨c,k⟩:=j (by omega)
  rw[f]at c
  rw[g]at hy
  rw[c]at hx
  cases hx
  cases hy
  exact k
structure GdM0 (s:Scm) (m:Msg):Prop where
 asc:DM m.fields m.fields.length
 df:∀(j:Nat) (f:Fld),m.fields[j]?=some f→I3 f∧LN f∧LV s f∧Oa f
def LS(e:Enm):Prop:=∃x,e.items[0]?=some x∧x.num=0
structure GdM (s:Scm) (m:Msg):Prop where
 asc:DM m.fields m.fields.length
 df:∀(j:Nat) (f:Fld),m.fields[j]?=some f→I3 f∧LN f∧LV s f∧Oa f
 en:∀(j:Nat) (e:Enm),s.enums[j]?=some e→LS e
theorem ZU3(x:Msg):x.fields.length+x.reserved.length+x.gone.length≤An (AH x):=by
 have a:=Cr (e:=Av) x.fields
 have b:=Cr (e:=CA) x.reserved
 have c:=Cr (e:=Bp) x.gone
 simp only[AH,An,bk]
 omega
theorem ZT6(x:Enm):x.items.length+x.reserved.length≤An (Ct x):=by
 have a:=Cr (e:=F8) x.items
 have b:=Cr (e:=CA) x.reserved
 simp only[Ct,An,bk]
 omega
theorem ZWf(x:Svc):x.methods.length≤An (Da x):=by
 have a:=Cr (e:=Hz) x.methods
 simp only[Da,An,bk]
 omega
theorem ZXW(d:ByteArray)(b:Bool)(n e:Int):Ok (fun y=>y.length≤1) (Bv d [] b n e):=(Ew d [] b n e (by simp)).mono fun y h=>by simpa using h.2.1
theorem o66(s:Scm)(m:Msg)(l:List Bool)(h:SzS s)(hm:SzM m)(hl:l.length=s.messages.length):Ok (fun y=>y.length≤20*(An (AH m)+1)∧(y.length=0→GdM0 s m)) (dz s m l):=by
 have g:=ZU3 m
 have G:=hm.fl
 have q:=hm.r
 have B:=hm.gl
 have E:∀(v:Nat) (r:List Prb) (e:Fld),v≤m.fields.length→Ok (Sum.elim Tr No) (Aj (Wx s m l v r e) Ag (false,0)):=by
  intro w r e I
  refine Bt (fun v:Bool×Nat=>v.2≤w) (fun v:Bool×Nat=>w-v.2) (by simp) (BR (by omega)) fun v k=>?_
  obtain⟨b,i⟩:=v
  dsimp only at k
  dsimp only[Wx,xZ,br,ix,vz,wg,vs,ln,Af,wa,fl,br]
  (repeat' (first|with_reducible (first|refine AI (fun _=>?_) fun _=>?_|refine AG ?_|refine BN ?_ fun _ _ _=>?_|refine AM ?_ ?_)))<;>exact AU
 have D:∀a:List Prb,a.length≤9→Ok (Sum.elim (fun y:List Prb=>y.length≤9+10*m.fields.length∧(y.length=0→GdM0 s m)) No) (Aj (We s m l) Ag (0,a)):=by
  intro a o
  refine Bt (fun v:Nat×List Prb=>v.1≤m.fields.length∧v.2.length≤9+10*v.1∧(v.2.length=0→DM m.fields v.1∧∀(j:Nat) (f:Fld),j<v.1→m.fields[j]?=some f→I3 f∧LN f∧LV s f∧Oa f)) (fun v:Nat×List Prb=>m.fields.length-v.1) ⟨by simp,by simpa using o,fun _=>⟨fun i x y hi=>by simp at hi,fun j f n=>by simp at n⟩⟩ (BR (by omega)) fun v k=>?_
  obtain⟨v,r⟩:=v
  obtain⟨t,u,c⟩:=k
  dsimp only at t u c
  dsimp only[We,lm,mY,oJ,lz,oc,gS,mq,iL,m9,ox,oH,jw,pl,iV,mN,jg,uI,bg,wT,Zo,x0,ts,wy,xy,br,ix,AN,vz,wg,vs,vg,ln,Af,lc,cl,AE,wa,wi,fl,Ai,br]
  (repeat' (first|with_reducible (first|refine AI (fun _=>?_) fun _=>?_|refine AG ?_|refine BN ?_ fun _ _ _=>?_)|(with_reducible apply BF;(exact E _ _ _ (by omega));all_goals(intro _ _;try dsimp only))|(with_reducible apply AF;(exact Ew _ _ _ _ _ (by omega));intro _ _)|(with_reducible apply AF;(exact LK _ (hm.f _ (by assumption)).n);intro _ _)|(with_reducible apply AF;(exact jU _ _ q);intro _ _)|(with_reducible apply AF;(exact o86 _ _ B);intro _ _)|(with_reducible apply AF;(exact o91 _);intro _ _)|(with_reducible apply AF;(exact o92 _ _ h);intro _ _)|(with_reducible apply AF;(exact o93 _ _ hm Cc);intro _ _)|(with_reducible apply AF;(exact o94 _ _ h (hm.f _ (by assumption)));intro _ _)|(with_reducible apply AF;(exact Kf _ _ _ _ _ (by omega) (hm.f _ (by assumption)).o);intro _ _)|(with_reducible apply Bi;(exact fun _=>Ew _ _ _ _ _ (by omega));intro _)|(with_reducible apply Bi;(exact fun _=>LK _ (hm.f _ (by assumption)).n);intro _)|(with_reducible apply Bi;(exact fun _=>jU _ _ q);intro _)|(with_reducible apply Bi;(exact fun _=>o86 _ _ B);intro _)|(with_reducible apply Bi;(exact fun _=>o91 _);intro _)|(with_reducible apply Bi;(exact fun _=>o92 _ _ h);intro _)|(with_reducible apply Bi;(exact fun _=>o93 _ _ hm Cc);intro _)|(with_reducible apply Bi;(exact fun _=>o94 _ _ h (hm.f _ (by assumption)));intro _)|(with_reducible apply Bi;(exact fun _=>Kf _ _ _ _ _ (by omega) (hm.f _ (by assumption)).o);intro _)|with_reducible (first|refine FU ?_ fun _=>?_|refine AM ?_ ?_)))
  all_goals try exact Cc
  have hx:=‹decide (0<(v:Int))=true→m.fields[((v:Int)-1).toNat]?=some (m.fields.getD ((v:Int)-1).toNat Rw.z)∧_›
  have he:=‹m.fields[v]?=some _›
  dsimp only
  refine⟨⟨by exact Cc,by omega,fun p=>⟨Zwf (b:=m.fields.getD ((v:Int)-1).toNat Rw.z) (c (by omega)).1 he fun k=>?_,fun j f n d=>?_⟩⟩,by exact Cc⟩
  have ev:((v:Int)-1).toNat=v-1:=by omega
  refine⟨ev▸(hx (Yo (by omega))).1,?_⟩
  rcases Int.lt_or_le (m.fields.getD ((v:Int)-1).toNat Rw.z).num (Fld.num _)with A|z
  ·exact A
  ·exfalso
   have H:=Yd _ _▸And.intro (Yo (show(0:Int)<v by omega)) (Yo z)
   grind
  ·rcases Nat.lt_or_eq_of_le (Nat.le_of_lt_succ n)with n|rfl
   ·exact(c (by omega)).2 j f n d
   ·rw[he]at d
    cases d
    refine⟨(show _=true→I3 _ by assumption) (Oe fun g=>?_),(show _=true→LN _ by assumption) (Oe fun g=>?_),(show _=true→LV s _ by assumption) (Oe fun g=>?_),(show _=true→∀f,m.fields[j]?=some f→Oa f by assumption) (Oe fun g=>?_) _ he⟩
    all_goals(
     rw[Bool.not_eq_true]at g
     subst g
     simp only[Y6,Sg]at*
     omega)
  have C:v=m.fields.length:=by exact Cc
  subst C
  exact⟨by exact Cc,fun p=>⟨(c p).1,fun j f d=>(c p).2 j f (Yb.1 d).1 d⟩⟩
 have F:∀a:List Prb,a.length≤20000000→Ok (Sum.elim (fun y:List Prb=>a.length≤y.length∧y.length≤a.length+m.gone.length) No) (Aj (WG s m l) Ag (0,a)):=by
  intro a o
  refine Bt (fun v:Nat×List Prb=>v.1≤m.gone.length∧v.2.length≤a.length+v.1∧a.length≤v.2.length) (fun v:Nat×List Prb=>m.gone.length-v.1) ⟨by simp,by simp,by simp⟩ (BR (by omega)) fun v k=>?_
  obtain⟨v,r⟩:=v
  obtain⟨t,u,c⟩:=k
  dsimp only at t u c
  dsimp only[WG,ZzS,mg,l5,mH,br,ix,vz,wg,vs,ln,Af,lc,cl,wa,fl,Ai,br]
  (repeat' (first|with_reducible (first|refine AI (fun _=>?_) fun _=>?_|refine AG ?_|refine BN ?_ fun _ _ _=>?_)|(with_reducible apply AF;(exact Ew _ _ _ _ _ (by omega));intro _ _)|(with_reducible apply AF;(exact jV _ (hm.g _ (by assumption)));intro _ _)|with_reducible refine AM ?_ ?_))<;>exact AU
 dsimp only[dz,ZzN,lN,lM,lV,oQ,my,mV,mU,lR,pj,lZ,li,nT,na,vz,vy,vw,wg,lr,lc,cl,fl,fr,Ai]
 (repeat' (first|with_reducible (first|refine AI (fun _=>?_) fun _=>?_|refine AG ?_)|(with_reducible apply BF;(exact D _ Cc);all_goals(intro _ _;try dsimp only))|(with_reducible apply BF;(exact F _ (by omega));all_goals(intro _ _;try dsimp only))|(with_reducible apply AF;(exact jT _ hm.n);intro _ _)|(with_reducible apply AF;(exact ZXW _ _ _ _);intro _ _)|(with_reducible apply AF;(exact Ew _ _ _ _ _ (by omega));intro _ _)|(with_reducible apply AF;(exact Kf _ _ _ _ _ (by omega) hm.o);intro _ _)|(with_reducible apply AF;(exact o96 _ _ _ _ _ (by omega) q);intro _ _)|(with_reducible apply AF;(exact o87 _ _ _ h hm hl);intro _ _)|with_reducible refine AM ?_ ?_))<;>exact AU
theorem o67(e:Enm)(hm:SzE e):Ok (fun y=>y.length≤20*(An (Ct e)+1)∧(y.length=0→LS e)) (ed e):=by
 have A:=ZT6 e
 have z:=hm.il
 have g:=hm.r
 have q:∀(v:Nat) (r:List Prb) (x:Itm),v≤e.items.length→Ok (Sum.elim Tr No) (Aj (WK e v r x) Ag (false,0)):=by
  intro w r x B
  refine Bt (fun v:Bool×Nat=>v.2≤w) (fun v:Bool×Nat=>w-v.2) (by simp) (BR (by omega)) fun v f=>?_
  obtain⟨b,i⟩:=v
  dsimp only at f
  dsimp only[WK,to,br,ix,vz,wg,vs,ln,Af,wa,fl,br]
  (repeat' (first|with_reducible (first|refine AI (fun _=>?_) fun _=>?_|refine AG ?_|refine BN ?_ fun _ _ _=>?_|refine AM ?_ ?_)))<;>exact AU
 have p:∀a:List Prb,a.length≤9→Ok (Sum.elim (fun y:List Prb=>a.length≤y.length∧y.length≤9+10*e.items.length) No) (Aj (V3 e) Ag (0,a)):=by
  intro a d
  refine Bt (fun v:Nat×List Prb=>v.1≤e.items.length∧a.length≤v.2.length∧v.2.length≤9+10*v.1) (fun v:Nat×List Prb=>e.items.length-v.1) ⟨by simp,by simp,by simpa using d⟩ (BR (by omega)) fun v f=>?_
  obtain⟨v,r⟩:=v
  obtain⟨m,o,n⟩:=f
  dsimp only at m n o
  dsimp only[V3,mP,lL,n0,oW,nA,iC,ns,jz,yk,pQ,sh,Zm,r9,yt,su,rV,br,ix,AN,vz,wg,vs,vg,ln,Af,lc,cl,wa,wi,fl,Ai,br]
  (repeat' (first|with_reducible (first|refine AI (fun _=>?_) fun _=>?_|refine AG ?_|refine BN ?_ fun _ _ _=>?_)|(with_reducible apply BF;(exact q _ _ _ (by omega));all_goals(intro _ _;try dsimp only))|(with_reducible apply AF;(exact Ew _ _ _ _ _ (by omega));intro _ _)|(with_reducible apply AF;(exact LK _ (hm.i _ (by assumption)).n);intro _ _)|(with_reducible apply AF;(exact jU _ _ g);intro _ _)|(with_reducible apply AF;(exact Kf _ _ _ _ _ (by omega) (hm.i _ (by assumption)).o);intro _ _)|with_reducible (first|refine FU ?_ fun _=>?_|refine AM ?_ ?_)))<;>exact AU
 dsimp only[ed,og,ZzR,n7,mZ,ZzZ,lW,pr,mz,o9,mf,oz,nd,oG,AN,vz,vy,vw,wg,lr,lc,cl,fl,fr,Ai]
 (repeat' (first|with_reducible (first|refine AI (fun _=>?_) fun _=>?_|refine AG ?_)|(with_reducible apply BF;(exact p _ Cc);all_goals(intro _ _;try dsimp only))|(with_reducible apply AF;(exact jT _ hm.n);intro _ _)|(with_reducible apply AF;(exact Ew _ _ _ _ _ Cc);intro _ _)|(with_reducible apply AF;(exact Kf _ _ _ _ _ (by omega) hm.o);intro _ _)|(with_reducible apply AF;(exact o96 _ _ _ _ _ (by omega) g);intro _ _)|with_reducible (first|refine FU ?_ fun _=>?_|refine AM ?_ ?_)))
 all_goals try exact AU
 rename_i C a0 D a1 E k x F a3 b a4 G s H t
 refine⟨by exact Cc,fun u=>?_⟩
 have l:¬(e.items.length:Int)<1:=fun h=>by
  have:=k.2.2 (by simp only[h,Yp,Ol])
  omega
 have j:(0:Int)<e.items.length:=by omega
 refine⟨_,(x (Yo j)).1,Decidable.not_not.1 fun c=>?_⟩
 have:=a3.2.2 (by simp only[j,c,Yp,YU,Y6,Oh])
 omega
theorem o68(s:Scm)(e:Svc)(h:SzS s)(hm:SzW e):Ok (fun y=>y.length≤20*(An (Da e)+1)) (dK s e):=by
 have j:=ZWf e
 have i:=hm.ml
 have g:∀b:List Prb,b.length≤9→Ok (Sum.elim (fun y:List Prb=>y.length≤9+10*e.methods.length) No) (Aj (Wi s e) Ag (0,b)):=by
  intro b a
  refine Bt (fun v:Nat×List Prb=>v.1≤e.methods.length∧v.2.length≤9+10*v.1) (fun v:Nat×List Prb=>e.methods.length-v.1) ⟨by simp,by simpa using a⟩ (BR (by omega)) fun v f=>?_
  obtain⟨v,r⟩:=v
  obtain⟨c,d⟩:=f
  dsimp only at c d
  dsimp only[Wi,nq,oI,ll,ma,ZC,uB,qB,p6,xD,rG,ry,qb,x2,br,ix,AN,vz,wg,vs,vg,ln,Af,lc,cl,AE,wa,wi,fl,Ai,br]
  (repeat' (first|with_reducible (first|refine AI (fun _=>?_) fun _=>?_|refine AG ?_|refine BN ?_ fun _ _ _=>?_)|(with_reducible apply AF;(exact Ew _ _ _ _ _ (by omega));intro _ _)|(with_reducible apply AF;(exact Rj _ _ h);intro _ _)|(with_reducible apply AF;(exact LK _ (hm.m _ (by assumption)).n);intro _ _)|(with_reducible apply AF;(exact Kf _ _ _ _ _ (by omega) (hm.m _ (by assumption)).o);intro _ _)|(with_reducible apply Bi;(exact fun _=>Ew _ _ _ _ _ (by omega));intro _)|(with_reducible apply Bi;(exact fun _=>Rj _ _ h);intro _)|(with_reducible apply Bi;(exact fun _=>LK _ (hm.m _ (by assumption)).n);intro _)|(with_reducible apply Bi;(exact fun _=>Kf _ _ _ _ _ (by omega) (hm.m _ (by assumption)).o);intro _)|with_reducible (first|refine FU ?_ fun _=>?_|refine AM ?_ ?_)))<;>exact AU
 dsimp only[dK,pt,mr,ou,lP,od,lB,pg,nX,nv,vz,vw,wg,lr,lc,cl,fl,fr,Ai]
 (repeat' (first|with_reducible (first|refine AI (fun _=>?_) fun _=>?_|refine AG ?_)|(with_reducible apply BF;(exact g _ Cc);all_goals(intro _ _;try dsimp only))|(with_reducible apply AF;(exact jT _ hm.n);intro _ _)|(with_reducible apply AF;(exact ZXW _ _ _ _);intro _ _)|(with_reducible apply AF;(exact Ew _ _ _ _ _ (by omega));intro _ _)|(with_reducible apply AF;(exact Kf _ _ _ _ _ (by omega) hm.o);intro _ _)|with_reducible refine AM ?_ ?_))<;>exact AU
structure Few (s:Scm):Prop where
 m:s.messages.length≤150
 e:s.enums.length≤150
 w:s.services.length≤150
theorem o37{s:Scm}(hs:An (Am s)≤1048576):Ok (fun y=>y.length=0→(∀(i:Nat) (m:Msg),s.messages[i]?=some m→GdM0 s m)∧∀(i:Nat) (e:Enm),s.enums[i]?=some e→LS e) (dP s):=by
 have h:=EW hs
 have u:=h.ml
 have w:=h.el
 have x:=h.wl
 have t:AB (s.messages.map AH)+AB (s.enums.map Ct)+AB (s.services.map Da)≤1048576:=by
  simp only[Am,An,bk]at hs
  omega
 have n:Ok (Sum.elim (fun y:List Prb=>y.length≤9) No) (Aj (WB s) Ag (1,[])):=by
  refine Bt (fun v:Nat×List Prb=>1≤v.1∧v.1≤4∧v.2.length≤2*v.1) (fun v:Nat×List Prb=>4-v.1) ⟨by simp,by simp,by simp⟩ (BR (by omega)) fun v g=>?_
  obtain⟨v,r⟩:=v
  obtain⟨c,d,f⟩:=g
  dsimp only at c d f
  dsimp only[WB,sD,qS,xx,qW,wd,tg,rJ,br,vz,wg,vs,ln,Af,lc,cl,wa,fl,Ai,br]
  (repeat' (first|with_reducible (first|refine AI (fun _=>?_) fun _=>?_|refine AG ?_)|(with_reducible apply AF;(exact jS _ _ h);intro _ _)|(with_reducible apply AF;(exact Ew _ _ _ _ _ (by omega));intro _ _)|(with_reducible apply AF;(exact o63 _ (by assumption));intro _ _)|with_reducible refine AM ?_ ?_))<;>exact AU
 have o:∀(a:List Prb) (l:List Bool),a.length≤10→l.length=s.messages.length→Ok (Sum.elim (fun y:List Prb=>y.length≤20971540∧(y.length=0→∀(i:Nat) (m:Msg),s.messages[i]?=some m→GdM0 s m)) No) (Aj (WP s l) Ag (0,a)):=by
  intro a l b hl
  refine Bt (fun v:Nat×List Prb=>v.1≤s.messages.length∧v.2.length≤10+20*AB ((s.messages.take v.1).map AH)∧(v.2.length=0→∀(i:Nat) (m:Msg),i<v.1→s.messages[i]?=some m→GdM0 s m)) (fun v:Nat×List Prb=>s.messages.length-v.1) ⟨by simp,Eb b (Oq _ _),fun _ i m hi=>by simp at hi⟩ (BR (by omega)) fun v g=>?_
  obtain⟨v,r⟩:=v
  obtain⟨c,d,f⟩:=g
  dsimp only at c d f
  have a1:=M1 AH s.messages v
  have j:=M1 AH s.messages (v+1)
  dsimp only[WP,mn,X7,Zb,br,ix,vz,wg,vs,ln,Af,lc,aq,cl,wa,tw,fl,Ai,br]
  (repeat' (first|with_reducible (first|refine AI (fun _=>?_) fun _=>?_|refine AG ?_|refine BN ?_ fun _ _ _=>?_)|(with_reducible apply AF;(exact o66 _ _ _ h (h.m _ (by assumption)) hl);intro _ _)|with_reducible refine AM ?_ ?_))<;>first|(have a3:=T6 AH ‹s.messages[v]?=some _›;exact AU)|exact AU
 have p:∀a:List Prb,a.length≤20971540→Ok (Sum.elim (fun y:List Prb=>a.length≤y.length∧y.length≤41943080∧(y.length=0→∀(i:Nat) (e:Enm),s.enums[i]?=some e→LS e)) No) (Aj (WE s) Ag (0,a)):=by
  intro a b
  refine Bt (fun v:Nat×List Prb=>v.1≤s.enums.length∧v.2.length≤20971540+20*AB ((s.enums.take v.1).map Ct)∧a.length≤v.2.length∧(v.2.length=0→∀(i:Nat) (e:Enm),i<v.1→s.enums[i]?=some e→LS e)) (fun v:Nat×List Prb=>s.enums.length-v.1) ⟨by simp,Eb b (Oq _ _),by simp,fun _ i e hi=>by simp at hi⟩ (BR (by omega)) fun v g=>?_
  obtain⟨v,r⟩:=v
  obtain⟨c,d,f,k⟩:=g
  dsimp only at c d f k
  have a1:=M1 Ct s.enums v
  have j:=M1 Ct s.enums (v+1)
  dsimp only[WE,mW,je,iN,br,ix,vz,wg,vs,ln,Af,lc,aq,cl,wa,tw,fl,Ai,br]
  (repeat' (first|with_reducible (first|refine AI (fun _=>?_) fun _=>?_|refine AG ?_|refine BN ?_ fun _ _ _=>?_)|(with_reducible apply AF;(exact o67 _ (h.e _ (by assumption)));intro _ _)|with_reducible refine AM ?_ ?_))<;>first|(have a3:=T6 Ct ‹s.enums[v]?=some _›;exact AU)|exact AU
 have q:∀a:List Prb,a.length≤41943080→Ok (Sum.elim (fun y:List Prb=>a.length≤y.length) No) (Aj (Wr s) Ag (0,a)):=by
  intro a b
  refine Bt (fun v:Nat×List Prb=>v.1≤s.services.length∧v.2.length≤41943080+20*AB ((s.services.take v.1).map Da)∧a.length≤v.2.length) (fun v:Nat×List Prb=>s.services.length-v.1) ⟨by simp,Eb b (Oq _ _),by simp⟩ (BR (by omega)) fun v g=>?_
  obtain⟨v,r⟩:=v
  obtain⟨c,d,f⟩:=g
  dsimp only at c d f
  have a1:=M1 Da s.services v
  have j:=M1 Da s.services (v+1)
  dsimp only[Wr,o5,ju,hP,br,ix,vz,wg,vs,ln,Af,lc,aq,cl,wa,tw,fl,Ai,br]
  (repeat' (first|with_reducible (first|refine AI (fun _=>?_) fun _=>?_|refine AG ?_|refine BN ?_ fun _ _ _=>?_)|(with_reducible apply AF;(exact o68 _ _ h (h.w _ (by assumption)));intro _ _)|with_reducible refine AM ?_ ?_))<;>first|(have a3:=T6 Da ‹s.services[v]?=some _›;exact AU)|exact AU
 dsimp only[dP,o6,pF,l4,lx,mF,mw,ob,nh,nr,Zz3,m6,Zz4,vz,vw,wg,lr,lc,cl,AE,fl,fr]
 (repeat' (first|with_reducible (first|refine AI (fun _=>?_) fun _=>?_|refine AG ?_)|(with_reducible apply BF;(exact n);all_goals(intro _ _;try dsimp only))|(with_reducible apply BF;(exact o _ _ (by omega) (by assumption));all_goals(intro _ _;try dsimp only))|(with_reducible apply BF;(exact p _ (by omega));all_goals(intro _ _;try dsimp only))|(with_reducible apply BF;(exact q _ (by omega));all_goals(intro _ _;try dsimp only))|(with_reducible apply AF;(exact jS _ _ h);intro _ _)|(with_reducible apply AF;(exact o64 _ _ (by assumption) (by assumption));intro _ _)|(with_reducible apply AF;(exact o65 _ h);intro _ _)|(with_reducible apply AF;(exact Ew _ _ _ _ _ (by omega));intro _ _)|(with_reducible apply Bi;(exact fun _=>jS _ _ h);intro _)|(with_reducible apply Bi;(exact fun _=>o64 _ _ (by assumption) (by assumption));intro _)|(with_reducible apply Bi;(exact fun _=>o65 _ h);intro _)|(with_reducible apply Bi;(exact fun _=>Ew _ _ _ _ _ (by omega));intro _)|with_reducible refine AM ?_ ?_))<;>exact AU
theorem o16{s:Scm}(hs:An (Am s)≤1048576):Ok (fun b=>b=true→∀(i:Nat) (m:Msg),s.messages[i]?=some m→GdM s m) (Tz s):=by
 have k:Ok (fun b=>b=true→(∀(i:Nat) (m:Msg),s.messages[i]?=some m→GdM0 s m)∧∀(i:Nat) (e:Enm),s.enums[i]?=some e→LS e) (Tz s):=by
  dsimp only[Tz,y1,vz,wg,lr,cl,Ai]
  (repeat' (first|with_reducible (first|refine AI (fun _=>?_) fun _=>?_|refine AG ?_)|(with_reducible apply AF;(exact o37 hs);intro _ _)|with_reducible refine AM ?_ ?_))<;>exact AU
 exact k.mono fun b h a i m hm=>⟨((h a).1 i m hm).asc,((h a).1 i m hm).df,(h a).2⟩
end Go.Proofs.YtbcmdieedjamgaaGreat
namespace Go.Proofs.YtbcmdieedjamgaaGreat
set_option linter.all false
open Go Go.Eng
abbrev AP(v:Val):Prop:=An (Ae v)≤1048576
theorem Q4{v x:Val}(h:AP v)(hx:x∈v.list):AP x:=by
 have a:=CF (e:=AW) hx
 rw[GG]at a
 unfold AP at*
 conv at h=>unfold Ae
 simp only[An,bk]at h
 omega
theorem EL{v:Val}{x:Pr}(h:AP v)(hx:x∈v.pairs):AP x.key∧AP x.val:=by
 have a:=CF (e:=Aq) hx
 have e:Aq x=Ae x.key++Ae x.val:=by rw[Lu];rfl
 rw[e,M6]at a
 unfold AP at*
 conv at h=>unfold Ae
 simp only[An,bk]at h
 omega
theorem Fm{v:Val}{x:Slt}(h:AP v)(hx:x∈v.slots):AP x.val:=by
 have a:=CF (e:=Ap) hx
 have e:Ap x=D.int .i64 x.num::Ae x.val:=by rw[Ll];rfl
 rw[e,An]at a
 unfold AP at*
 conv at h=>unfold Ae
 simp only[An,bk]at h
 omega
theorem MX{α:Type}(p:α→Bool):∀l:List α,l.find? p=(l.findIdx? p).bind fun i=>l[i]?
 |[]=>rfl
 |x::l=>by
  rw[List.find?_cons,List.findIdx?_cons]
  cases h:p x with
  |true=>simp
  |false=>
   rw[MX p l]
   cases List.findIdx? p l<;>simp
def C2{α:Type}[Inhabited α](l:List α)(z:α)(p:α→Bool):α×Bool:=(l.find? p).elim (z,false) fun x=>(x,true)
theorem PU{α:Type}[Inhabited α](l:List α)(z:α)(p:α→Bool):C2 l z p=match l.findIdx? p with|some i=>(l.getD i default,true)|none=>(z,false):=by
 unfold C2
 rw[MX]
 cases h:l.findIdx? p with
 |none=>rfl
 |some i=>
  have:=(Y3.1 h).1
  simp[this]
def zM:Msg:=.mk ⟨#[]⟩ [] [] [] []
def zF:Fld:=.mk 0 ⟨#[]⟩ 0 0 (.mk 0 ⟨#[]⟩) ⟨#[]⟩ false (.mk 0 0 ⟨#[]⟩ [] [] [] []) []
theorem Xd(s:Scm)(n:ByteArray)(h:s.messages.length≤1048576):K9 s n=some (C2 s.messages zM fun m=>decide (m.name=n)):=by
 have c:=Di (B:=Q7 s n) (N:=Ag) s.messages (fun m=>decide (m.name=n)) (fun i=>(s.messages.getD i default,true)) () (fun i x hx=>by
  have a:=Ba hx
  have d:=(Yb.1 hx).1
  have b:i+1<9223372036854775808:=by omega
  dsimp only[Q7,Zl,br,ix,vz,wg,vs,Ar,ln,Af,wa,Ai,br]
  simp only[a,b,hx,Yp,Yq,Ya,Yg,YQ]
  cases decide (x.name=n)<;>simp) (by simp[Q7,Zl,br,ix,vz,wg,vs,Ar,ln,Af,wa,Ai,br]) (AK (by omega))
 dsimp only[K9,r8,qi,xH,wg,lr,lc]
 rw[c,PU]
 cases s.messages.findIdx? fun m=>decide (m.name=n)<;>rfl
theorem m84(l:List Msg)(n:ByteArray)(h:l.length≤1048576):Tv l (fun z=>MK z n)=some (C2 l zM fun m=>decide (m.name=n)):=by
 have c:=Di (B:=QC l fun z=>MK z n) (N:=Ag) l (fun m=>decide (m.name=n)) (fun i=>(l.getD i default,true)) () (fun i x hx=>by
  have a:=Ba hx
  have d:=(Yb.1 hx).1
  have b:i+1<9223372036854775808:=by omega
  have e:MK x n=some (decide (x.name=n)):=rfl
  dsimp only[QC,aj,br,ix,wg,vs,Ar,ln,Af,cf,wa,br]
  simp only[a,b,hx,e,Yp,Yq,Ya,Yg,YQ]
  cases decide (x.name=n)<;>simp) (by simp[QC,aj,br,ix,wg,vs,Ar,ln,Af,cf,wa,br]) (AK (by omega))
 dsimp only[Tv,ym,vP,xV,vz,wg,lr,lc,Ai]
 rw[c,PU]
 cases l.findIdx? fun m=>decide (m.name=n)<;>rfl
theorem M7{s:Scm}(h:SzS s)(n:ByteArray):(C2 s.messages zM fun m=>decide (m.name=n)).1.fields.length≤1048576:=by
 unfold C2
 cases e:s.messages.find? fun m=>decide (m.name=n)with
 |none=>simp[zM]
 |some m=>exact(h.m _ (Ha e)).fl
theorem tx{v x:Val}(hx:x∈v.list):An (Ae x)<An (Ae v):=by
 have a:=CF (e:=AW) hx
 rw[GG]at a
 conv=>rhs;unfold Ae
 simp only[An,bk]
 omega
theorem V9{v:Val}{x:Pr}(hx:x∈v.pairs):An (Ae x.key)<An (Ae v)∧An (Ae x.val)<An (Ae v):=by
 have b:=CF (e:=Aq) hx
 have e:Aq x=Ae x.key++Ae x.val:=by rw[Lu];rfl
 rw[e,M6]at b
 have a:An (Ae v)=An [.int .i64 v.kind,.int .u64 v.bits,.str v.text,.list (v.list.map AW),.list (v.pairs.map Aq),.list (v.slots.map Ap),.list (v.raws.map Au)]:=rfl
 rw[a]
 simp only[An,bk]
 omega
theorem uA{v:Val}{x:Slt}(hx:x∈v.slots):An (Ae x.val)<An (Ae v):=by
 have a:=CF (e:=Ap) hx
 have e:Ap x=D.int .i64 x.num::Ae x.val:=by rw[Ll];rfl
 rw[e,An]at a
 have b:An (Ae v)=An [.int .i64 v.kind,.int .u64 v.bits,.str v.text,.list (v.list.map AW),.list (v.pairs.map Aq),.list (v.slots.map Ap),.list (v.raws.map Au)]:=rfl
 rw[b]
 simp only[An,bk]at a⊢
 omega
def BH(F:List Fld)(k:Int):Fld×Bool:=C2 F zF fun f=>decide (f.num=k)
def AY(F:List Fld)(k:Int):Fld:=(BH F k).1
def Ay(s:Scm)(n:ByteArray):List Fld:=(C2 s.messages zM fun m=>decide (m.name=n)).1.fields
theorem n61(s:Scm)(n:ByteArray)(h:s.messages.length≤1048576):TK s n=some (C2 s.messages zM fun m=>decide (m.name=n)):=by
 dsimp only[TK,wG,wg,lr,cs]
 rw[m84 _ _ h]
 rfl
theorem n74(l:List Fld)(k:Int)(h:l.length≤1048576):TA l (fun z=>MN z k)=some (BH l k):=by
 have c:=Di (B:=QU l fun z=>MN z k) (N:=Ag) l (fun f=>decide (f.num=k)) (fun i=>(l.getD i default,true)) () (fun i x hx=>by
  have a:=Ba hx
  have d:=(Yb.1 hx).1
  have b:i+1<9223372036854775808:=by omega
  have e:MN x k=some (decide (x.num=k)):=rfl
  dsimp only[QU,ZQ,br,ix,wg,vs,Ar,ln,Af,cf,wa,br]
  simp only[a,b,hx,e,Yp,Yq,Ya,Yg,YQ]
  cases decide (x.num=k)<;>simp) (by simp[QU,ZQ,br,ix,wg,vs,Ar,ln,Af,cf,wa,br]) (AK (by omega))
 dsimp only[TA,vd,ut,sW,vz,wg,lr,lc,Ai]
 unfold BH
 rw[c,PU]
 cases l.findIdx? fun m=>decide (m.num=k)<;>rfl
theorem n43(m:Msg)(k:Int)(h:m.fields.length≤1048576):fd m k=some (BH m.fields k):=by
 dsimp only[fd,wP,wg,lr,cs]
 rw[n74 _ _ h]
 rfl
theorem jQ(m:Msg)(k:Int)(h:m.fields.length≤1048576):eC m k=some (BH m.fields k):=by
 have c:=Di (B:=P4 m k) (N:=Ag) m.fields (fun f=>decide (f.num=k)) (fun i=>(m.fields.getD i default,true)) () (fun i x hx=>by
  have a:=Ba hx
  have d:=(Yb.1 hx).1
  have b:i+1<9223372036854775808:=by omega
  dsimp only[P4,jB,br,ix,vz,wg,vs,Ar,ln,Af,wa,Ai,br]
  simp only[a,b,hx,Yp,Yq,Ya,Yg,YQ]
  cases decide (x.num=k)<;>simp) (by simp[P4,jB,br,ix,vz,wg,vs,Ar,ln,Af,wa,Ai,br]) (AK (by omega))
 dsimp only[eC,l0,mh,lY,wg,lr,lc]
 unfold BH
 rw[c,PU]
 cases m.fields.findIdx? fun f=>decide (f.num=k)<;>rfl
def CR{α:Type}(l:List α)(p:α→Bool):Int:=match l.findIdx? p with
 |some i=>(i:Int)
 |none=>-1
theorem ZFB{α:Type}(l:List α)(p:α→Bool):decide (0≤CR l p)=l.any p:=by
 unfold CR
 rw[←Oc]
 cases l.findIdx? p with
 |none=>rfl
 |some i=>simp
theorem n70(l:List Slt)(f:Slt→Option Bool)(p:Slt→Bool)(d:∀x∈l,f x=some (p x))(h:l.length<4611686018427387904):TN l f=some (CR l p):=by
 have e:=Di (B:=QR l f) (N:=Ag) l p (fun i=>(i:Int)) () (fun i x hx=>by
  have a:=Ba hx
  have g:=(Yb.1 hx).1
  have b:i+1<9223372036854775808:=by omega
  have c:=d x (Yi hx)
  dsimp only[QR,ac,br,ix,vs,Ar,ln,Af,cf,wa,br]
  simp only[a,b,c,hx,Yp,Yq,Ya]
  cases p x<;>simp) (by simp[QR,ac,br,ix,vs,Ar,ln,Af,cf,wa,br]) (AK h)
 dsimp only[TN,yP,yg,w9,vz,lr,lc,Ai]
 rw[e]
 unfold CR
 cases l.findIdx? p<;>rfl
def BS(l:List Slt)(k:Int):Bool:=l.any fun x=>decide (x.num=k)
theorem n19(v:Val)(k:Int)(h:v.slots.length<4611686018427387904):eO v k=some (BS v.slots k):=by
 dsimp only[eO,wj,wg,lr,cl,ZfB,ZzP,lr,cs]
 rw[n70 v.slots (fun z=>TL z k) (fun x=>decide (x.num=k)) (fun x _=>rfl) h]
 simp only[Ya]
 rw[ZFB]
 rfl
theorem ZVj{v:Val}{x:Raw}(h:AP v)(hx:x∈v.raws):x.data.size≤1048576:=by
 have a:=CF (e:=Au) hx
 unfold AP at h
 conv at h=>unfold Ae
 simp only[An,bk,Au]at h a
 omega
theorem Znw{F:List Fld}{k:Int}(h:(BH F k).2=true):(AY F k).num=k:=by
 unfold AY BH C2 at*
 cases e:F.find? fun f=>decide (f.num=k)with
 |none=>rw[e]at h;cases h
 |some f=>exact Y1 (p:=f.num=k) (R4 (p:=fun f:Fld=>decide (f.num=k)) e)
abbrev WL:=Scm→Fld→Val→Int→Bool→Option Int
def Cb{α:Type}(f:Nat→α→Int):List α→Nat→Int
 |[],_=>0
 |x::l,i=>if f i x=0 then Cb f l (i+1)else f i x
theorem Qo{α:Type}(f:Nat→α→Int):∀(l:List α) (i:Nat),Cb f l i=0↔∀(j:Nat) (x:α),l[j]?=some x→f (i+j) x=0
 |[],i=>by simp[Cb]
 |x::l,i=>by
  unfold Cb
  have a:=Qo f l (i+1)
  by_cases h:f i x=0
  ·rw[Yj h,a]
   constructor
   ·intro k j y hy
    cases j with
    |zero=>cases hy;exact h
    |succ j=>have:=k j y hy;rw[show i+(j+1)=i+1+j by omega];exact this
   ·intro k j y hy
    have:=k (j+1) y hy
    rw[show i+(j+1)=i+1+j by omega]at this
    exact this
  ·rw[Ym h]
   exact⟨fun e=>absurd e h,fun k=>k 0 x rfl⟩
theorem PC{α ξ ρ:Type}{B:Nat→Option (Lv Nat ξ ρ)}{N:Nat}(l:List α)(f:Nat→α→Int)(r:Int→ρ)(e:ξ)
  (hs:∀(i:Nat) (x:α),l[i]?=some x→(∀(j:Nat) (y:α),j<i→l[j]?=some y→f j y=0)→B i=some (if f i x=0 then .nx (i+1)else .rt (r (f i x))))
  (he:B l.length=some (.ex e)) (hN:l.length<N):Aj B N 0=some (if Cb f l 0=0 then .inl e else .inr (r (Cb f l 0))):=by
 suffices H:∀k i N,i+k=l.length→(∀(j:Nat) (y:α),j<i→l[j]?=some y→f j y=0)→k<N→Aj B N i=some (if Cb f (l.drop i) i=0 then .inl e else .inr (r (Cb f (l.drop i) i)))by
  have:=H l.length 0 N (by omega) (fun j y c=>absurd c (by omega)) hN
  rwa [L5]at this
 intro k
 induction k with
 |zero=>
  intro i N hi _ hN
  obtain⟨N,rfl⟩:∃m,N=m+1:=⟨N-1,by omega⟩
  have:i=l.length:=by omega
  subst this
  rw[Aj,he,R3]
  rfl
 |succ k d=>
  intro i N hi b hN
  obtain⟨N,rfl⟩:∃m,N=m+1:=⟨N-1,by omega⟩
  have a:i<l.length:=by omega
  rw[Aj,hs i l[i] (Yc a) b,HS a,Cb]
  by_cases h:f i l[i]=0
  ·rw[Yj h,Yj h]
   refine d (i+1) N (by omega) (fun j y c hy=>?_) (by omega)
   by_cases e:j=i
   ·subst e
    rw[Yc a]at hy
    cases hy
    exact h
   ·exact b j y (by omega) hy
  ·rw[Ym h,Ym h,Ym h]
def B4(v:Val):Bool:=decide ((v.kind≠11∧0<v.list.length)∨(v.kind≠12∧0<v.pairs.length)∨(v.kind≠10∧(0<v.slots.length∨0<v.raws.length))∨(v.text≠⟨#[]⟩∧¬(v.kind=7∨v.kind=8))∨(v.bits≠0∧(v.kind=7∨v.kind=8∨v.kind=10∨v.kind=11∨v.kind=12)))
def Cu(x:ByteArray)(p:Nat)(lo hi:Nat):Bool:=decide (p<x.size)&&decide (lo≤(x.get! p).toNat)&&decide ((x.get! p).toNat≤hi)
def CD(x:ByteArray)(p:Nat):Nat:=
 let b:=(x.get! p).toNat
 if b<0x80 then 1
 else if 0xc2≤b∧b≤0xdf∧Cu x (p+1) 0x80 0xbf=true then 2
 else if b=0xe0∧Cu x (p+1) 0xa0 0xbf=true∧Cu x (p+2) 0x80 0xbf=true then 3
 else if b=0xed∧Cu x (p+1) 0x80 0x9f=true∧Cu x (p+2) 0x80 0xbf=true then 3
 else if 0xe1≤b∧b≤0xef∧b≠0xed∧Cu x (p+1) 0x80 0xbf=true∧Cu x (p+2) 0x80 0xbf=true then 3
 else if b=0xf0∧Cu x (p+1) 0x90 0xbf=true∧Cu x (p+2) 0x80 0xbf=true∧Cu x (p+3) 0x80 0xbf=true then 4
 else if 0xf1≤b∧b≤0xf3∧Cu x (p+1) 0x80 0xbf=true∧Cu x (p+2) 0x80 0xbf=true∧Cu x (p+3) 0x80 0xbf=true then 4
 else if b=0xf4∧Cu x (p+1) 0x80 0x8f=true∧Cu x (p+2) 0x80 0xbf=true∧Cu x (p+3) 0x80 0xbf=true then 4
 else 0
def Ga(x:ByteArray):Nat→Nat→Bool
 |0,_=>true
 |n+1,p=>if p<x.size then(if CD x p=0 then false else Ga x n (p+CD x p))else true
def Kz(x:ByteArray):Bool:=Ga x (x.size+1) 0
def S8(n b:Int):Bool:=if n=1 then decide (b≤1)else if n=2 then decide (-2147483648≤IntKind.i64.wrap b∧IntKind.i64.wrap b≤2147483647)else if n=4 then decide (b≤4294967295)else if n=9 then decide (b≤2147483647)else true
def Mt(v:Val):Bool:=decide (v.list.length=0∧v.pairs.length=0∧v.slots.length=0∧v.raws.length=0)
def O0(n:Int):Bool:=decide (n=7∨n=8)
def Jl(n:Int)(v:Val):Bool:=decide (1≤n∧n≤9∧v.kind=n)&&Mt v&&(if O0 n then decide (v.bits=0∧v.text.size≤4096)&&(decide (n=8)||Kz v.text)else decide (v.text=⟨#[]⟩)&&S8 n v.bits)
def DW(n:Int)(v:Val):Int:=if v.kind≠n∨B4 v=true then 12 else if 4096<v.text.size then 3 else if Jl n v=true then 0 else if n=7 then 7 else 12
def zE:Enm:=.mk ⟨#[]⟩ false [] [] []
def A0(s:Scm)(n:ByteArray):Msg×Bool:=C2 s.messages zM fun m=>decide (m.name=n)
def Db(s:Scm)(n:ByteArray):Enm×Bool:=C2 s.enums zE fun e=>decide (e.name=n)
def LG(e:Enm)(b:Int):Bool:=e.items.any fun x=>decide (IntKind.u64.wrap x.num=b)
def DL(R:Msg→Val→Int)(s:Scm)(t:Typ)(v:Val):Int:=
 if t.kind=10 then(if(A0 s t.name).2=true then R (A0 s t.name).1 v else 10)
 else if t.kind<1∨9<t.kind then 12
 else if DW t.kind v≠0∨t.kind≠9 then DW t.kind v
 else if(Db s t.name).2=false then 10
 else if(Db s t.name).1.opn=false∧LG (Db s t.name).1 v.bits=false then 16 else 0
def K7(a b:Val):Bool:=decide (a.bits=b.bits)&&decide (a.text=b.text)
def Mk(E:Val→Int)(key:Int)(k:Bool)(l:List Pr)(i:Nat)(p:Pr):Int:=
 if DW key p.key≠0 then DW key p.key else if k=true∧((l.take i).any fun q=>K7 q.key p.key)=true then 9 else E p.val
def Cn(R:Msg→Val→Int)(s:Scm)(k:Bool)(f:Fld)(v:Val):Int:=
 if f.card=4 then(if v.kind≠11∨B4 v=true then 12 else Cb (fun _ x=>DL R s f.type x) v.list 0)
 else if f.card=5 then(if v.kind≠12∨B4 v=true then 12 else Cb (Mk (DL R s f.type) f.key k v.pairs) v.pairs 0)
 else DL R s f.type v
def K6(F:List Fld)(l:List Slt)(u:ByteArray):Bool:=!decide (u=⟨#[]⟩)&&l.any fun y=>decide ((AY F y.num).union=u)
def F6(R:Fld→Val→Int)(F:List Fld)(l:List Slt)(i:Nat)(x:Slt):Int:=
 if(BH F x.num).2=false then 8 else if BS (l.take i) x.num=true then 9 else if K6 F (l.take i) (AY F x.num).union=true then 15 else R (AY F x.num) x.val
def IS(l:List Slt)(f:Fld):Int:=if f.card=1∧BS l f.num=false then 14 else 0
def uL(s:Scm)(f:Fld)(x:Raw):Bool:=decide (f.type.kind=9)&&(Db s f.type.name).2&&!(Db s f.type.name).1.opn&&!decide (f.card=5)&&decide (x.wire=0)&&decide (x.bits<2147483648)&&!LG (Db s f.type.name).1 x.bits
def KD(s:Scm)(F:List Fld)(x:Raw):Int:=
 if x.num<1∨65535<x.num∨x.wire<0∨6<x.wire∨(x.wire≤2∧x.data≠⟨#[]⟩)∨(2<x.wire∧x.bits≠0)then 1
 else if(BH F x.num).2=true∧uL s (AY F x.num) x=false then 1
 else if(x.wire=3∧4096<x.data.size)∨65536<x.data.size then 3 else 0
def A6(s:Scm)(k:Bool):Nat→Msg→Val→Int
 |0,_,v=>if v.kind≠10∨B4 v=true then 12 else 17
 |d+1,m,v=>
  if v.kind≠10∨B4 v=true then 12
  else if Cb (F6 (Cn (A6 s k d) s k) m.fields v.slots) v.slots 0≠0 then Cb (F6 (Cn (A6 s k d) s k) m.fields v.slots) v.slots 0
  else if Cb (fun _ f=>IS v.slots f) m.fields 0≠0 then Cb (fun _ f=>IS v.slots f) m.fields 0
  else Cb (fun _ x=>KD s m.fields x) v.raws 0
mutual
def cnt:Val→Nat
 |.mk _ _ _ l p s r=>1+r.length+Bj l+BG p+B5 s
def Bj:List Val→Nat
 |[]=>0
 |v::l=>cnt v+Bj l
def NH:Pr→Nat
 |.mk k v=>cnt k+cnt v
def BG:List Pr→Nat
 |[]=>0
 |p::l=>NH p+BG l
def Nz:Slt→Nat
 |.mk _ v=>cnt v
def B5:List Slt→Nat
 |[]=>0
 |x::l=>Nz x+B5 l
end
def K3(s:Scm)(k:Bool)(n:ByteArray)(v:Val):Int:=
 if(A0 s n).2=false then 10 else if A6 s k 16 (A0 s n).1 v≠0 then A6 s k 16 (A0 s n).1 v else if 4096<cnt v then 3 else 0
theorem nN(x:ByteArray)(p:Nat):x.data.toList.getD p 0=x.get! p:=by
 cases x with
 |mk d=>
  show d.toList.getD p 0=d.getD p 0
  rw[Yg,YD,Yz]
theorem Zl6(x:ByteArray)(i:Nat)(lo hi:Nat)(h:x.size≤1048576):MG x (i:Int) (lo:Int) (hi:Int)=some (Cu x i lo hi):=by
 have w:x.size<4611686018427387904:=by omega
 dsimp only[MG,g9,vz,lr,Br,Gm]
 simp only[w,Yq,YS,nN]
 have a:∀b c:Bool,(b=true→decide ((i:Int)<x.size)=true)→(if(b=true→(0:Int)≤i∧(i:Int)<x.size)then(some c)else none)=some c:=fun b c d=>by
  rw[Yj]
  intro h
  have:=d h
  simp only[YE]at this
  omega
 rw[a _ _ (fun h=>by rw[Yd]at h;exact h.1),a _ _ (fun h=>h)]
 unfold Cu
 congr 1
 rw[X2]
 simp only[Yd,YE]
 omega
theorem lg(x:ByteArray)(i n:Nat)(h:x.size≤1048576)(hi:i≤2097152)(p:n≤9):Lc x (i:Int) (n:Int)=some ((List.range n).all fun k=>Cu x (i+k) 128 191):=by
 have o:=Di (B:=Lr x (i:Int) (n:Int)) (N:=Ag) (List.range n) (fun k=>!Cu x (i+k) 128 191) (fun _=>false) () (fun k y a=>by
  have b:=(Yb.1 a).1
  rw[XC]at b
  have hy:y=k:=by rw[List.getElem?_range b]at a;cases a;rfl
  subst hy
  have e:=Zl6 x (i+y) 128 191 h
  rw[Int.natCast_add]at e
  have d:(y:Int)<n:=by omega
  have f:y+1<9223372036854775808:=by omega
  have g: -9223372036854775808≤(i:Int)+y∧(i:Int)+y<9223372036854775808:=by omega
  dsimp only[Lr,VC,br,vs,Ar,ln,Af,cl,wa,wi,br]
  simp only[d,f,g,Yp,Yq,Ck]
  rw[show((128:Int))=((128:Nat):Int)from rfl,show((191:Int))=((191:Nat):Int)from rfl,e,Ya]
  cases Cu x (i+y) 128 191<;>rfl) (by rw[XC];dsimp only[Lr,VC,br,vs,Ar,ln,Af,cl,wa,wi,br];simp) (by rw[XC];exact AK (by omega))
 dsimp only[Lc,i3,iU,jA,lr,lc]
 rw[o]
 cases c:(List.range n).findIdx? fun k=>!Cu x (i+k) 128 191 with
 |none=>
  have:=L1.1 c
  have e:((List.range n).all fun k=>Cu x (i+k) 128 191)=true:=Yu.2 fun k a=>by simpa using this k a
  rw[e]
  rfl
 |some j=>
  obtain⟨l,m,_⟩:=Y3.1 c
  have e:((List.range n).all fun k=>Cu x (i+k) 128 191)=false:=by
   rw[List.all_eq_false]
   exact⟨_,FJ l,by simpa using m⟩
  rw[e]
  rfl
theorem Jr{c:Prop}[Decidable c]{b:Bool}(n:Nat)(h:b=true↔c){x:Option Int}{m:Nat}(k:x=some (m:Int)):(if b=true then some (n:Int)else x)=some ((if c then n else m:Nat):Int):=by
 by_cases a:c
 ·rw[Yj (h.2 a),Yj a]
 ·rw[Ym (fun e=>a (h.1 e)),Ym a,k]
theorem ZNX(x:ByteArray)(p:Nat)(q:p<x.size)(h:x.size≤1048576):Ph x (p:Int)=some (CD x p:Int):=by
 have t1:∀n:Nat,n≤9→Lc x ((p:Int)+1) (n:Int)=_:=fun n d=>lg x (p+1) n h (by omega) d
 have t2:∀n:Nat,n≤9→Lc x ((p:Int)+2) (n:Int)=_:=fun n d=>lg x (p+2) n h (by omega) d
 have a:∀lo hi:Nat,MG x ((p:Int)+1) lo hi=_:=fun lo hi=>Zl6 x (p+1) lo hi h
 have a1:=t1 1 (by omega)
 have b:=t1 2 (by omega)
 have a3:=t1 3 (by omega)
 have a4:=t2 1 (by omega)
 have c:=t2 2 (by omega)
 have e:=a 160 191
 have g:=a 128 159
 have i:=a 144 191
 have j:=a 128 143
 have w0:(0:Int)≤p∧(p:Int)<x.size:=by omega
 have o: -9223372036854775808≤(p:Int)+1∧(p:Int)+1<9223372036854775808:=by omega
 have w2: -9223372036854775808≤(p:Int)+2∧(p:Int)+2<9223372036854775808:=by omega
 have k:∀f:Nat→Bool,(List.range 1).all f=f 0:=fun f=>by simp[X3]
 have l:∀f:Nat→Bool,(List.range 2).all f=(f 0&&f 1):=fun f=>by simp[X3]
 have m:∀f:Nat→Bool,(List.range 3).all f=(f 0&&(f 1&&f 2)):=fun f=>by simp[X3,Bool.and_assoc]
 rw[k]at a1 a4
 rw[l]at b c
 rw[m]at a3
 simp only[G8,YI,Nat.reduceAdd,Int.cast_ofNat_Int]at a1 b a3 a4 c e g i j
 dsimp only[Ph,i4,br,vg,lr,AE,wi,br,Rh]
 simp only[w0,o,w2,Ck,Yq,YS,nN,a1,b,a3,a4,c,e,g,i,j,FI,YQ,D8]
 unfold CD
 refine Jr 1 (by simp only[YE];omega) ?_
 refine Jr 2 (by simp only[Yd,YE];grind) ?_
 refine Jr 3 (by simp only[Yd,YE];grind) ?_
 refine Jr 3 (by simp only[Yd,YE];grind) ?_
 refine Jr 3 (by simp only[Yd,YL,YE,YJ];grind) ?_
 refine Jr 4 (by simp only[Yd,YE];grind) ?_
 refine Jr 4 (by simp only[Yd,YE];grind) ?_
 refine Jr 4 (by simp only[Yd,YE];grind) ?_
 rfl
theorem ZOz(x:ByteArray)(p:Nat):CD x p≤4:=by
 unfold CD
 dsimp only
 repeat' (first|split|omega)
theorem ZHI(x:ByteArray):∀(k p n m:Nat),x.size-p=k→x.size-p<n→x.size-p<m→Ga x n p=Ga x m p:=by
 intro k
 induction k using Nat.strongRecOn with
 |_ k c=>
  intro p n m d e hm
  obtain⟨n,rfl⟩:∃j,n=j+1:=⟨n-1,by omega⟩
  obtain⟨m,rfl⟩:∃j,m=j+1:=⟨m-1,by omega⟩
  unfold Ga
  by_cases a:p<x.size
  ·rw[Yj a,Yj a]
   by_cases b:CD x p=0
   ·rw[Yj b,Yj b]
   ·rw[Ym b,Ym b]
    exact c (x.size-(p+CD x p)) (by omega) _ _ _ rfl (by omega) (by omega)
  ·rw[Ym a,Ym a]
def K8(x:ByteArray)(p:Nat):Bool:=Ga x (x.size+1-p) p
theorem Zw9{x:ByteArray}{p:Nat}(h:x.size≤p):K8 x p=true:=by
 unfold K8
 cases x.size+1-p with
 |zero=>rfl
 |succ n=>unfold Ga;rw[Ym (by omega)]
theorem Zu7{x:ByteArray}{p:Nat}(h:p<x.size):K8 x p=if CD x p=0 then false else K8 x (p+CD x p):=by
 unfold K8
 obtain⟨n,e⟩:∃n,x.size+1-p=n+1:=⟨x.size-p,by omega⟩
 rw[e]
 conv=>lhs;unfold Ga
 rw[Yj h]
 by_cases a:CD x p=0
 ·rw[Yj a,Yj a]
 ·rw[Ym a,Ym a]
  by_cases b:p+CD x p<x.size
  ·exact ZHI x _ _ _ _ rfl (by omega) (by omega)
  ·have c:Ga x n (p+CD x p)=true:=by
    cases n with
    |zero=>rfl
    |succ n=>unfold Ga;rw[Ym b]
   have d:Ga x (x.size+1-(p+CD x p)) (p+CD x p)=true:=by
    cases x.size+1-(p+CD x p)with
    |zero=>rfl
    |succ n=>unfold Ga;rw[Ym b]
   rw[c,d]
theorem ZQw(x:ByteArray):Kz x=K8 x 0:=rfl
theorem ZtF(x:ByteArray)(h:x.size≤1048576):MI x=some (Kz x):=by
 have q:Ok (Sum.elim (fun _=>Kz x=true) (fun r:Int=>0≤r∧Kz x=false)) (Aj (Nd x) Ag 0):=by
  refine Bt (fun v:Int=>0≤v∧Kz x=K8 x v.toNat) (fun v:Int=>x.size-v.toNat) ⟨by omega,ZQw x⟩ (AK (by omega)) fun v c=>?_
  obtain⟨v,rfl⟩:∃n:Nat,v=n:=⟨v.toNat,by omega⟩
  obtain⟨_,c⟩:=c
  rw[YS]at c
  have w:x.size<4611686018427387904:=by omega
  dsimp only[Nd,hZ,br,vz,vs,Ar,ln,Af,cl,wi,Br,br]
  by_cases g:v<x.size
  ·have d:(v:Int)<x.size:=by omega
   have hs:=ZOz x v
   have b:=Zu7 g
   simp only[w,Yq,d,Yp,ZNX x v g h,Ya]
   by_cases f:CD x v=0
   ·rw[Yj f]at b
    simp only[f,Int.ofNat_zero,Int.cast_ofNat_Int,Yp,Yq]
    exact⟨_,rfl,by omega,by rw[c,b]⟩
   ·rw[Ym f]at b
    have j:¬((CD x v:Int)=0):=by omega
    have k: -9223372036854775808≤(v:Int)+CD x v∧(v:Int)+CD x v<9223372036854775808:=by omega
    simp only[j,YU,Yn,YK,k,Ck,Yq]
    refine⟨_,rfl,⟨by omega,?_⟩,?_⟩
    ·rw[c,b,show((v:Int)+CD x v).toNat=v+CD x v by omega]
    ·show x.size-((v:Int)+CD x v).toNat<x.size-(v:Int).toNat
     omega
  ·have d:¬(v:Int)<x.size:=by omega
   simp only[w,Yq,d,YU,Yn,YK]
   exact⟨_,rfl,by rw[c,Zw9 (by omega)]⟩
 obtain⟨y,e,a⟩:=q
 dsimp only[MI,bj,lr,cl,Tx,iY,jl,jy,lr,lc]
 rw[e]
 cases y with
 |inl y=>
  have a:Kz x=true:=a
  rw[a]
  rfl
 |inr r=>
  obtain⟨a1,i⟩:=a
  rw[i]
  simp only[Ya,Sum.elim_inr]
  rw[show decide (r<0)=false by simpa using a1]
def Xw(c:Nat)(x:Val):Prop:=∀a,c≤a→Ok (fun b=>b=true) (JH a x x)
theorem Xw.mono{c d:Nat}{x:Val}(h:Xw c x)(k:c≤d):Xw d x:=fun a b=>h a (Eb k b)
theorem MZ{n:Nat}(h:n<18446744073709551616):IntKind.u64.wrap (n:Int)=n:=by
 unfold IntKind.wrap
 have:(IntKind.u64.bits)=64:=rfl
 simp only[this,show IntKind.u64.signed=false from rfl,Ds,Yn,YK]
 omega
theorem Nc(n:Nat):BitVec.ofInt 64 (n:Int)=BitVec.ofNat 64 n:=BitVec.ofInt_natCast ..
theorem gb{n m:Nat}(a:n<18446744073709551616)(hm:m<18446744073709551616):C9 .u64 (n:Int) (m:Int)=((n&&&m:Nat):Int):=by
 unfold C9
 have h:(BitVec.ofInt 64 (n:Int)&&&BitVec.ofInt 64 (m:Int)).toNat=n&&&m:=by
  rw[Nc,Nc,BitVec.toNat_and,Om,Om,Kr a,Kr hm]
 show IntKind.u64.wrap (((BitVec.ofInt 64 (n:Int)&&&BitVec.ofInt 64 (m:Int)).toNat:Nat):Int)=_
 rw[h]
 exact MZ (Nat.lt_of_le_of_lt Nat.and_le_left a)
theorem ZGb{n m:Nat}(a:n<18446744073709551616)(hm:m<18446744073709551616):G0 .u64 (n:Int) (m:Int)=((n|||m:Nat):Int):=by
 unfold G0
 have h:(BitVec.ofInt 64 (n:Int)|||BitVec.ofInt 64 (m:Int)).toNat=n|||m:=by
  rw[Nc,Nc,BitVec.toNat_or,Om,Om,Kr a,Kr hm]
 show IntKind.u64.wrap (((BitVec.ofInt 64 (n:Int)|||BitVec.ofInt 64 (m:Int)).toNat:Nat):Int)=_
 rw[h]
 exact MZ (Nat.or_lt_two_pow (n:=64) a hm)
theorem Zxt{n:Nat}(a:n<18446744073709551616):Jz .u64 (n:Int)=((18446744073709551615-n:Nat):Int):=by
 unfold Jz MC
 have e:(if IntKind.u64.signed=true then(-1:Int)else IntKind.u64.max)=((18446744073709551615:Nat):Int):=rfl
 rw[e]
 have h:(BitVec.ofInt 64 ((18446744073709551615:Nat):Int)^^^BitVec.ofInt 64 (n:Int)).toNat=18446744073709551615-n:=by
  rw[Nc,Nc,show BitVec.ofNat 64 18446744073709551615=BitVec.allOnes 64 from rfl,BitVec.allOnes_xor,BitVec.toNat_not,Om,Kr a]
 show IntKind.u64.wrap (((BitVec.ofInt 64 ((18446744073709551615:Nat):Int)^^^BitVec.ofInt 64 (n:Int)).toNat:Nat):Int)=_
 rw[h]
 exact MZ (by omega)
theorem ZGQ(n:Nat):n&&&9218868437227405312=(n/4503599627370496%2048)*4503599627370496:=by
 have e:(9218868437227405312:Nat)=2047<<<52:=rfl
 have a:n/4503599627370496%2048*4503599627370496=((n>>>52)%2^11)<<<52:=by
  rw[Nat.shiftLeft_eq,Nat.shiftRight_eq_div_pow]
 rw[e,a]
 apply Nat.eq_of_testBit_eq
 intro i
 have b:(2047:Nat)=2^11-1:=rfl
 rw[Nat.testBit_and,kV,kV,Nat.testBit_mod_two_pow,Nat.testBit_shiftRight,b,Nat.testBit_two_pow_sub_one]
 by_cases h:52≤i
 ·rw[show 52+(i-52)=i by omega]
  simp only[h,Yp,Dt]
  rw[Bool.and_comm]
 ·simp[h]
theorem ZxX(n:Nat):n&&&4503599627370495=n%4503599627370496:=Nat.and_two_pow_sub_one_eq_mod n 52
theorem ZxH{n:Nat}(b:n<18446744073709551616):n&&&9223372036854775808=if 9223372036854775808≤n then 9223372036854775808 else 0:=by
 have e:(9223372036854775808:Nat)=2^63:=rfl
 have k:n.testBit 63=decide (9223372036854775808≤n):=by
  rw[Nat.testBit_eq_decide_div_mod_eq,decide_eq_decide]
  omega
 apply Nat.eq_of_testBit_eq
 intro i
 rw[Nat.testBit_and]
 by_cases hi:63=i
 ·subst hi
  rw[k]
  by_cases h:9223372036854775808≤n
  ·simp[h]
  ·simp[h]
 ·have a:Nat.testBit 9223372036854775808 i=false:=by
   rw[e,Nat.testBit_two_pow]
   exact Yt hi
  rw[a,Ks]
  split
  ·exact a.symm
  ·simp
def ID(n:Nat):Bool:=decide (9218868437227405312<n%9223372036854775808)
theorem ZYD{n:Nat}(e:n<18446744073709551616):Ok (fun y:Int=>decide (y=0)=ID n) (eW (n:Int)):=by
 have a:=gb e (m:=9218868437227405312) (by omega)
 have b:=gb e (m:=4503599627370495) (by omega)
 rw[ZGQ]at a
 rw[ZxX]at b
 have a:C9 .u64 (n:Int) 9218868437227405312=_:=a
 have b:C9 .u64 (n:Int) 4503599627370495=_:=b
 dsimp only[eW,nb,br,vz,lr,br]
 rw[a,b]
 unfold ID
 have f:(((n/4503599627370496%2048*4503599627370496:Nat):Int)=9218868437227405312)↔n/4503599627370496%2048=2047:=by omega
 have g:(((n%4503599627370496:Nat):Int)=0)↔n%4503599627370496=0:=by omega
 have h:9218868437227405312<n%9223372036854775808↔n/4503599627370496%2048=2047∧n%4503599627370496≠0:=by omega
 simp only[f,g,h]
 by_cases c:n/4503599627370496%2048=2047
 ·by_cases d:n%4503599627370496=0
  ·simp only[c,d];exact AG (by decide)
  ·simp only[c,d];exact AG (by simp[d])
 ·have i:decide (n/4503599627370496%2048=2047)=false:=Yt c
  simp only[i,c,Ds,OB,YU,Yn,YK]
  refine AI (fun _=>AG (by decide)) fun _=>AI (fun _=>AG (by decide)) fun _=>AG (by decide)
theorem ZXT{n:Nat}(b:n<18446744073709551616):Ok (fun y:Int=>decide (y=0)=ID n) (Pe (n:Int)):=by
 have e:Jj .u64 (n:Int) 9223372036854775808=((n%9223372036854775808:Nat):Int):=by
  unfold Jj
  rw[Int.tmod_eq_emod_of_nonneg (by omega)]
  omega
 dsimp only[Pe,iu,br,lr,br,rem]
 rw[e]
 unfold ID
 have g:(9218868437227405312:Int)<((n%9223372036854775808:Nat):Int)↔9218868437227405312<n%9223372036854775808:=by omega
 simp only[g]
 by_cases h:9218868437227405312<n%9223372036854775808
 ·simp only[h];first|exact AG (by decide)|simp
 ·have a:decide (9218868437227405312<n%9223372036854775808)=false:=Yt h
  simp only[a,Yn,YK]
  first
   |refine AI (fun _=>AG (by decide)) fun _=>AI (fun _=>AG (by decide)) fun _=>AI (fun _=>AG (by decide)) fun _=>AG (by decide)
   |simp
def G2(n:Nat):Nat:=if ID n=true then 18446744073709551615 else if 9223372036854775808≤n then 18446744073709551615-n else n+9223372036854775808
theorem ZXf{n:Nat}(a:n<18446744073709551616):eT (n:Int)=some (G2 n:Int):=by
 obtain⟨y,e,h⟩:=ZYD a
 have c:=gb a (m:=9223372036854775808) (by omega)
 rw[ZxH a]at c
 have c:C9 .u64 (n:Int) 9223372036854775808=_:=c
 have d:=Zxt a
 have f:G0 .u64 (n:Int) 9223372036854775808=((n|||9223372036854775808:Nat):Int):=ZGb a (m:=9223372036854775808) (by omega)
 dsimp only[eT,lD,br,vz,lr,cl,br]
 rw[e,Ya,h,c,d,f]
 unfold G2
 cases ID n with
 |true=>rfl
 |false=>
  by_cases hs:9223372036854775808≤n
  ·simp[hs]
  ·have g:n|||9223372036854775808=n+9223372036854775808:=by
    have j:=Nat.two_pow_add_eq_or_of_lt (i:=63) (b:=n) (by omega) 1
    rw[Nat.or_comm]
    have k:9223372036854775808+n=9223372036854775808|||n:=j
    exact k.symm.trans (Oi _ _)
   simp[hs,g]
theorem zH{v:Val}{n:Nat}(i:n<18446744073709551616)(g:v.bits=(n:Int)):ee v=some (if v.kind=2∨v.kind=3 then IntKind.u64.wrap ((n:Int)+9223372036854775808)else if v.kind=6 then(G2 n:Int)else(n:Int)):=by
 obtain⟨y,e,h⟩:=ZXT i
 dsimp only[ee,lh,fM,br,vz,wg,lr,cl,br,Zds,nD,lr]
 rw[g]
 by_cases a:v.kind=2∨v.kind=3
 ·have b:(decide (v.kind=2)||decide (v.kind=3))=true:=by simpa using a
  simp only[b,a,Yq]
  rfl
 ·have b:(decide (v.kind=2)||decide (v.kind=3))=false:=by simpa using a
  simp only[b,a,Yn,YK]
  by_cases f:v.kind=6
  ·have j:=MZ (n:=18446744073709551615-n) (by omega)
   simp only[f,Yp,YY,Yn,YK,e,Ya,h]
   unfold G2
   cases ID n with
   |true=>rfl
   |false=>
    by_cases hs:9223372036854775808≤n
    ·have c:(9223372036854775808:Int)≤(n:Int):=by omega
     have d:(18446744073709551615:Int)-(n:Int)=((18446744073709551615-n:Nat):Int):=by omega
     simp[hs,c,d,j]
    ·have c:¬(9223372036854775808:Int)≤(n:Int):=by omega
     have d:(n:Int)+9223372036854775808=((n+9223372036854775808:Nat):Int):=by omega
     have w2:=MZ (n:=n+9223372036854775808) (by omega)
     simp only[hs,c,d,w2,YU,Yn,YK,Yq]
  ·simp[f]
def BJ(a b:Int):Int:=if a<b then -1 else if b<a then 1 else 0
theorem Tc(a b:Int):eG a b=some (BJ a b):=by
 dsimp only[eG,sB,br,lr,cl,br,ZfG,qr,lr]
 unfold BJ
 by_cases h:a<b
 ·simp[h]
 ·by_cases c:b<a<;>simp[h,c]
theorem zc(a b:Int):eK a b=some (BJ a b):=by
 dsimp only[eK,lU,br,lr,cl,br,Zer,lC,lr]
 unfold BJ
 by_cases h:a<b
 ·simp[h]
 ·by_cases c:b<a<;>simp[h,c]
theorem ZYp(a b:Int):eq a b=some (BJ a b):=by
 dsimp only[eq,nC,br,lr,br]
 unfold BJ
 by_cases h:a<b
 ·simp[h]
 ·by_cases c:b<a<;>simp[h,c]
def ER(a b:ByteArray):Int:=if BB a b=true then -1 else if a=b then 0 else 1
theorem vH(a b:ByteArray):decide (ER a b=0)=decide (a=b):=by
 unfold ER
 by_cases h:a=b
 ·subst h
  have:BB a a=false:=by
   unfold BB
   rw[Go.Proofs.bytesLess_eq]
   exact Yt (List.lt_irrefl _)
  simp[this]
 ·cases BB a b<;>simp[h]
theorem ZYb(a b:ByteArray):eJ a b=some (ER a b):=by
 dsimp only[eJ,oK,br,lr,cl,br,Zen,lK,lr]
 unfold ER
 cases h:BB a b with
 |true=>simp
 |false=>by_cases c:a=b<;>simp[c]
theorem zI{α ρ:Type}{B:Int×Int×List α→Option (Lv (Int×Int×List α) (Int×List α) ρ)}(l:List α)(p:α→Bool)
  (s:∀(i j:Nat) (r:List α) x,i≤j→r.length=l.length→r[j]?=some x→l[j]?=some x→B ((i:Int),(j:Int),r)=some (.nx (if p x then((i:Int),((j+1:Nat):Int),r)else(((i+1:Nat):Int),((j+1:Nat):Int),r.set i x))))
  (t:∀(i:Nat) r,B ((i:Int),(l.length:Int),r)=some (.ex ((i:Int),r))):
  ∀(k N i j:Nat) (r:List α),j+k=l.length→k<N→i≤j→r.length=l.length→r.take i=(l.take j).filter (fun x=>!p x)→i=((l.take j).filter fun x=>!p x).length→r.drop j=l.drop j→
  ∃(n:Nat) (o:List α),Aj B N ((i:Int),(j:Int),r)=some (.inl ((n:Int),o))∧o.take n=l.filter (fun x=>!p x)∧n=(l.filter fun x=>!p x).length∧o.length=l.length:=by
 intro k
 induction k with
 |zero=>
  intro N i j r u hN b c d hi e
  obtain⟨N,rfl⟩:∃m,N=m+1:=⟨N-1,by omega⟩
  have:j=l.length:=by omega
  subst this
  rw[L0]at d hi
  exact⟨i,r,by rw[Aj,t],d,hi,c⟩
 |succ k q=>
  intro N i j r u hN b c d hi e
  obtain⟨N,rfl⟩:∃m,N=m+1:=⟨N-1,by omega⟩
  have a:j<l.length:=by omega
  have hl:l[j]?=some l[j]:=Yc a
  have h:r[j]?=some l[j]:=by
   have:=congrArg (fun z=>z[0]?) e
   simpa[Y0,a]using this
  have e0:l.take (j+1)=l.take j++[l[j]]:=Y7 a
  rw[Aj,s i j r l[j] b c h hl]
  cases f:p l[j]with
  |true=>
   refine q N i (j+1) r (by omega) (by omega) (by omega) c ?_ ?_ ?_
   ·rw[e0,HQ,d];simp[f]
   ·rw[e0,HQ];simpa[f]using hi
   ·have:=congrArg (List.drop 1) e
    simpa[Oz]using this
  |false=>
   have g:i<r.length:=by omega
   refine q N (i+1) (j+1) (r.set i l[j]) (by omega) (by omega) (by omega) (by rw[Oy];exact c) ?_ ?_ ?_
   ·rw[e0,HQ,←d,Y7 (by rw[Oy];exact g),List.take_set_of_le (Yf _),k7]
    simp[f]
   ·rw[e0,HQ,Yr,←hi]
    simp[f]
   ·rw[List.drop_set_of_lt (by omega)]
    have:=congrArg (List.drop 1) e
    simpa[Oz]using this
theorem sf(l:List Slt)(f:Slt→Option Bool)(p:Slt→Bool)(d:∀x∈l,f x=some (p x))(h:l.length<4611686018427387904):Pd l f=some (CR l p):=by
 unfold Pd
 simp only[UN,Uy,UG,UB,al,Fw,D3,br,ix,CC,vz,vy,vw,vs,vg,v2,lr,Ar,ln,Af,lc,lf,Es,ap,aq,a0,a1,ad,cl,cs,cf,wa,wi,ir,ca,cp,dd,mv,st,ss,sL,Bd.c,Bd.vl,sR,Az]
 rw[Di l p (fun i=>(i:Int)) () (hN:=AK h) (he:=by simp[UK,UN,Uy,UG,UB,al,Fw,D3,br,ix,CC,vz,vy,vw,vs,vg,v2,lr,Ar,ln,Af,lc,lf,Es,ap,aq,a0,a1,ad,cl,cs,cf,wa,wi,ir,ca,cp,dd,mv,st,ss,sL,Bd.c,Bd.vl,sR,Az]) (hs:=by
  intro i y hy
  obtain⟨a,rfl⟩:=Yb.1 hy
  have b:i+1<9223372036854775808:=by omega
  have c:=d l[i] (Yi hy)
  simp[UK,UN,Uy,UG,UB,al,Fw,D3,br,ix,CC,vz,vy,vw,vs,vg,v2,lr,Ar,ln,Af,lc,lf,Es,ap,aq,a0,a1,ad,cl,cs,cf,wa,wi,ir,ca,cp,dd,mv,st,ss,sL,Bd.c,Bd.vl,sR,Az,a,b,c]
  cases p l[i]<;>rfl)]
 unfold CR
 cases l.findIdx? _<;>rfl
theorem n41(l:List Slt)(f:Slt→Option Bool)(p:Slt→Bool)(g:∀x∈l,f x=some (p x))(h:l.length<549755813888):Pp l f=some (l.filter fun x=>!p x):=by
 have e0:=sf l f p g (by omega)
 unfold Pp
 dsimp only[qE,wr,vw,vs,vg,vz,cs,br,lr,lf,lc,wi]
 rw[e0,Ya]
 cases hi:l.findIdx? p with
 |none=>
  rw[show CR l p= -1 from by unfold CR;rw[hi]]
  rw[show l.filter (fun x=>!p x)=l from R9.2 fun x hx=>by rw[L1.1 hi x hx];rfl]
  rfl
 |some i=>
  obtain⟨s,t,u⟩:=Y3.1 hi
  rw[show CR l p=(i:Int)from by unfold CR;rw[hi]]
  have a:((i:Int)= -1)=False:=eq_false (by omega)
  have k: -9223372036854775808≤(i:Int)+1∧(i:Int)+1<9223372036854775808:=by omega
  have w:(l.take i).filter (fun x=>!p x)=l.take i:=R9.2 fun x hx=>by
   obtain⟨j,G,rfl⟩:=XS.1 hx
   rw[XD.2 (u j (by omega))];rfl
  have e:(l.take (i+1)).filter (fun x=>!p x)=l.take i:=by rw[Y7 s,HQ,w];simp[t]
  obtain⟨b,D,y,z,A,C⟩:=zI (B:=QT l f) l p (fun i j r x v H hx hl=>by
    have F:=(Yb.1 hl).1
    have o:(j:Int)<(l.length:Int):=by omega
    have q:=g x (Yi hl)
    have E: -9223372036854775808≤(i:Int)+1∧(i:Int)+1<9223372036854775808:=by omega
    have w2: -9223372036854775808≤(j:Int)+1∧(j:Int)+1<9223372036854775808:=by omega
    have c:(0:Int)≤(j:Int):=by omega
    have d:(0:Int)≤(i:Int):=by omega
    have m:(i:Int)<(l.length:Int):=by omega
    have n:i<r.length:=by omega
    dsimp only[QT,bm,al,Fw,D3,br,ix,CC,vz,vy,vw,vs,vg,v2,lr,Ar,ln,Af,lc,lf,Es,ap,aq,a0,a1,ad,cl,cs,cf,wa,wi,ir,ca,cp,dd,mv,st,ss,sL,Bd.c,Bd.vl,sR,Az,NV,NW,NT,NX,rb,cr,Kh,ch]
    simp only[BP,Az,o,q,E,w2,c,d,m,n,hx,Ck,OA,HV,Yp,Yq,YS,Ya]
    cases p x<;>simp)
   (fun i r=>by
    dsimp only[QT,bm,al,Fw,D3,br,ix,CC,vz,vy,vw,vs,vg,v2,lr,Ar,ln,Af,lc,lf,Es,ap,aq,a0,a1,ad,cl,cs,cf,wa,wi,ir,ca,cp,dd,mv,st,ss,sL,Bd.c,Bd.vl,sR,Az,NV,NW,NT,NX,rb,cr,Kh,ch]
    simp)
   (l.length-(i+1)) Ag i (i+1) l (by omega) (AK (by omega)) (by omega) rfl e.symm (by rw[e,Yw];omega) rfl
  rw[show((i:Int)+1)=((i+1:Nat):Int)from rfl]at k⊢
  simp only[a,k,y,YU,Yp,Yn,Ck,Yq,YK,Ya,Cp]
  have c:b≤l.length:=by rw[A];exact L3 _ _
  have d:(b:Int)=((D.take b).length:Int):=by rw[Yw];omega
  simp[vr,z,C,al,Fw,D3,br,ix,CC,vz,vy,vw,vs,vg,v2,lr,Ar,ln,Af,lc,lf,Es,ap,aq,a0,a1,ad,cl,cs,cf,wa,wi,ir,ca,cp,dd,mv,st,ss,sL,Bd.c,Bd.vl,sR,Az,NV,NW,NT,NX,rb,cr,Kh,ch]
  omega
theorem m58(l:List Fld)(h:l.length<549755813888):TE l=some l:=by
 unfold TE
 simp only[mQ,al,Fw,D3,br,ix,CC,vz,vy,vw,vs,vg,v2,lr,Ar,ln,Af,lc,lf,Es,ap,aq,a0,a1,ad,cl,cs,cf,wa,wi,ir,ca,cp,dd,mv,st,ss,sL,Bd.c,Bd.vl,sR,Az,Yn,YK,h,Yq]
theorem ZUx(l:List Fld)(f:Fld→Option Bool)(p:Fld→Bool)(d:∀x∈l,f x=some (p x))(h:l.length<4611686018427387904):TC l f=some (CR l p):=by
 unfold TC
 simp only[Us,Uc,Uk,Ul,al,Fw,D3,br,ix,CC,vz,vy,vw,vs,vg,v2,lr,Ar,ln,Af,lc,lf,Es,ap,aq,a0,a1,ad,cl,cs,cf,wa,wi,ir,ca,cp,dd,mv,st,ss,sL,Bd.c,Bd.vl,sR,Az]
 rw[Di l p (fun i=>(i:Int)) () (hN:=AK h) (he:=by simp[Ue,Us,Uc,Uk,Ul,al,Fw,D3,br,ix,CC,vz,vy,vw,vs,vg,v2,lr,Ar,ln,Af,lc,lf,Es,ap,aq,a0,a1,ad,cl,cs,cf,wa,wi,ir,ca,cp,dd,mv,st,ss,sL,Bd.c,Bd.vl,sR,Az]) (hs:=by
  intro i y hy
  obtain⟨a,rfl⟩:=Yb.1 hy
  have b:i+1<9223372036854775808:=by omega
  have c:=d l[i] (Yi hy)
  simp[Ue,Us,Uc,Uk,Ul,al,Fw,D3,br,ix,CC,vz,vy,vw,vs,vg,v2,lr,Ar,ln,Af,lc,lf,Es,ap,aq,a0,a1,ad,cl,cs,cf,wa,wi,ir,ca,cp,dd,mv,st,ss,sL,Bd.c,Bd.vl,sR,Az,a,b,c]
  cases p l[i]<;>rfl)]
 unfold CR
 cases l.findIdx? _<;>rfl
theorem m57(l:List Fld)(f:Fld→Option Bool)(p:Fld→Bool)(g:∀x∈l,f x=some (p x))(h:l.length<549755813888):TB l f=some (l.filter fun x=>!p x):=by
 have e0:=ZUx l f p g (by omega)
 unfold TB
 dsimp only[lG,l7,vw,vs,vg,vz,cs,br,lr,lf,lc,wi]
 rw[e0,Ya]
 cases hi:l.findIdx? p with
 |none=>
  rw[show CR l p= -1 from by unfold CR;rw[hi]]
  rw[show l.filter (fun x=>!p x)=l from R9.2 fun x hx=>by rw[L1.1 hi x hx];rfl]
  rfl
 |some i=>
  obtain⟨s,t,u⟩:=Y3.1 hi
  rw[show CR l p=(i:Int)from by unfold CR;rw[hi]]
  have a:((i:Int)= -1)=False:=eq_false (by omega)
  have k: -9223372036854775808≤(i:Int)+1∧(i:Int)+1<9223372036854775808:=by omega
  have w:(l.take i).filter (fun x=>!p x)=l.take i:=R9.2 fun x hx=>by
   obtain⟨j,G,rfl⟩:=XS.1 hx
   rw[XD.2 (u j (by omega))];rfl
  have e:(l.take (i+1)).filter (fun x=>!p x)=l.take i:=by rw[Y7 s,HQ,w];simp[t]
  obtain⟨b,D,y,z,A,C⟩:=zI (B:=Qc l f) l p (fun i j r x v H hx hl=>by
    have F:=(Yb.1 hl).1
    have o:(j:Int)<(l.length:Int):=by omega
    have q:=g x (Yi hl)
    have E: -9223372036854775808≤(i:Int)+1∧(i:Int)+1<9223372036854775808:=by omega
    have w2: -9223372036854775808≤(j:Int)+1∧(j:Int)+1<9223372036854775808:=by omega
    have c:(0:Int)≤(j:Int):=by omega
    have d:(0:Int)≤(i:Int):=by omega
    have m:(i:Int)<(l.length:Int):=by omega
    have n:i<r.length:=by omega
    dsimp only[Qc,ia,al,Fw,D3,br,ix,CC,vz,vy,vw,vs,vg,v2,lr,Ar,ln,Af,lc,lf,Es,ap,aq,a0,a1,ad,cl,cs,cf,wa,wi,ir,ca,cp,dd,mv,st,ss,sL,Bd.c,Bd.vl,sR,Az,NV,NW,NT,NX,rb,cr,Kh,ch]
    simp only[BP,Az,o,q,E,w2,c,d,m,n,hx,Ck,OA,HV,Yp,Yq,YS,Ya]
    cases p x<;>simp)
   (fun i r=>by
    dsimp only[Qc,ia,al,Fw,D3,br,ix,CC,vz,vy,vw,vs,vg,v2,lr,Ar,ln,Af,lc,lf,Es,ap,aq,a0,a1,ad,cl,cs,cf,wa,wi,ir,ca,cp,dd,mv,st,ss,sL,Bd.c,Bd.vl,sR,Az,NV,NW,NT,NX,rb,cr,Kh,ch]
    simp)
   (l.length-(i+1)) Ag i (i+1) l (by omega) (AK (by omega)) (by omega) rfl e.symm (by rw[e,Yw];omega) rfl
  rw[show((i:Int)+1)=((i+1:Nat):Int)from rfl]at k⊢
  simp only[a,k,y,YU,Yp,Yn,Ck,Yq,YK,Ya,Cp]
  have c:b≤l.length:=by rw[A];exact L3 _ _
  have d:(b:Int)=((D.take b).length:Int):=by rw[Yw];omega
  simp[o1,z,C,al,Fw,D3,br,ix,CC,vz,vy,vw,vs,vg,v2,lr,Ar,ln,Af,lc,lf,Es,ap,aq,a0,a1,ad,cl,cs,cf,wa,wi,ir,ca,cp,dd,mv,st,ss,sL,Bd.c,Bd.vl,sR,Az,NV,NW,NT,NX,rb,cr,Kh,ch]
  omega
theorem m29(m:Msg)(u:ByteArray)(h:m.fields.length≤1048576)(a:u≠⟨#[]⟩):TU m u=some (m.fields.filter fun f=>decide (f.union=u)):=by
 dsimp only[TU,tk,tH,ro,x5,tb,br,vz,wg,lr,lc,fl,fr,br]
 rw[m58 _ (by omega),Ya,m57 _ (fun z=>TG z u) (fun f=>!decide (f.union=u)) (fun x _=>rfl) (by omega)]
 simp[a]
theorem ZYQ(m:Msg):TU m ⟨#[]⟩=some []:=rfl
end Go.Proofs.YtbcmdieedjamgaaGreat
