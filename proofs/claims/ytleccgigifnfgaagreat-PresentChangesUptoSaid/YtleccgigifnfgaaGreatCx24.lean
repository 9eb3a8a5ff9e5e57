import Derived.Test.YtleccgigifnfgaaGreatCx23
import Derived.Test.YtleccgigifnfgaaGreatCx22
import Derived.Test.YtleccgigifnfgaaGreatCx00
namespace Go.Proofs.YtleccgigifnfgaaGreat
set_option linter.all false
open Go Go.Eng
def DE(l:List Fld)(n:Nat):Prop:=∀(i:Nat) (a b:Fld),i+1<n→l[i]?=some a→l[i+1]?=some b→a.num<b.num
theorem ZA3{l:List Fld}{v:Nat}{a b:Fld}(h:DE l v)(j:l[v]?=some a)(k:0<v→l[v-1]?=some b∧b.num<a.num):DE l (v+1):=by
 intro i x y hi c hy
 by_cases e:i+1<v
 ·exact h i x y e c hy
 ·have f:i+1=v:=by omega
  have g:v-1=i:=by omega
  rw[f]at hy
  obtain⟨d,m⟩:=k (by omega)
  rw[g]at d
  rw[j]at hy
  rw[d]at c
  cases c
  cases hy
  exact m
structure GdM (s:Scm) (m:Msg):Prop where
 asc:DE m.fields m.fields.length
 df:∀(j:Nat) (f:Fld),m.fields[j]?=some f→IZ f∧MS f∧MZ s f
theorem cN(d:ByteArray)(b:Bool)(n e:Int):Ok (fun y=>y.length≤1) (Br d [] b n e):=(Ef d [] b n e (by simp)).mono fun y h=>by simpa using h.2.1
theorem o66(s:Scm)(m:Msg)(l:List Bool)(h:SzS s)(hm:SzM m)(hl:l.length=s.messages.length):Ok (fun y=>y.length≤67108864∧(y.length=0→GdM s m)) (dM s m l):=by
 have H:=hm.fl
 have q:=hm.r
 have B:=hm.gl
 have F:∀(v:Nat) (r:List Prb) (e:Fld),v≤m.fields.length→Ok (Sum.elim Tr No) (An (QV s m l v r e) Aj (false,0)):=by
  intro w r e J
  refine Ok.loop (fun v:Bool×Nat=>v.2≤w) (fun v:Bool×Nat=>w-v.2) (by simp) (Bc (by omega)) fun v k=>?_
  obtain⟨b,i⟩:=v
  dsimp only at k
  dsimp only[QV,Z8,br,ix,vz,vw,vs,ln,Ak,wa,fl,br]
  (repeat' (first|with_reducible refine Ok.br (fun _=>?_) (fun _=>?_)|with_reducible refine Ok.pure ?_|with_reducible refine Ok.idx ?_ (fun _ _ _=>?_)|with_reducible refine Ok.if ?_ ?_))<;>(first|trivial|assumption|contradiction|omega|grind|(simp only[Bd.c,Bd.vl,Yk,Yf,AK]at*;grind))
 have E:∀a:List Prb,a.length≤9→Ok (Sum.elim (fun y:List Prb=>y.length≤10485769∧(y.length=0→GdM s m)) No) (An (QZ s m l) Aj (0,a)):=by
  intro a d
  refine Ok.loop (fun v:Nat×List Prb=>v.1≤m.fields.length∧v.2.length≤9+10*v.1∧(v.2.length=0→DE m.fields v.1∧∀(j:Nat) (f:Fld),j<v.1→m.fields[j]?=some f→IZ f∧MS f∧MZ s f)) (fun v:Nat×List Prb=>m.fields.length-v.1) ⟨by simp,by simpa using d,fun _=>⟨fun i x y hi=>by simp at hi,fun j f n=>by simp at n⟩⟩ (Bc (by omega)) fun v k=>?_
  obtain⟨v,r⟩:=v
  obtain⟨t,u,c⟩:=k
  dsimp only at t u c
  dsimp only[QZ,kj,n7,nX,nn,mA,j5,nL,n3,nD,lJ,l1,kK,i4,kV,mF,jT,XA,bd,X0,ZE,ZQ,au,ZK,Zr,br,ix,A4,vz,vw,vs,vg,ln,Ak,lc,cl,clg,wa,wi,fl,Ag,br]
  (repeat' (first|with_reducible refine Ok.br (fun _=>?_) (fun _=>?_)|with_reducible refine Ok.pure ?_|with_reducible refine Ok.idx ?_ (fun _ _ _=>?_)|(with_reducible apply Ok.lb;(exact F _ _ _ (by omega));all_goals(intro _ _;try dsimp only))|(with_reducible apply Ok.bind;(exact Ef _ _ _ _ _ (by omega));intro _ _)|(with_reducible apply Ok.bind;(exact Kh _ (hm.f _ (by assumption)).n);intro _ _)|(with_reducible apply Ok.bind;(exact oQ _ _ q);intro _ _)|(with_reducible apply Ok.bind;(exact o86 _ _ B);intro _ _)|(with_reducible apply Ok.bind;(exact o91 _);intro _ _)|(with_reducible apply Ok.bind;(exact o92 _ _ h);intro _ _)|(with_reducible apply Ok.bind;(exact o93 _ _ hm (by(first|trivial|assumption|contradiction|omega|solve_by_elim|(simp only[Ya,Yh,Yj,Yg,Ym,Yd,Yb]at*;omega)|grind)));intro _ _)|(with_reducible apply Ok.bind;(exact o94 _ _ h (hm.f _ (by assumption)));intro _ _)|(with_reducible apply Ok.bind;(exact IX _ _ _ _ _ (by omega) (hm.f _ (by assumption)).o);intro _ _)|(with_reducible apply Ok.clg;(exact fun _=>Ef _ _ _ _ _ (by omega));intro _)|(with_reducible apply Ok.clg;(exact fun _=>Kh _ (hm.f _ (by assumption)).n);intro _)|(with_reducible apply Ok.clg;(exact fun _=>oQ _ _ q);intro _)|(with_reducible apply Ok.clg;(exact fun _=>o86 _ _ B);intro _)|(with_reducible apply Ok.clg;(exact fun _=>o91 _);intro _)|(with_reducible apply Ok.clg;(exact fun _=>o92 _ _ h);intro _)|(with_reducible apply Ok.clg;(exact fun _=>o93 _ _ hm (by(first|trivial|assumption|contradiction|omega|solve_by_elim|(simp only[Ya,Yh,Yj,Yg,Ym,Yd,Yb]at*;omega)|grind)));intro _)|(with_reducible apply Ok.clg;(exact fun _=>o94 _ _ h (hm.f _ (by assumption)));intro _)|(with_reducible apply Ok.clg;(exact fun _=>IX _ _ _ _ _ (by omega) (hm.f _ (by assumption)).o);intro _)|with_reducible refine Ok.idxg ?_ (fun _=>?_)|with_reducible refine Ok.if ?_ ?_))
  all_goals try (first|trivial|assumption|contradiction|omega|solve_by_elim|(simp only[Ya,Yh,Yj,Yg,Ym,Yd,Yb]at*;omega)|grind)
  have D:=‹decide (0<(v:Int))=true→m.fields[((v:Int)-1).toNat]?=some (m.fields.getD ((v:Int)-1).toNat Rw.z)∧_›
  have he:=‹m.fields[v]?=some _›
  dsimp only
  refine⟨⟨by(first|trivial|assumption|contradiction|omega|solve_by_elim|(simp only[Ya,Yh,Yj,Yg,Ym,Yd,Yb]at*;omega)|grind),by omega,fun p=>⟨ZA3 (b:=m.fields.getD ((v:Int)-1).toNat Rw.z) (c (by omega)).1 he fun k=>?_,fun j f n g=>?_⟩⟩,by(first|trivial|assumption|contradiction|omega|solve_by_elim|(simp only[Ya,Yh,Yj,Yg,Ym,Yd,Yb]at*;omega)|grind)⟩
  have ev:((v:Int)-1).toNat=v-1:=by omega
  refine⟨ev▸(D (Y2 (by omega))).1,?_⟩
  rcases Int.lt_or_le (m.fields.getD ((v:Int)-1).toNat Rw.z).num (Fld.num _)with A|z
  ·exact A
  ·exfalso
   have I:=Ya _ _▸And.intro (Y2 (show(0:Int)<v by omega)) (Y2 z)
   grind
  ·rcases Nat.lt_or_eq_of_le (Nat.le_of_lt_succ n)with n|rfl
   ·exact(c (by omega)).2 j f n g
   ·rw[he]at g
    cases g
    refine⟨(show _=true→IZ _ by assumption) (QC fun o=>?_),(show _=true→MS _ by assumption) (QC fun o=>?_),(show _=true→MZ s _ by assumption) (QC fun o=>?_)⟩
    all_goals(
     rw[Bool.not_eq_true]at o
     subst o
     simp only[YT,Fc]at*
     omega)
  have C:v=m.fields.length:=by(first|trivial|assumption|contradiction|omega|solve_by_elim|(simp only[Ya,Yh,Yj,Yg,Ym,Yd,Yb]at*;omega)|grind)
  subst C
  exact⟨by(first|trivial|assumption|contradiction|omega|solve_by_elim|(simp only[Ya,Yh,Yj,Yg,Ym,Yd,Yb]at*;omega)|grind),fun p=>⟨(c p).1,fun j f g=>(c p).2 j f (Yi.1 g).1 g⟩⟩
 have G:∀a:List Prb,a.length≤20000000→Ok (Sum.elim (fun y:List Prb=>a.length≤y.length∧y.length≤22000000) No) (An (VU s m l) Aj (0,a)):=by
  intro a d
  refine Ok.loop (fun v:Nat×List Prb=>v.1≤m.gone.length∧v.2.length≤20000000+v.1∧a.length≤v.2.length) (fun v:Nat×List Prb=>m.gone.length-v.1) ⟨by simp,by simpa using d,by simp⟩ (Bc (by omega)) fun v k=>?_
  obtain⟨v,r⟩:=v
  obtain⟨t,u,c⟩:=k
  dsimp only at t u c
  dsimp only[VU,lA,jk,iJ,mQ,br,ix,vz,vw,vs,ln,Ak,lc,cl,wa,fl,Ag,br]
  (repeat' (first|with_reducible refine Ok.br (fun _=>?_) (fun _=>?_)|with_reducible refine Ok.pure ?_|with_reducible refine Ok.idx ?_ (fun _ _ _=>?_)|(with_reducible apply Ok.bind;(exact Ef _ _ _ _ _ (by omega));intro _ _)|(with_reducible apply Ok.bind;(exact oR _ (hm.g _ (by assumption)));intro _ _)|with_reducible refine Ok.if ?_ ?_))<;>(first|trivial|assumption|contradiction|omega|grind|(simp only[Bd.c,Bd.vl,Yk,Yf,AK]at*;grind))
 dsimp only[dM,mw,k7,nm,jf,lZ,iZ,m9,mM,mP,mb,nZ,kv,kg,mW,vz,vy,vw,lr,lc,cl,fl,fr,Ag]
 (repeat' (first|with_reducible refine Ok.br (fun _=>?_) (fun _=>?_)|with_reducible refine Ok.pure ?_|(with_reducible apply Ok.lb;(exact E _ (by(first|trivial|assumption|contradiction|omega|solve_by_elim|(simp only[Ya,Yh,Yj,Yg,Ym,Yd,Yb]at*;omega)|grind)));all_goals(intro _ _;try dsimp only))|(with_reducible apply Ok.lb;(exact G _ (by omega));all_goals(intro _ _;try dsimp only))|(with_reducible apply Ok.bind;(exact oP _ hm.n);intro _ _)|(with_reducible apply Ok.bind;(exact cN _ _ _ _);intro _ _)|(with_reducible apply Ok.bind;(exact Ef _ _ _ _ _ (by omega));intro _ _)|(with_reducible apply Ok.bind;(exact IX _ _ _ _ _ (by omega) hm.o);intro _ _)|(with_reducible apply Ok.bind;(exact o96 _ _ _ _ _ (by omega) q);intro _ _)|(with_reducible apply Ok.bind;(exact o87 _ _ _ h hm hl);intro _ _)|with_reducible refine Ok.if ?_ ?_))<;>(first|trivial|assumption|contradiction|omega|grind|(simp only[Bd.c,Bd.vl,Yk,Yf,AK]at*;grind))
theorem o67(e:Enm)(hm:SzE e):Ok (fun y=>y.length≤67108864) (eK e):=by
 have l:=hm.il
 have f:=hm.r
 have k:∀(v:Nat) (r:List Prb) (x:Itm),v≤e.items.length→Ok (Sum.elim Tr No) (An (Q4 e v r x) Aj (false,0)):=by
  intro w r x m
  refine Ok.loop (fun v:Bool×Nat=>v.2≤w) (fun v:Bool×Nat=>w-v.2) (by simp) (Bc (by omega)) fun v c=>?_
  obtain⟨b,i⟩:=v
  dsimp only at c
  dsimp only[Q4,Zm,br,ix,vz,vw,vs,ln,Ak,wa,fl,br]
  (repeat' (first|with_reducible refine Ok.br (fun _=>?_) (fun _=>?_)|with_reducible refine Ok.pure ?_|with_reducible refine Ok.idx ?_ (fun _ _ _=>?_)|with_reducible refine Ok.if ?_ ?_))<;>(first|trivial|assumption|contradiction|omega|grind|(simp only[Bd.c,Bd.vl,Yk,Yf,AK]at*;grind))
 have j:∀d:List Prb,d.length≤9→Ok (Sum.elim (fun y:List Prb=>y.length≤10485769) No) (An (V5 e) Aj (0,d)):=by
  intro d a
  refine Ok.loop (fun v:Nat×List Prb=>v.1≤e.items.length∧v.2.length≤9+10*v.1) (fun v:Nat×List Prb=>e.items.length-v.1) ⟨by simp,by simpa using a⟩ (Bc (by omega)) fun v c=>?_
  obtain⟨v,r⟩:=v
  obtain⟨g,h⟩:=c
  dsimp only at g h
  dsimp only[V5,lP,k8,l2,nk,jF,mc,je,iQ,ZB,XR,ZW,ZF,bw,bQ,ZJ,am,br,ix,A4,vz,vw,vs,vg,ln,Ak,lc,cl,wa,wi,fl,Ag,br]
  (repeat' (first|with_reducible refine Ok.br (fun _=>?_) (fun _=>?_)|with_reducible refine Ok.pure ?_|with_reducible refine Ok.idx ?_ (fun _ _ _=>?_)|(with_reducible apply Ok.lb;(exact k _ _ _ (by omega));all_goals(intro _ _;try dsimp only))|(with_reducible apply Ok.bind;(exact Ef _ _ _ _ _ (by omega));intro _ _)|(with_reducible apply Ok.bind;(exact Kh _ (hm.i _ (by assumption)).n);intro _ _)|(with_reducible apply Ok.bind;(exact oQ _ _ f);intro _ _)|(with_reducible apply Ok.bind;(exact IX _ _ _ _ _ (by omega) (hm.i _ (by assumption)).o);intro _ _)|with_reducible refine Ok.idxg ?_ (fun _=>?_)|with_reducible refine Ok.if ?_ ?_))<;>(first|trivial|assumption|contradiction|omega|grind|(simp only[Bd.c,Bd.vl,Yk,Yf,AK]at*;grind))
 dsimp only[eK,kY,i9,od,kM,jY,ox,lm,oi,ll,i6,n1,iV,mH,A4,vz,vy,vw,lr,lc,cl,fl,fr,Ag]
 (repeat' (first|with_reducible refine Ok.br (fun _=>?_) (fun _=>?_)|with_reducible refine Ok.pure ?_|(with_reducible apply Ok.lb;(exact j _ (by(first|trivial|assumption|contradiction|omega|solve_by_elim|(simp only[Ya,Yh,Yj,Yg,Ym,Yd,Yb]at*;omega)|grind)));all_goals(intro _ _;try dsimp only))|(with_reducible apply Ok.bind;(exact oP _ hm.n);intro _ _)|(with_reducible apply Ok.bind;(exact cN _ _ _ _);intro _ _)|(with_reducible apply Ok.bind;(exact Ef _ _ _ _ _ (by omega));intro _ _)|(with_reducible apply Ok.bind;(exact IX _ _ _ _ _ (by omega) hm.o);intro _ _)|(with_reducible apply Ok.bind;(exact o96 _ _ _ _ _ (by omega) f);intro _ _)|with_reducible refine Ok.idxg ?_ (fun _=>?_)|with_reducible refine Ok.if ?_ ?_))<;>(first|trivial|assumption|contradiction|omega|grind|(simp only[Bd.c,Bd.vl,Yk,Yf,AK]at*;grind))
theorem o68(s:Scm)(e:Svc)(h:SzS s)(hm:SzW e):Ok (fun y=>y.length≤67108864) (dP s e):=by
 have i:=hm.ml
 have g:∀b:List Prb,b.length≤9→Ok (Sum.elim (fun y:List Prb=>y.length≤10485769) No) (An (Ri s e) Aj (0,b)):=by
  intro b a
  refine Ok.loop (fun v:Nat×List Prb=>v.1≤e.methods.length∧v.2.length≤9+10*v.1) (fun v:Nat×List Prb=>e.methods.length-v.1) ⟨by simp,by simpa using a⟩ (Bc (by omega)) fun v f=>?_
  obtain⟨v,r⟩:=v
  obtain⟨c,d⟩:=f
  dsimp only at c d
  dsimp only[Ri,mN,jK,jP,kG,aO,Xx,Zx,Zv,bo,bG,ZT,ai,ac,br,ix,A4,vz,vw,vs,vg,ln,Ak,lc,cl,clg,wa,wi,fl,Ag,br]
  (repeat' (first|with_reducible refine Ok.br (fun _=>?_) (fun _=>?_)|with_reducible refine Ok.pure ?_|with_reducible refine Ok.idx ?_ (fun _ _ _=>?_)|(with_reducible apply Ok.bind;(exact Ef _ _ _ _ _ (by omega));intro _ _)|(with_reducible apply Ok.bind;(exact P3 _ _ h);intro _ _)|(with_reducible apply Ok.bind;(exact Kh _ (hm.m _ (by assumption)).n);intro _ _)|(with_reducible apply Ok.bind;(exact IX _ _ _ _ _ (by omega) (hm.m _ (by assumption)).o);intro _ _)|(with_reducible apply Ok.clg;(exact fun _=>Ef _ _ _ _ _ (by omega));intro _)|(with_reducible apply Ok.clg;(exact fun _=>P3 _ _ h);intro _)|(with_reducible apply Ok.clg;(exact fun _=>Kh _ (hm.m _ (by assumption)).n);intro _)|(with_reducible apply Ok.clg;(exact fun _=>IX _ _ _ _ _ (by omega) (hm.m _ (by assumption)).o);intro _)|with_reducible refine Ok.idxg ?_ (fun _=>?_)|with_reducible refine Ok.if ?_ ?_))<;>(first|trivial|assumption|contradiction|omega|grind|(simp only[Bd.c,Bd.vl,Yk,Yf,AK]at*;grind))
 dsimp only[dP,iU,jh,jc,ma,m8,mK,nd,lM,m5,vz,vw,lr,lc,cl,fl,fr,Ag]
 (repeat' (first|with_reducible refine Ok.br (fun _=>?_) (fun _=>?_)|with_reducible refine Ok.pure ?_|(with_reducible apply Ok.lb;(exact g _ (by(first|trivial|assumption|contradiction|omega|solve_by_elim|(simp only[Ya,Yh,Yj,Yg,Ym,Yd,Yb]at*;omega)|grind)));all_goals(intro _ _;try dsimp only))|(with_reducible apply Ok.bind;(exact oP _ hm.n);intro _ _)|(with_reducible apply Ok.bind;(exact cN _ _ _ _);intro _ _)|(with_reducible apply Ok.bind;(exact Ef _ _ _ _ _ (by omega));intro _ _)|(with_reducible apply Ok.bind;(exact IX _ _ _ _ _ (by omega) hm.o);intro _ _)|with_reducible refine Ok.if ?_ ?_))<;>(first|trivial|assumption|contradiction|omega|grind|(simp only[Bd.c,Bd.vl,Yk,Yf,AK]at*;grind))
structure Few (s:Scm):Prop where
 m:s.messages.length≤150
 e:s.enums.length≤150
 w:s.services.length≤150
theorem o37(s:Scm)(h:SzS s)(k:Few s):Ok (fun y=>y.length=0→∀(i:Nat) (m:Msg),s.messages[i]?=some m→GdM s m) (eu s):=by
 have p:=k.m
 have q:=k.e
 have t:=k.w
 have g:Ok (Sum.elim (fun y:List Prb=>y.length≤9) No) (An (Q3 s) Aj (1,[])):=by
  refine Ok.loop (fun v:Nat×List Prb=>1≤v.1∧v.1≤4∧v.2.length≤2*v.1) (fun v:Nat×List Prb=>4-v.1) ⟨by simp,by simp,by simp⟩ (Bc (by omega)) fun v f=>?_
  obtain⟨v,r⟩:=v
  obtain⟨c,d,e⟩:=f
  dsimp only at c d e
  dsimp only[Q3,Zh,Z6,ZU,bP,Xu,bf,XZ,br,vz,vw,vs,ln,Ak,lc,cl,wa,fl,Ag,br]
  (repeat' (first|with_reducible refine Ok.br (fun _=>?_) (fun _=>?_)|with_reducible refine Ok.pure ?_|(with_reducible apply Ok.bind;(exact oO _ _ h);intro _ _)|(with_reducible apply Ok.bind;(exact Ef _ _ _ _ _ (by omega));intro _ _)|(with_reducible apply Ok.bind;(exact o63 _ (by assumption));intro _ _)|with_reducible refine Ok.if ?_ ?_))<;>(first|trivial|assumption|contradiction|omega|grind|(simp only[Bd.c,Bd.vl,Yk,Yf,AK]at*;grind))
 have j:∀(a:List Prb) (l:List Bool),a.length≤10→l.length=s.messages.length→Ok (Sum.elim (fun y:List Prb=>y.length≤10066329610∧(y.length=0→∀(i:Nat) (m:Msg),s.messages[i]?=some m→GdM s m)) No) (An (Ry s l) Aj (0,a)):=by
  intro a l b hl
  refine Ok.loop (fun v:Nat×List Prb=>v.1≤s.messages.length∧v.2.length≤10+67108864*v.1∧(v.2.length=0→∀(i:Nat) (m:Msg),i<v.1→s.messages[i]?=some m→GdM s m)) (fun v:Nat×List Prb=>s.messages.length-v.1) ⟨by simp,by simpa using b,fun _ i m hi=>by simp at hi⟩ (Bc (by omega)) fun v f=>?_
  obtain⟨v,r⟩:=v
  obtain⟨c,d,e⟩:=f
  dsimp only at c d e
  dsimp only[Ry,mu,XL,PO,br,ix,vz,vw,vs,ln,Ak,lc,aq,cl,wa,tw,fl,Ag,br]
  (repeat' (first|with_reducible refine Ok.br (fun _=>?_) (fun _=>?_)|with_reducible refine Ok.pure ?_|with_reducible refine Ok.idx ?_ (fun _ _ _=>?_)|(with_reducible apply Ok.bind;(exact o66 _ _ _ h (h.m _ (by assumption)) hl);intro _ _)|with_reducible refine Ok.if ?_ ?_))<;>(first|trivial|assumption|contradiction|omega|grind|(simp only[Bd.c,Bd.vl,Yk,Yf,AK]at*;grind))
 have n:∀a:List Prb,a.length≤10066329610→Ok (Sum.elim (fun y:List Prb=>a.length≤y.length∧y.length≤20132659210) No) (An (QK s) Aj (0,a)):=by
  intro a b
  refine Ok.loop (fun v:Nat×List Prb=>v.1≤s.enums.length∧v.2.length≤10066329610+67108864*v.1∧a.length≤v.2.length) (fun v:Nat×List Prb=>s.enums.length-v.1) ⟨by simp,by simpa using b,by simp⟩ (Bc (by omega)) fun v f=>?_
  obtain⟨v,r⟩:=v
  obtain⟨c,d,e⟩:=f
  dsimp only at c d e
  dsimp only[QK,kQ,lu,OT,br,ix,vz,vw,vs,ln,Ak,lc,aq,cl,wa,tw,fl,Ag,br]
  (repeat' (first|with_reducible refine Ok.br (fun _=>?_) (fun _=>?_)|with_reducible refine Ok.pure ?_|with_reducible refine Ok.idx ?_ (fun _ _ _=>?_)|(with_reducible apply Ok.bind;(exact o67 _ (h.e _ (by assumption)));intro _ _)|with_reducible refine Ok.if ?_ ?_))<;>(first|trivial|assumption|contradiction|omega|grind|(simp only[Bd.c,Bd.vl,Yk,Yf,AK]at*;grind))
 have o:∀a:List Prb,a.length≤20132659210→Ok (Sum.elim (fun y:List Prb=>a.length≤y.length) No) (An (Rs s) Aj (0,a)):=by
  intro a b
  refine Ok.loop (fun v:Nat×List Prb=>v.1≤s.services.length∧v.2.length≤20132659210+67108864*v.1∧a.length≤v.2.length) (fun v:Nat×List Prb=>s.services.length-v.1) ⟨by simp,by simpa using b,by simp⟩ (Bc (by omega)) fun v f=>?_
  obtain⟨v,r⟩:=v
  obtain⟨c,d,e⟩:=f
  dsimp only at c d e
  dsimp only[Rs,lg,nT,O8,br,ix,vz,vw,vs,ln,Ak,lc,aq,cl,wa,tw,fl,Ag,br]
  (repeat' (first|with_reducible refine Ok.br (fun _=>?_) (fun _=>?_)|with_reducible refine Ok.pure ?_|with_reducible refine Ok.idx ?_ (fun _ _ _=>?_)|(with_reducible apply Ok.bind;(exact o68 _ _ h (h.w _ (by assumption)));intro _ _)|with_reducible refine Ok.if ?_ ?_))<;>(first|trivial|assumption|contradiction|omega|grind|(simp only[Bd.c,Bd.vl,Yk,Yf,AK]at*;grind))
 dsimp only[eu,iR,ng,nu,iS,ob,mC,kT,kR,jU,ku,iT,kO,vz,vw,lr,lc,cl,clg,fl,fr]
 (repeat' (first|with_reducible refine Ok.br (fun _=>?_) (fun _=>?_)|with_reducible refine Ok.pure ?_|(with_reducible apply Ok.lb;(exact g);all_goals(intro _ _;try dsimp only))|(with_reducible apply Ok.lb;(exact j _ _ (by omega) (by assumption));all_goals(intro _ _;try dsimp only))|(with_reducible apply Ok.lb;(exact n _ (by omega));all_goals(intro _ _;try dsimp only))|(with_reducible apply Ok.lb;(exact o _ (by omega));all_goals(intro _ _;try dsimp only))|(with_reducible apply Ok.bind;(exact oO _ _ h);intro _ _)|(with_reducible apply Ok.bind;(exact o64 _ _ (by assumption) (by assumption));intro _ _)|(with_reducible apply Ok.bind;(exact o65 _ h);intro _ _)|(with_reducible apply Ok.bind;(exact Ef _ _ _ _ _ (by omega));intro _ _)|(with_reducible apply Ok.clg;(exact fun _=>oO _ _ h);intro _)|(with_reducible apply Ok.clg;(exact fun _=>o64 _ _ (by assumption) (by assumption));intro _)|(with_reducible apply Ok.clg;(exact fun _=>o65 _ h);intro _)|(with_reducible apply Ok.clg;(exact fun _=>Ef _ _ _ _ _ (by omega));intro _)|with_reducible refine Ok.if ?_ ?_))<;>(first|trivial|assumption|contradiction|omega|grind|(simp only[Bd.c,Bd.vl,Yk,Yf,AK]at*;grind))
theorem o16(s:Scm)(h:SzS s)(k:Few s):Ok (fun b=>b=true→∀(i:Nat) (m:Msg),s.messages[i]?=some m→GdM s m) (Ta s):=by
 dsimp only[Ta,XU,vz,vw,lr,cl,Ag]
 (repeat' (first|with_reducible refine Ok.br (fun _=>?_) (fun _=>?_)|with_reducible refine Ok.pure ?_|(with_reducible apply Ok.bind;(exact o37 _ h k);intro _ _)|with_reducible refine Ok.if ?_ ?_))<;>(first|trivial|assumption|contradiction|omega|grind|(simp only[Bd.c,Bd.vl,Yk,Yf,AK]at*;grind))
end Go.Proofs.YtleccgigifnfgaaGreat
namespace Go.Proofs.YtleccgigifnfgaaGreat
set_option linter.all false
open Go Go.Eng
theorem Kg(l:List ByteArray)(n:Int)(h:l.length≤1048576)(b:0≤n)(a:n≤400):Ok (fun y:Int=>0≤y∧y≤1048986∧(l.length≤10→(l.length:Int)≤y)) (eh l n):=by
 have q:Ok (Sum.elim Tr fun y:Int=>10≤y∧y≤410) (An (Wp l n) Aj 0):=by
  refine Ok.loop (fun v:Nat=>v≤l.length) (fun v:Nat=>l.length-v) (by omega) (Bc (by omega)) fun v c=>?_
  dsimp only[Wp,X8,br,ix,vz,vs,Ap,ln,Ak,wa,wi,Ag,A2,br]
  (repeat' (first|with_reducible refine Ok.br (fun _=>?_) (fun _=>?_)|with_reducible refine Ok.pure ?_|with_reducible refine Ok.idx ?_ (fun _ _ _=>?_)|with_reducible refine Ok.if ?_ ?_))<;>(first|trivial|assumption|contradiction|omega|grind|(simp only[Bd.c,Bd.vl,Yk,Yf,AK]at*;grind))
 dsimp only[eh,Xp,XH,XV,vz,lr,lc,Ag]
 (repeat' (first|with_reducible refine Ok.br (fun _=>?_) (fun _=>?_)|with_reducible refine Ok.pure ?_|(with_reducible apply Ok.lb;(exact q);all_goals(intro _ _;try dsimp only))|with_reducible refine Ok.if ?_ ?_))<;>(first|trivial|assumption|contradiction|omega|grind|(simp only[Bd.c,Bd.vl,Yk,Yf,AK]at*;grind))
theorem MO(l:List Nt)(n:Int)(h:GI l)(e:0≤n)(c:n≤400):Ok (fun y:Int=>0≤y∧y≤1048986) (eg l n):=by
 obtain⟨d,b⟩:=h
 have g:∀x∈l,x.val.list.length≤1048576:=fun x a=>(b x a).v.l
 have i:∀x∈l,x.val.pairs.length≤1048576:=fun x a=>(b x a).v.p
 have j:∀x∈l,x.val.slots.length≤1048576:=fun x a=>(b x a).v.s
 have k:∀x∈l,x.val.raws.length≤1048576:=fun x a=>(b x a).v.r
 have q:Ok (Sum.elim Tr fun y:Int=>10≤y∧y≤410) (An (Wo l n) Aj 0):=by
  refine Ok.loop (fun v:Nat=>v≤l.length) (fun v:Nat=>l.length-v) (by omega) (Bc (by omega)) fun v f=>?_
  dsimp only[Wo,Xs,br,ix,vz,vy,vw,vs,vg,Ap,ln,Ak,wa,wi,Ag,A2,br]
  (repeat' (first|with_reducible refine Ok.br (fun _=>?_) (fun _=>?_)|with_reducible refine Ok.pure ?_|with_reducible refine Ok.idx ?_ (fun _ _ _=>?_)|with_reducible refine Ok.if ?_ ?_))<;>(first|trivial|assumption|contradiction|omega|grind|(simp only[Bd.c,Bd.vl,Yk,Yf,AK]at*;grind))
 dsimp only[eg,aB,bp,aS,vz,lr,lc,Ag]
 (repeat' (first|with_reducible refine Ok.br (fun _=>?_) (fun _=>?_)|with_reducible refine Ok.pure ?_|(with_reducible apply Ok.lb;(exact q);all_goals(intro _ _;try dsimp only))|with_reducible refine Ok.if ?_ ?_))<;>(first|trivial|assumption|contradiction|omega|grind|(simp only[Bd.c,Bd.vl,Yk,Yf,AK]at*;grind))
theorem o15(s:Scm)(h:SzS s):Ok (fun b=>b=true→Few s) (dF s):=by
 have u:=h.ml
 have z:=h.el
 have A:=h.wl
 have l:∀(v:Nat) (m:Msg) (n:Int),SzM m→ -10000000≤n→n≤400→Ok (Sum.elim (fun y:Int=>-10000000≤y∧y≤400) No) (An (V9 s v m) Aj (n,0)):=by
  intro w m n hm g f
  have j:=hm.fl
  refine Ok.loop (fun v:Int×Nat=>v.2≤m.fields.length∧ -10000000≤v.1∧v.1≤400) (fun v:Int×Nat=>m.fields.length-v.2) ⟨by omega,by omega,by omega⟩ (Bc (by omega)) fun v e=>?_
  obtain⟨n,v⟩:=v
  obtain⟨c,d,a⟩:=e
  dsimp only at c d a
  dsimp only[V9,aF,br,ix,vz,vw,vs,v2,ln,Ak,cl,wa,wi,Ag,A2,br]
  (repeat' (first|with_reducible refine Ok.br (fun _=>?_) (fun _=>?_)|with_reducible refine Ok.pure ?_|with_reducible refine Ok.idx ?_ (fun _ _ _=>?_)|(with_reducible apply Ok.bind;(exact MO _ _ (hm.f _ (by assumption)).o (by(first|trivial|assumption|contradiction|omega|solve_by_elim|(simp only[Ya,Yh,Yj,Yg,Ym,Yd,Yb]at*;omega)|grind)) a);intro _ _)|(with_reducible apply Ok.bind;(exact Kg _ _ (by simp) (by(first|trivial|assumption|contradiction|omega|solve_by_elim|(simp only[Ya,Yh,Yj,Yg,Ym,Yd,Yb]at*;omega)|grind)) a);intro _ _)|with_reducible refine Ok.if ?_ ?_))<;>(first|trivial|assumption|contradiction|omega|grind|(simp only[Bd.c,Bd.vl,Yk,Yf,AK]at*;grind))
 have k:Ok (Sum.elim (fun y:Int=>-10000000≤y∧y≤400) No) (An (VJ s) Aj (400,0)):=by
  refine Ok.loop (fun v:Int×Nat=>v.2≤s.messages.length∧ -10000000≤v.1∧v.1≤400) (fun v:Int×Nat=>s.messages.length-v.2) ⟨by omega,by omega,by omega⟩ (Bc (by omega)) fun v e=>?_
  obtain⟨n,v⟩:=v
  obtain⟨c,d,a⟩:=e
  dsimp only at c d a
  dsimp only[VJ,aT,X2,Zt,br,ix,vz,vw,vs,v2,ln,Ak,lc,cl,wa,wi,Ag,br]
  have t:∀x∈s.messages,x.reserved.length≤1048576:=fun x i=>(h.m x i).r
  (repeat' (first|with_reducible refine Ok.br (fun _=>?_) (fun _=>?_)|with_reducible refine Ok.pure ?_|with_reducible refine Ok.idx ?_ (fun _ _ _=>?_)|(with_reducible apply Ok.lb;(exact l _ _ _ (h.m _ (by assumption)) (by(first|trivial|assumption|contradiction|omega|solve_by_elim|(simp only[Ya,Yh,Yj,Yg,Ym,Yd,Yb]at*;omega)|grind)) (by(first|trivial|assumption|contradiction|omega|solve_by_elim|(simp only[Ya,Yh,Yj,Yg,Ym,Yd,Yb]at*;omega)|grind)));all_goals(intro _ _;try dsimp only))|(with_reducible apply Ok.bind;(exact MO _ _ (h.m _ (by assumption)).o (by(first|trivial|assumption|contradiction|omega|solve_by_elim|(simp only[Ya,Yh,Yj,Yg,Ym,Yd,Yb]at*;omega)|grind)) a);intro _ _)|(with_reducible apply Ok.bind;(exact Kg _ _ (h.m _ (by assumption)).gl (by(first|trivial|assumption|contradiction|omega|solve_by_elim|(simp only[Ya,Yh,Yj,Yg,Ym,Yd,Yb]at*;omega)|grind)) a);intro _ _)|(with_reducible apply Ok.bind;(exact Kg _ _ (by simp) (by(first|trivial|assumption|contradiction|omega|solve_by_elim|(simp only[Ya,Yh,Yj,Yg,Ym,Yd,Yb]at*;omega)|grind)) a);intro _ _)|with_reducible refine Ok.if ?_ ?_))<;>(first|trivial|assumption|contradiction|omega|grind|(simp only[Bd.c,Bd.vl,Yk,Yf,AK]at*;grind))
 have p:∀(v:Nat) (m:Enm) (n:Int),SzE m→ -10000000≤n→n≤400→Ok (Sum.elim (fun y:Int=>-10000000≤y∧y≤400) No) (An (Ru s v m) Aj (n,0)):=by
  intro w m n hm g f
  have j:=hm.il
  refine Ok.loop (fun v:Int×Nat=>v.2≤m.items.length∧ -10000000≤v.1∧v.1≤400) (fun v:Int×Nat=>m.items.length-v.2) ⟨by omega,by omega,by omega⟩ (Bc (by omega)) fun v e=>?_
  obtain⟨n,v⟩:=v
  obtain⟨c,d,a⟩:=e
  dsimp only at c d a
  dsimp only[Ru,bD,br,ix,vz,vw,vs,ln,Ak,cl,wa,wi,Ag,br]
  (repeat' (first|with_reducible refine Ok.br (fun _=>?_) (fun _=>?_)|with_reducible refine Ok.pure ?_|with_reducible refine Ok.idx ?_ (fun _ _ _=>?_)|(with_reducible apply Ok.bind;(exact MO _ _ (hm.i _ (by assumption)).o (by(first|trivial|assumption|contradiction|omega|solve_by_elim|(simp only[Ya,Yh,Yj,Yg,Ym,Yd,Yb]at*;omega)|grind)) a);intro _ _)|(with_reducible apply Ok.bind;(exact Kg _ _ (by simp) (by(first|trivial|assumption|contradiction|omega|solve_by_elim|(simp only[Ya,Yh,Yj,Yg,Ym,Yd,Yb]at*;omega)|grind)) a);intro _ _)|with_reducible refine Ok.if ?_ ?_))<;>(first|trivial|assumption|contradiction|omega|grind|(simp only[Bd.c,Bd.vl,Yk,Yf,AK]at*;grind))
 have o:∀n:Int,-10000000≤n→n≤400→Ok (Sum.elim (fun y:Int=>-10000000≤y∧y≤400) No) (An (Q8 s) Aj (n,0)):=by
  intro n g f
  refine Ok.loop (fun v:Int×Nat=>v.2≤s.enums.length∧ -10000000≤v.1∧v.1≤400) (fun v:Int×Nat=>s.enums.length-v.2) ⟨by omega,by omega,by omega⟩ (Bc (by omega)) fun v e=>?_
  obtain⟨n,v⟩:=v
  obtain⟨c,d,a⟩:=e
  dsimp only at c d a
  dsimp only[Q8,XG,Zs,Ze,br,ix,vz,vw,vs,ln,Ak,lc,cl,wa,wi,Ag,br]
  have t:∀x∈s.enums,x.reserved.length≤1048576:=fun x i=>(h.e x i).r
  (repeat' (first|with_reducible refine Ok.br (fun _=>?_) (fun _=>?_)|with_reducible refine Ok.pure ?_|with_reducible refine Ok.idx ?_ (fun _ _ _=>?_)|(with_reducible apply Ok.lb;(exact p _ _ _ (h.e _ (by assumption)) (by(first|trivial|assumption|contradiction|omega|solve_by_elim|(simp only[Ya,Yh,Yj,Yg,Ym,Yd,Yb]at*;omega)|grind)) (by(first|trivial|assumption|contradiction|omega|solve_by_elim|(simp only[Ya,Yh,Yj,Yg,Ym,Yd,Yb]at*;omega)|grind)));all_goals(intro _ _;try dsimp only))|(with_reducible apply Ok.bind;(exact MO _ _ (h.e _ (by assumption)).o (by(first|trivial|assumption|contradiction|omega|solve_by_elim|(simp only[Ya,Yh,Yj,Yg,Ym,Yd,Yb]at*;omega)|grind)) a);intro _ _)|(with_reducible apply Ok.bind;(exact Kg _ _ (by simp) (by(first|trivial|assumption|contradiction|omega|solve_by_elim|(simp only[Ya,Yh,Yj,Yg,Ym,Yd,Yb]at*;omega)|grind)) a);intro _ _)|with_reducible refine Ok.if ?_ ?_))<;>(first|trivial|assumption|contradiction|omega|grind|(simp only[Bd.c,Bd.vl,Yk,Yf,AK]at*;grind))
 have r:∀(v:Nat) (m:Svc) (n:Int),SzW m→ -10000000≤n→n≤400→Ok (Sum.elim (fun y:Int=>-10000000≤y∧y≤400) No) (An (Rl s v m) Aj (n,0)):=by
  intro w m n hm g f
  have j:=hm.ml
  refine Ok.loop (fun v:Int×Nat=>v.2≤m.methods.length∧ -10000000≤v.1∧v.1≤400) (fun v:Int×Nat=>m.methods.length-v.2) ⟨by omega,by omega,by omega⟩ (Bc (by omega)) fun v e=>?_
  obtain⟨n,v⟩:=v
  obtain⟨c,d,a⟩:=e
  dsimp only at c d a
  dsimp only[Rl,az,br,ix,vz,vw,vs,ln,Ak,cl,wa,wi,Ag,br]
  (repeat' (first|with_reducible refine Ok.br (fun _=>?_) (fun _=>?_)|with_reducible refine Ok.pure ?_|with_reducible refine Ok.idx ?_ (fun _ _ _=>?_)|(with_reducible apply Ok.bind;(exact MO _ _ (hm.m _ (by assumption)).o (by(first|trivial|assumption|contradiction|omega|solve_by_elim|(simp only[Ya,Yh,Yj,Yg,Ym,Yd,Yb]at*;omega)|grind)) a);intro _ _)|(with_reducible apply Ok.bind;(exact Kg _ _ (by simp) (by(first|trivial|assumption|contradiction|omega|solve_by_elim|(simp only[Ya,Yh,Yj,Yg,Ym,Yd,Yb]at*;omega)|grind)) a);intro _ _)|with_reducible refine Ok.if ?_ ?_))<;>(first|trivial|assumption|contradiction|omega|grind|(simp only[Bd.c,Bd.vl,Yk,Yf,AK]at*;grind))
 have q:∀n:Int,-10000000≤n→n≤400→Ok (Sum.elim (fun y:Int=>-10000000≤y∧y≤400) No) (An (Q9 s) Aj (n,0)):=by
  intro n g f
  refine Ok.loop (fun v:Int×Nat=>v.2≤s.services.length∧ -10000000≤v.1∧v.1≤400) (fun v:Int×Nat=>s.services.length-v.2) ⟨by omega,by omega,by omega⟩ (Bc (by omega)) fun v e=>?_
  obtain⟨n,v⟩:=v
  obtain⟨c,d,a⟩:=e
  dsimp only at c d a
  dsimp only[Q9,mJ,iP,j7,br,ix,vz,vw,vs,ln,Ak,lc,cl,wa,wi,Ag,br]
  (repeat' (first|with_reducible refine Ok.br (fun _=>?_) (fun _=>?_)|with_reducible refine Ok.pure ?_|with_reducible refine Ok.idx ?_ (fun _ _ _=>?_)|(with_reducible apply Ok.lb;(exact r _ _ _ (h.w _ (by assumption)) (by(first|trivial|assumption|contradiction|omega|solve_by_elim|(simp only[Ya,Yh,Yj,Yg,Ym,Yd,Yb]at*;omega)|grind)) (by(first|trivial|assumption|contradiction|omega|solve_by_elim|(simp only[Ya,Yh,Yj,Yg,Ym,Yd,Yb]at*;omega)|grind)));all_goals(intro _ _;try dsimp only))|(with_reducible apply Ok.bind;(exact MO _ _ (h.w _ (by assumption)).o (by(first|trivial|assumption|contradiction|omega|solve_by_elim|(simp only[Ya,Yh,Yj,Yg,Ym,Yd,Yb]at*;omega)|grind)) a);intro _ _)|(with_reducible apply Ok.bind;(exact Kg _ _ (by simp) (by(first|trivial|assumption|contradiction|omega|solve_by_elim|(simp only[Ya,Yh,Yj,Yg,Ym,Yd,Yb]at*;omega)|grind)) a);intro _ _)|with_reducible refine Ok.if ?_ ?_))<;>(first|trivial|assumption|contradiction|omega|grind|(simp only[Bd.c,Bd.vl,Yk,Yf,AK]at*;grind))
 dsimp only[dF,l5,kD,jv,mf,kZ,br,vz,vy,vw,vg,lr,lc,wa,Ag,br]
 (repeat' (first|with_reducible refine Ok.br (fun _=>?_) (fun _=>?_)|with_reducible refine Ok.pure ?_|(with_reducible apply Ok.lb;(exact k);all_goals(intro _ _;try dsimp only))|(with_reducible apply Ok.lb;(exact o _ (by(first|trivial|assumption|contradiction|omega|solve_by_elim|(simp only[Ya,Yh,Yj,Yg,Ym,Yd,Yb]at*;omega)|grind)) (by(first|trivial|assumption|contradiction|omega|solve_by_elim|(simp only[Ya,Yh,Yj,Yg,Ym,Yd,Yb]at*;omega)|grind)));all_goals(intro _ _;try dsimp only))|(with_reducible apply Ok.lb;(exact q _ (by(first|trivial|assumption|contradiction|omega|solve_by_elim|(simp only[Ya,Yh,Yj,Yg,Ym,Yd,Yb]at*;omega)|grind)) (by(first|trivial|assumption|contradiction|omega|solve_by_elim|(simp only[Ya,Yh,Yj,Yg,Ym,Yd,Yb]at*;omega)|grind)));all_goals(intro _ _;try dsimp only))|with_reducible refine Ok.if ?_ ?_))<;>first|(first|trivial|assumption|contradiction|omega|grind|(simp only[Bd.c,Bd.vl,Yk,Yf,AK]at*;grind))|exact fun _=>⟨by(first|trivial|assumption|contradiction|omega|solve_by_elim|(simp only[Ya,Yh,Yj,Yg,Ym,Yd,Yb]at*;omega)|grind),by(first|trivial|assumption|contradiction|omega|solve_by_elim|(simp only[Ya,Yh,Yj,Yg,Ym,Yd,Yb]at*;omega)|grind),by(first|trivial|assumption|contradiction|omega|solve_by_elim|(simp only[Ya,Yh,Yj,Yg,Ym,Yd,Yb]at*;omega)|grind)⟩
abbrev AS(v:Val):Prop:=Ay (Ai v)≤1048576
theorem Hs{v x:Val}(h:AS v)(b:x∈v.list):AS x:=by
 have a:=CJ (e:=Ar) b
 rw[Hg]at a
 unfold AS at*
 conv at h=>unfold Ai
 simp only[Ay,bk]at h
 omega
theorem DY{v:Val}{x:Pr}(h:AS v)(b:x∈v.pairs):AS x.key∧AS x.val:=by
 have a:=CJ (e:=As) b
 have e:As x=Ai x.key++Ai x.val:=by rw[L4];rfl
 rw[e,Ow]at a
 unfold AS at*
 conv at h=>unfold Ai
 simp only[Ay,bk]at h
 omega
theorem Hu{v:Val}{x:Slt}(h:AS v)(b:x∈v.slots):AS x.val:=by
 have a:=CJ (e:=Ah) b
 have e:Ah x=D.int .i64 x.num::Ai x.val:=by rw[IC];rfl
 rw[e,Ay]at a
 unfold AS at*
 conv at h=>unfold Ai
 simp only[Ay,bk]at h
 omega
theorem gC{α:Type}(p:α→Bool):∀l:List α,l.find? p=(l.findIdx? p).bind fun i=>l[i]?
 |[]=>rfl
 |x::l=>by
  rw[List.find?_cons,List.findIdx?_cons]
  cases h:p x with
  |true=>simp
  |false=>
   rw[gC p l]
   cases List.findIdx? p l<;>simp
def Ct{α:Type}[Inhabited α](l:List α)(z:α)(p:α→Bool):α×Bool:=(l.find? p).elim (z,false) fun x=>(x,true)
theorem LS{α:Type}[Inhabited α](l:List α)(z:α)(p:α→Bool):Ct l z p=match l.findIdx? p with|some i=>(l.getD i default,true)|none=>(z,false):=by
 unfold Ct
 rw[gC]
 cases h:l.findIdx? p with
 |none=>rfl
 |some i=>
  have:=(Ja.1 h).1
  simp[this]
def zM:Msg:=.mk ⟨#[]⟩ [] [] [] []
def zF:Fld:=.mk 0 ⟨#[]⟩ 0 0 (.mk 0 ⟨#[]⟩) ⟨#[]⟩ false (.mk 0 0 ⟨#[]⟩ [] [] [] []) []
theorem oI(s:Scm)(n:ByteArray)(h:s.messages.length≤1048576):Ll s n=some (Ct s.messages zM fun m=>decide (m.name=n)):=by
 have d:=DW (B:=Pu s n) (N:=Aj) s.messages (fun m=>decide (m.name=n)) (fun i=>(s.messages.getD i default,true)) () (fun i x a=>by
  have b:=Bz a
  have e:=(Yi.1 a).1
  have c:i+1<9223372036854775808:=by omega
  dsimp only[Pu,V0,br,ix,vz,vw,vs,Ap,ln,Ak,wa,Ag,br]
  simp only[b,c,a,Yv,Yy,Yc,YE,YN]
  cases decide (x.name=n)<;>simp) (by simp[Pu,V0,br,ix,vz,vw,vs,Ap,ln,Ak,wa,Ag,br]) (AY (by omega))
 dsimp only[Ll,Z0,Xi,aJ,vw,lr,lc]
 rw[d,LS]
 cases s.messages.findIdx? fun m=>decide (m.name=n)<;>rfl
theorem m84(l:List Msg)(n:ByteArray)(h:l.length≤1048576):S8 l (fun z=>Ls z n)=some (Ct l zM fun m=>decide (m.name=n)):=by
 have d:=DW (B:=OU l fun z=>Ls z n) (N:=Aj) l (fun m=>decide (m.name=n)) (fun i=>(l.getD i default,true)) () (fun i x a=>by
  have b:=Bz a
  have f:=(Yi.1 a).1
  have c:i+1<9223372036854775808:=by omega
  have e:Ls x n=some (decide (x.name=n)):=rfl
  dsimp only[OU,VC,br,ix,vw,vs,Ap,ln,Ak,cf,wa,br]
  simp only[b,c,a,e,Yv,Yy,Yc,YE,YN]
  cases decide (x.name=n)<;>simp) (by simp[OU,VC,br,ix,vw,vs,Ap,ln,Ak,cf,wa,br]) (AY (by omega))
 dsimp only[S8,kP,lW,i2,vz,vw,lr,lc,Ag]
 rw[d,LS]
 cases l.findIdx? fun m=>decide (m.name=n)<;>rfl
theorem LU{s:Scm}(h:SzS s)(n:ByteArray):(Ct s.messages zM fun m=>decide (m.name=n)).1.fields.length≤1048576:=by
 unfold Ct
 cases e:s.messages.find? fun m=>decide (m.name=n)with
 |none=>simp[zM]
 |some m=>exact(h.m _ (Kt e)).fl
theorem Rv{v x:Val}(b:x∈v.list):Ay (Ai x)<Ay (Ai v):=by
 have a:=CJ (e:=Ar) b
 rw[Hg]at a
 conv=>rhs;unfold Ai
 simp only[Ay,bk]
 omega
theorem Mn{v:Val}{x:Pr}(c:x∈v.pairs):Ay (Ai x.key)<Ay (Ai v)∧Ay (Ai x.val)<Ay (Ai v):=by
 have b:=CJ (e:=As) c
 have e:As x=Ai x.key++Ai x.val:=by rw[L4];rfl
 rw[e,Ow]at b
 have a:Ay (Ai v)=Ay [.int .i64 v.kind,.int .u64 v.bits,.str v.text,.list (v.list.map Ar),.list (v.pairs.map As),.list (v.slots.map Ah),.list (v.raws.map Au)]:=rfl
 rw[a]
 simp only[Ay,bk]
 omega
theorem XK{v:Val}{x:Slt}(c:x∈v.slots):Ay (Ai x.val)<Ay (Ai v):=by
 have a:=CJ (e:=Ah) c
 have e:Ah x=D.int .i64 x.num::Ai x.val:=by rw[IC];rfl
 rw[e,Ay]at a
 have b:Ay (Ai v)=Ay [.int .i64 v.kind,.int .u64 v.bits,.str v.text,.list (v.list.map Ar),.list (v.pairs.map As),.list (v.slots.map Ah),.list (v.raws.map Au)]:=rfl
 rw[b]
 simp only[Ay,bk]at a⊢
 omega
theorem DF{α:Type}{l:List α}{i:Nat}(z:α)(h:i<l.length):l[i]?=some (l.getD ((i:Int)).toNat z):=by
 rw[C9,YE,Yn h]
 rfl
theorem HK:∀(a:Nat) (v:Val),Ay (Ai v)<a→AS v→Ok (fun b=>b=true) (BN a v v)
 |0,v,h,_=>by omega
 |a+1,v,h,k=>by
  obtain⟨s1,s2,n,o,p⟩:=BI k
  have f:∀(i:Nat) (x y:Val),v.list[i]?=some x→v.list[i]?=some y→Ok (fun b=>b=true) (BN a x y):=fun i x y c hy=>by
   rw[c]at hy
   cases hy
   have hm:=Yu c
   exact HK a x (by have:=Rv hm;omega) (Hs k hm)
  have d:∀(i:Nat) (x y:Pr),v.pairs[i]?=some x→v.pairs[i]?=some y→Ok (fun b=>b=true) (BN a x.key y.key)∧Ok (fun b=>b=true) (BN a x.val y.val):=fun i x y c hy=>by
   rw[c]at hy
   cases hy
   have hm:=Yu c
   exact⟨HK a _ (by have:=(Mn hm).1;omega) (DY k hm).1,HK a _ (by have:=(Mn hm).2;omega) (DY k hm).2⟩
  have e:∀(i:Nat) (x y:Slt),v.slots[i]?=some x→v.slots[i]?=some y→Ok (fun b=>b=true) (BN a x.val y.val):=fun i x y c hy=>by
   rw[c]at hy
   cases hy
   have hm:=Yu c
   exact HK a _ (by have:=XK hm;omega) (Hu k hm)
  have g:Ok (Sum.elim Tr No) (An (MD v v (BN a)) Aj 0):=by
   refine Ok.loop (fun i:Nat=>i≤v.list.length) (fun i:Nat=>v.list.length-i) (by omega) (Bc (by omega)) fun i hi=>?_
   dsimp only[MD,VQ,br,ix,vz,vw,vs,Ap,ln,Ak,cs,wa,Ag,br]
   (repeat' (first|with_reducible refine Ok.br (fun _=>?_) (fun _=>?_)|with_reducible refine Ok.pure ?_|with_reducible refine Ok.idx ?_ (fun _ _ _=>?_)|(with_reducible apply Ok.bind;(exact f i _ _ (by assumption) (by assumption));intro _ _)|with_reducible refine Ok.if ?_ ?_))<;>(first|trivial|assumption|contradiction|omega|grind|(simp only[Bd.c,Bd.vl,Yk,Yf,AK]at*;grind))
  have j:Ok (Sum.elim Tr No) (An (Mw v v (BN a)) Aj 0):=by
   refine Ok.loop (fun i:Nat=>i≤v.pairs.length) (fun i:Nat=>v.pairs.length-i) (by omega) (Bc (by omega)) fun i hi=>?_
   dsimp only[Mw,Wc,br,ix,A4,vz,vw,vs,Ap,ln,Ak,cs,De,wa,Ag,br]
   (repeat' (first|with_reducible refine Ok.br (fun _=>?_) (fun _=>?_)|with_reducible refine Ok.pure ?_|with_reducible refine Ok.idx ?_ (fun _ _ _=>?_)|(with_reducible apply Ok.bind;(exact(d i _ _ (by assumption) (by assumption)).1);intro _ _)|(with_reducible apply Ok.bind;(exact(d i _ _ (DF _ (by(first|trivial|assumption|contradiction|omega|solve_by_elim|(simp only[Ya,Yh,Yj,Yg,Ym,Yd,Yb]at*;omega)|grind))) (DF _ (by(first|trivial|assumption|contradiction|omega|solve_by_elim|(simp only[Ya,Yh,Yj,Yg,Ym,Yd,Yb]at*;omega)|grind)))).2);intro _ _)|(with_reducible apply Ok.clg;(exact fun _=>(d i _ _ (by assumption) (by assumption)).1);intro _)|(with_reducible apply Ok.clg;(exact fun _=>(d i _ _ (DF _ (by(first|trivial|assumption|contradiction|omega|solve_by_elim|(simp only[Ya,Yh,Yj,Yg,Ym,Yd,Yb]at*;omega)|grind))) (DF _ (by(first|trivial|assumption|contradiction|omega|solve_by_elim|(simp only[Ya,Yh,Yj,Yg,Ym,Yd,Yb]at*;omega)|grind)))).2);intro _)|with_reducible refine Ok.idxg ?_ (fun _=>?_)|with_reducible refine Ok.if ?_ ?_))<;>(first|trivial|assumption|contradiction|omega|grind|(simp only[Bd.c,Bd.vl,Yk,Yf,AK]at*;grind))
  have l:Ok (Sum.elim Tr No) (An (Mz v v (BN a)) Aj 0):=by
   refine Ok.loop (fun i:Nat=>i≤v.slots.length) (fun i:Nat=>v.slots.length-i) (by omega) (Bc (by omega)) fun i hi=>?_
   dsimp only[Mz,Rf,br,ix,A4,vz,vw,vs,Ap,ln,Ak,De,wa,Ag,br]
   (repeat' (first|with_reducible refine Ok.br (fun _=>?_) (fun _=>?_)|with_reducible refine Ok.pure ?_|with_reducible refine Ok.idx ?_ (fun _ _ _=>?_)|(with_reducible apply Ok.bind;(exact e i _ _ (DF _ (by(first|trivial|assumption|contradiction|omega|solve_by_elim|(simp only[Ya,Yh,Yj,Yg,Ym,Yd,Yb]at*;omega)|grind))) (DF _ (by(first|trivial|assumption|contradiction|omega|solve_by_elim|(simp only[Ya,Yh,Yj,Yg,Ym,Yd,Yb]at*;omega)|grind))));intro _ _)|(with_reducible apply Ok.clg;(exact fun _=>e i _ _ (DF _ (by(first|trivial|assumption|contradiction|omega|solve_by_elim|(simp only[Ya,Yh,Yj,Yg,Ym,Yd,Yb]at*;omega)|grind))) (DF _ (by(first|trivial|assumption|contradiction|omega|solve_by_elim|(simp only[Ya,Yh,Yj,Yg,Ym,Yd,Yb]at*;omega)|grind))));intro _)|with_reducible refine Ok.idxg ?_ (fun _=>?_)|with_reducible refine Ok.if ?_ ?_))<;>(first|trivial|assumption|contradiction|omega|grind|(simp only[Bd.c,Bd.vl,Yk,Yf,AK]at*;grind))
  have m:Ok (Sum.elim Tr No) (An (MF v v (BN a)) Aj 0):=by
   refine Ok.loop (fun i:Nat=>i≤v.raws.length) (fun i:Nat=>v.raws.length-i) (by omega) (Bc (by omega)) fun i hi=>?_
   dsimp only[MF,V1,br,ix,vz,vw,vs,Ap,ln,Ak,wa,Ag,br]
   (repeat' (first|with_reducible refine Ok.br (fun _=>?_) (fun _=>?_)|with_reducible refine Ok.pure ?_|with_reducible refine Ok.idx ?_ (fun _ _ _=>?_)|with_reducible refine Ok.if ?_ ?_))<;>(first|trivial|assumption|contradiction|omega|grind|(simp only[Bd.c,Bd.vl,Yk,Yf,AK]at*;grind))
  show Ok _ (Lh (BN a) v v)
  dsimp only[Lh,U6,V8,Rt,Wq,QU,Wd,br,vy,vw,lr,lc,Ag,br]
  (repeat' (first|with_reducible refine Ok.br (fun _=>?_) (fun _=>?_)|with_reducible refine Ok.pure ?_|(with_reducible apply Ok.lb;(exact g);all_goals(intro _ _;try dsimp only))|(with_reducible apply Ok.lb;(exact j);all_goals(intro _ _;try dsimp only))|(with_reducible apply Ok.lb;(exact l);all_goals(intro _ _;try dsimp only))|(with_reducible apply Ok.lb;(exact m);all_goals(intro _ _;try dsimp only))|with_reducible refine Ok.if ?_ ?_))<;>first|rfl|contradiction|(simp at*;done)
theorem o17:∀(b:Nat) (v:Val) (a n:Int),AS v→1≤a→42-a<b→a≤41→0≤n→n≤2000→Ok (fun y:Int=>-1≤y∧y≤2000) (Gk b v a n)
 |0,v,a,n,h,j,k,l,o,p=>by omega
 |b+1,v,a,n,h,j,k,l,o,p=>by
  obtain⟨s1,s2,z,A,B⟩:=BI h
  have R:∀(x:Val) (n:Int),AS x→a≤40→0≤n→n≤2000→Ok (fun y:Int=>-1≤y∧y≤2000) (Gk b x (a+1) n):=fun x n r hl q g=>o17 b x (a+1) n r (by omega) (by omega) (by omega) q g
  have s:Ok (Sum.elim Tr (fun y:Int=>y= -1)) (An (VN v a n (Gk b)) Aj 0):=by
   refine Ok.loop (fun i:Nat=>i≤v.raws.length) (fun i:Nat=>v.raws.length-i) (by omega) (Bc (by omega)) fun i hi=>?_
   dsimp only[VN,ZI,br,ix,vz,vw,vs,Ap,ln,Ak,wa,Ag,A2,br]
   (repeat' (first|with_reducible refine Ok.br (fun _=>?_) (fun _=>?_)|with_reducible refine Ok.pure ?_|with_reducible refine Ok.idx ?_ (fun _ _ _=>?_)|with_reducible refine Ok.if ?_ ?_))<;>(first|trivial|assumption|contradiction|omega|grind|(simp only[Bd.c,Bd.vl,Yk,Yf,AK]at*;grind))
  have t:∀m:Int,a≤40→ -1≤m→m≤2000→Ok (Sum.elim (fun y:Int=>-1≤y∧y≤2000) No) (An (Wf v a (Gk b)) Aj (m,0)):=by
   intro m hl hm f
   refine Ok.loop (fun i:Int×Nat=>i.2≤v.list.length∧ -1≤i.1∧i.1≤2000) (fun i:Int×Nat=>v.list.length-i.2) ⟨by omega,by omega,by omega⟩ (Bc (by omega)) fun i hi=>?_
   obtain⟨m,i⟩:=i
   obtain⟨d,e,c⟩:=hi
   dsimp only at d e c
   dsimp only[Wf,XP,br,ix,vz,vw,vs,ln,Ak,cs,wa,wi,Ag,br]
   (repeat' (first|with_reducible refine Ok.br (fun _=>?_) (fun _=>?_)|with_reducible refine Ok.pure ?_|with_reducible refine Ok.idx ?_ (fun _ _ _=>?_)|(with_reducible apply Ok.bind;(exact R _ _ (Hs h (by assumption)) hl (by(first|trivial|assumption|contradiction|omega|solve_by_elim|(simp only[Ya,Yh,Yj,Yg,Ym,Yd,Yb]at*;omega)|grind)) c);intro _ _)|with_reducible refine Ok.if ?_ ?_))<;>(first|trivial|assumption|contradiction|omega|grind|(simp only[Bd.c,Bd.vl,Yk,Yf,AK]at*;grind))
  have u:∀m:Int,a≤40→ -1≤m→m≤2000→Ok (Sum.elim (fun y:Int=>-1≤y∧y≤2000) No) (An (Rk v a (Gk b)) Aj (m,0)):=by
   intro m hl hm f
   refine Ok.loop (fun i:Int×Nat=>i.2≤v.pairs.length∧ -1≤i.1∧i.1≤2000) (fun i:Int×Nat=>v.pairs.length-i.2) ⟨by omega,by omega,by omega⟩ (Bc (by omega)) fun i hi=>?_
   obtain⟨m,i⟩:=i
   obtain⟨d,e,c⟩:=hi
   dsimp only at d e c
   dsimp only[Rk,XF,br,ix,vz,vw,vs,ln,Ak,cs,wa,wi,Ag,br]
   (repeat' (first|with_reducible refine Ok.br (fun _=>?_) (fun _=>?_)|with_reducible refine Ok.pure ?_|with_reducible refine Ok.idx ?_ (fun _ _ _=>?_)|(with_reducible apply Ok.bind;(exact R _ _ (DY h (by assumption)).1 hl (by(first|trivial|assumption|contradiction|omega|solve_by_elim|(simp only[Ya,Yh,Yj,Yg,Ym,Yd,Yb]at*;omega)|grind)) c);intro _ _)|(with_reducible apply Ok.bind;(exact R _ _ (DY h (by assumption)).2 hl (by(first|trivial|assumption|contradiction|omega|solve_by_elim|(simp only[Ya,Yh,Yj,Yg,Ym,Yd,Yb]at*;omega)|grind)) (by(first|trivial|assumption|contradiction|omega|solve_by_elim|(simp only[Ya,Yh,Yj,Yg,Ym,Yd,Yb]at*;omega)|grind)));intro _ _)|with_reducible refine Ok.if ?_ ?_))<;>(first|trivial|assumption|contradiction|omega|grind|(simp only[Bd.c,Bd.vl,Yk,Yf,AK]at*;grind))
  have w:∀m:Int,a≤40→ -1≤m→m≤2000→Ok (Sum.elim (fun y:Int=>-1≤y∧y≤2000) No) (An (QO v a (Gk b)) Aj (m,0)):=by
   intro m hl hm f
   refine Ok.loop (fun i:Int×Nat=>i.2≤v.slots.length∧ -1≤i.1∧i.1≤2000) (fun i:Int×Nat=>v.slots.length-i.2) ⟨by omega,by omega,by omega⟩ (Bc (by omega)) fun i hi=>?_
   obtain⟨m,i⟩:=i
   obtain⟨d,e,c⟩:=hi
   dsimp only at d e c
   dsimp only[QO,XW,br,ix,vz,vw,vs,ln,Ak,cs,wa,wi,Ag,br]
   (repeat' (first|with_reducible refine Ok.br (fun _=>?_) (fun _=>?_)|with_reducible refine Ok.pure ?_|with_reducible refine Ok.idx ?_ (fun _ _ _=>?_)|(with_reducible apply Ok.bind;(exact R _ _ (Hu h (by assumption)) hl (by(first|trivial|assumption|contradiction|omega|solve_by_elim|(simp only[Ya,Yh,Yj,Yg,Ym,Yd,Yb]at*;omega)|grind)) c);intro _ _)|with_reducible refine Ok.if ?_ ?_))<;>(first|trivial|assumption|contradiction|omega|grind|(simp only[Bd.c,Bd.vl,Yk,Yf,AK]at*;grind))
  show Ok _ (R9 (Gk b) v a n)
  dsimp only[R9,jV,bn,ZL,XE,Xo,XQ,br,vz,vy,vw,vs,lr,lc,wi,Ag,A2,br]
  (repeat' (first|with_reducible refine Ok.br (fun _=>?_) (fun _=>?_)|with_reducible refine Ok.pure ?_|(with_reducible apply Ok.lb;(exact s);all_goals(intro _ _;try dsimp only))|(with_reducible apply Ok.lb;(exact t _ (by(first|trivial|assumption|contradiction|omega|solve_by_elim|(simp only[Ya,Yh,Yj,Yg,Ym,Yd,Yb]at*;omega)|grind)) (by(first|trivial|assumption|contradiction|omega|solve_by_elim|(simp only[Ya,Yh,Yj,Yg,Ym,Yd,Yb]at*;omega)|grind)) (by(first|trivial|assumption|contradiction|omega|solve_by_elim|(simp only[Ya,Yh,Yj,Yg,Ym,Yd,Yb]at*;omega)|grind)));all_goals(intro _ _;try dsimp only))|(with_reducible apply Ok.lb;(exact u _ (by(first|trivial|assumption|contradiction|omega|solve_by_elim|(simp only[Ya,Yh,Yj,Yg,Ym,Yd,Yb]at*;omega)|grind)) (by(first|trivial|assumption|contradiction|omega|solve_by_elim|(simp only[Ya,Yh,Yj,Yg,Ym,Yd,Yb]at*;omega)|grind)) (by(first|trivial|assumption|contradiction|omega|solve_by_elim|(simp only[Ya,Yh,Yj,Yg,Ym,Yd,Yb]at*;omega)|grind)));all_goals(intro _ _;try dsimp only))|(with_reducible apply Ok.lb;(exact w _ (by(first|trivial|assumption|contradiction|omega|solve_by_elim|(simp only[Ya,Yh,Yj,Yg,Ym,Yd,Yb]at*;omega)|grind)) (by(first|trivial|assumption|contradiction|omega|solve_by_elim|(simp only[Ya,Yh,Yj,Yg,Ym,Yd,Yb]at*;omega)|grind)) (by(first|trivial|assumption|contradiction|omega|solve_by_elim|(simp only[Ya,Yh,Yj,Yg,Ym,Yd,Yb]at*;omega)|grind)));all_goals(intro _ _;try dsimp only))|with_reducible refine Ok.if ?_ ?_))<;>(first|trivial|assumption|contradiction|omega|grind|(simp only[Bd.c,Bd.vl,Yk,Yf,AK]at*;grind))
theorem o6(v:Val)(h:AS v):Ok Tr (ez v 2000):=by
 dsimp only[ez,cY,vw,lr,cl]
 (repeat' (first|with_reducible refine Ok.br (fun _=>?_) (fun _=>?_)|with_reducible refine Ok.pure ?_|(with_reducible apply Ok.bind;(exact o17 Aj _ _ _ h (by omega) (by unfold Aj;omega) (by omega) (by omega) (by omega));intro _ _)|with_reducible refine Ok.if ?_ ?_))<;>(first|trivial|assumption|contradiction|omega|grind|(simp only[Bd.c,Bd.vl,Yk,Yf,AK]at*;grind))
theorem aw:Zdi=some true:=by kernel_rfl
def BP(F:List Fld)(k:Int):Fld×Bool:=Ct F zF fun f=>decide (f.num=k)
def AR(F:List Fld)(k:Int):Fld:=(BP F k).1
def A8(s:Scm)(n:ByteArray):List Fld:=(Ct s.messages zM fun m=>decide (m.name=n)).1.fields
theorem oL(s:Scm)(n:ByteArray)(h:s.messages.length≤1048576):Oa s n=some (Ct s.messages zM fun m=>decide (m.name=n)):=by
 dsimp only[Oa,aP,vw,lr,cs]
 rw[m84 _ _ h]
 rfl
theorem n31(s:Scm)(n:ByteArray)(h:s.messages.length≤1048576):Td s n=some (.mk (Ct s.messages zM fun m=>decide (m.name=n)).1 s,(Ct s.messages zM fun m=>decide (m.name=n)).2):=by
 dsimp only[Td,Xw,vw,lr,cl]
 rw[oL _ _ h]
 rfl
theorem n74(l:List Fld)(k:Int)(h:l.length≤1048576):Te l (fun z=>Lx z k)=some (BP l k):=by
 have d:=DW (B:=Pv l fun z=>Lx z k) (N:=Aj) l (fun f=>decide (f.num=k)) (fun i=>(l.getD i default,true)) () (fun i x a=>by
  have b:=Bz a
  have g:=(Yi.1 a).1
  have c:i+1<9223372036854775808:=by omega
  have e:Lx x k=some (decide (x.num=k)):=rfl
  dsimp only[Pv,Rj,br,ix,vw,vs,Ap,ln,Ak,cf,wa,br]
  simp only[b,c,a,e,Yv,Yy,Yc,YE,YN]
  cases decide (x.num=k)<;>simp) (by simp[Pv,Rj,br,ix,vw,vs,Ap,ln,Ak,cf,wa,br]) (AY (by omega))
 dsimp only[Te,Zy,bA,ay,vz,vw,lr,lc,Ag]
 unfold BP
 rw[d,LS]
 cases l.findIdx? fun m=>decide (m.num=k)<;>rfl
theorem Wz(m:Msg)(k:Int)(h:m.fields.length≤1048576):fF m k=some (BP m.fields k):=by
 dsimp only[fF,bv,vw,lr,cs]
 rw[n74 _ _ h]
 rfl
theorem P2(m:Msg)(k:Int)(h:m.fields.length≤1048576):eC m k=some (BP m.fields k):=by
 have d:=DW (B:=PX m k) (N:=Aj) m.fields (fun f=>decide (f.num=k)) (fun i=>(m.fields.getD i default,true)) () (fun i x a=>by
  have b:=Bz a
  have e:=(Yi.1 a).1
  have c:i+1<9223372036854775808:=by omega
  dsimp only[PX,Wi,br,ix,vz,vw,vs,Ap,ln,Ak,wa,Ag,br]
  simp only[b,c,a,Yv,Yy,Yc,YE,YN]
  cases decide (x.num=k)<;>simp) (by simp[PX,Wi,br,ix,vz,vw,vs,Ap,ln,Ak,wa,Ag,br]) (AY (by omega))
 dsimp only[eC,bL,XS,bt,vw,lr,lc]
 unfold BP
 rw[d,LS]
 cases m.fields.findIdx? fun f=>decide (f.num=k)<;>rfl
def Dr{α:Type}(l:List α)(p:α→Bool):Int:=match l.findIdx? p with
 |some i=>(i:Int)
 |none=>-1
theorem ZIm{α:Type}(l:List α)(p:α→Bool):decide (0≤Dr l p)=l.any p:=by
 unfold Dr
 rw[←Kr]
 cases l.findIdx? p with
 |none=>rfl
 |some i=>simp
theorem n70(l:List Slt)(f:Slt→Option Bool)(p:Slt→Bool)(e:∀x∈l,f x=some (p x))(h:l.length<4611686018427387904):Lr l f=some (Dr l p):=by
 have g:=DW (B:=PG l f) (N:=Aj) l p (fun i=>(i:Int)) () (fun i x a=>by
  have b:=Bz a
  have j:=(Yi.1 a).1
  have c:i+1<9223372036854775808:=by omega
  have d:=e x (Yu a)
  dsimp only[PG,QY,br,ix,vs,Ap,ln,Ak,cf,wa,br]
  simp only[b,c,d,a,Yv,Yy,Yc]
  cases p x<;>simp) (by simp[PG,QY,br,ix,vs,Ap,ln,Ak,cf,wa,br]) (AY h)
 dsimp only[Lr,bE,ZD,XB,vz,lr,lc,Ag]
 rw[g]
 unfold Dr
 cases l.findIdx? p<;>rfl
def Dc(l:List Slt)(k:Int):Bool:=l.any fun x=>decide (x.num=k)
def FE(l:List Slt)(x:Slt):List Slt:=match l.findIdx? fun y=>decide (x.num<y.num)with
 |some i=>l.take i++[x]++l.drop i
 |none=>l++[x]
theorem Zy6(l:List Slt)(x:Slt):(FE l x).length=l.length+1:=by
 unfold FE
 split
 ·simp only[Yx,YC,Y5,CV,Ej]
  omega
 ·simp
theorem n57(l:List Slt)(h:l.length<549755813888):JY l=some l:=by
 cases l with
 |nil=>rfl
 |cons x r=>
  dsimp only[JY,aE,al,br,vw,lr,a0,mv,br]
  simp only[CV]at h
  simp
  omega
theorem n34(l:List Slt)(x:Slt)(h:l.length≤4194304):ff l x=some (FE l x):=by
 have e:=n70 l (fun z=>Tw z x) (fun y=>decide (x.num<y.num)) (fun y _=>rfl) (by omega)
 have b:=n57 l (by omega)
 have c:∀i:Nat,i≤l.length→Lw l (i:Int) [x]=some (l.take i++[x]++l.drop i):=fun i hi=>by
  unfold Lw
  rw[Yq ⟨by omega,by omega,by omega,rfl⟩,C9]
 have d:∀i:Nat,i≤l.length→(l.take i++[x]++l.drop i).length<549755813888:=fun i hi=>by
  simp only[Yx,YC,Y5,CV,Ej]
  omega
 dsimp only[ff,Xv,Uh,bb,J9,br,vz,vw,v2,lr,lc,cs,tw,ch,fl,fr,Ag,br]
 rw[e]
 unfold Dr FE
 simp only[Yc,b]
 cases hi:l.findIdx? fun y=>decide (x.num<y.num)with
 |none=>
  have g:=d l.length (Yp _)
  have a:=c l.length (Yp _)
  simp only[Kx,Qz,Nh]at g a
  simp[a,b]
  try simpa using g
 |some i=>
  have j:=(Ja.1 hi).1
  have g:=d i (by omega)
  have a:=c i (by omega)
  have f:¬(i:Int)<0:=by omega
  simp only[f,a,b,YH,Yt,YJ,Yc]
  try rw[Yq g]
theorem n38(l:List Slt)(x:Slt)(h:l.length≤4194304):eo l x=some (FE l x):=by
 have N:Ok (Sum.elim (fun v:Bool×List Slt=>v.2.length≤l.length+1∧(v.1=true→v.2=FE l x)∧(v.1=false→v.2=l∧FE l x=l++[x])) No) (An (Q1 l x) Aj (([]:List Slt),false,0)):=by
  refine Ok.loop (fun v:List Slt×Bool×Nat=>v.2.2≤l.length∧(v.2.1=false→v.1=l.take v.2.2∧∀y∈l.take v.2.2,¬x.num<y.num)∧(v.2.1=true→∃j,l.findIdx? (fun y=>decide (x.num<y.num))=some j∧j<v.2.2∧v.1=l.take j++[x]++(l.take v.2.2).drop j)) (fun v:List Slt×Bool×Nat=>l.length-v.2.2) ⟨DU _,fun _=>⟨rfl,by simp⟩,fun h=>by cases h⟩ (AY (by show l.length-0<_;omega)) fun v L=>?_
  obtain⟨r,b,i⟩:=v
  obtain⟨J,d,f⟩:=L
  dsimp only at J d f
  have C:r.length≤i+1:=by
   cases b with
   |false=>rw[(d rfl).1,YC];omega
   |true=>
    obtain⟨j,a,c,k⟩:=f rfl
    rw[k]
    simp only[Yx,YC,Y5,CV,Ej]
    omega
  have o:r.length<549755813887:=by omega
  have p:r.length+1<549755813888:=by omega
  have u:r.length+1<549755813887:=by omega
  have M:r.length+1+1<549755813888:=by omega
  dsimp only[Q1,Zw,br,ix,A4,vz,vw,vs,v2,ln,Ak,ap,wa,fl,Ag,br]
  cases t:l[i]? with
  |none=>
   have K:=List.getElem?_eq_none_iff.1 t
   have hi:i=l.length:=by omega
   subst hi
   rw[Kx]at d f
   have g:¬((l.length:Int)<(l.length:Int)):=by omega
   simp only[g,YH,Yt,YJ]
   refine Ok.pure ⟨by show r.length≤_;omega,fun s=>?_,fun s=>?_⟩
   ·obtain⟨j,a,c,k⟩:=f s
    show r=_
    unfold FE
    rw[a,k]
   ·obtain⟨a,c⟩:=d s
    refine⟨a,?_⟩
    unfold FE
    rw[M3.2 fun y hy=>by simpa using c y hy]
  |some e=>
   obtain⟨hi,he⟩:=Yi.1 t
   have A:(i:Int)<(l.length:Int):=by omega
   have B:i+1<9223372036854775808:=by omega
   have I:(0:Int)≤(i:Int):=by omega
   have m:l.take (i+1)=l.take i++[e]:=by rw[Y6 hi,he]
   have H:l.getD (i:Int).toNat Rw.z=e:=by rw[C9,YE,t];rfl
   cases b with
   |true=>
    obtain⟨j,a,c,k⟩:=f rfl
    simp only[A,B,Yv,Yy,YI,CE,Yt,YJ,Kz,Yc,Yx,CV,Ej,o,p]
    refine Ok.pure ⟨⟨by show i+1≤_;omega,(fun h=>by cases h),fun _=>⟨j,a,by show j<i+1;omega,?_⟩⟩,by show l.length-(i+1)<l.length-i;omega⟩
    show r++[e]=_
    rw[k,m,Qr (by rw[YC];omega),Ei]
   |false=>
    obtain⟨a,c⟩:=d rfl
    simp only[A,B,I,Cm,H,Yv,Yy,YT,Y9,Ce,Yc,Yx,CV,Ej,o,p,u,M]
    by_cases n:x.num<e.num
    ·simp only[n,Yv,Yy]
     refine Ok.pure ⟨⟨by show i+1≤_;omega,(fun h=>by cases h),fun _=>⟨i,?_,by show i<i+1;omega,?_⟩⟩,by show l.length-(i+1)<l.length-i;omega⟩
     ·rw[Ja]
      refine⟨hi,by rw[he];simpa using n,fun j O=>?_⟩
      have:=c l[j] (QD.2 ⟨j,by omega,rfl⟩)
      simpa using this
     ·show r++[x]++[e]=_
      rw[a,m,Qr (by rw[YC];omega),List.drop_take_self]
      simp
    ·simp only[n,YH,Yt,YJ]
     refine Ok.pure ⟨⟨by show i+1≤_;omega,fun _=>⟨?_,fun y hy=>?_⟩,(fun h=>by cases h)⟩,by show l.length-(i+1)<l.length-i;omega⟩
     ·show r++[e]=_
      rw[m,a]
     ·have hy:y∈l.take (i+1):=hy
      rw[m]at hy
      rcases Gf.1 hy with q|q
      ·exact c y q
      ·rw[Kw.1 q];exact n
 obtain⟨y,e,D⟩:=N
 dsimp only[eo,aH,Xr,XM,Xk,br,vz,vw,lr,lc,ap,fl,fr,br]
 rw[e]
 cases y with
 |inr _=>exact D.elim
 |inl b=>
  obtain⟨b,r⟩:=b
  obtain⟨E,w,z⟩:=D
  dsimp only at E w z
  have o:r.length<549755813887:=by omega
  have p:r.length+1<549755813888:=by omega
  have u:r.length<549755813888:=by omega
  cases b with
  |true=>
   have e:=w rfl
   simp[u]
   exact e
  |false=>
   obtain⟨F,G⟩:=z rfl
   simp[o,p,Yx]
   rw[G,F]
theorem ye{v:Val}{x:Raw}(h:AS v)(b:x∈v.raws):x.data.size≤1048576:=by
 have a:=CJ (e:=Au) b
 unfold AS at h
 conv at h=>unfold Ai
 simp only[Ay,bk,Au]at h a
 omega
theorem T4{F:List Fld}{k:Int}(h:(BP F k).2=true):(AR F k).num=k:=by
 unfold AR BP Ct at*
 cases e:F.find? fun f=>decide (f.num=k)with
 |none=>rw[e]at h;cases h
 |some f=>exact Fg (p:=f.num=k) (List.find?_some (p:=fun f:Fld=>decide (f.num=k)) e)
abbrev Wb:=Scm→Fld→Val→Int→Bool→Option Int
end Go.Proofs.YtleccgigifnfgaaGreat
