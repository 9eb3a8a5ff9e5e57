import Derived.Test.YtalafnjhcecdpaaGreatDoorZb20
import Derived.Test.YtalafnjhcecdpaaGreatDoorZb00
namespace Go.Proofs.YtalafnjhcecdpaaGreatDoor
set_option linter.all false
open Go Go.Eng
theorem bV(x:ByteArray):x.data.toList.length=x.size:=by rw[F0];rfl
theorem BX{n:Nat}(h:n≤2097152):n<Ag:=by unfold Ag;omega
theorem zl(x:ByteArray)(h:x.size≤1048576):Ok Tr (Zu x):=by
 have q:Ok Ts (Ah (Um x) Ag 0):=by
  refine Bz (fun v:Int=>0≤v∧v≤x.size+4) (fun v:Int=>(x.size+4-v).toNat) ⟨by omega,by omega⟩ (BX (by omega)) fun v a=>?_
  dsimp only[Um,br,vz,vs,Ar,ln,Af,cl,wi,A5,br]
  (repeat' (first|with_reducible (first|refine AH (fun _=>?_) fun _=>?_|refine AB ?_)|(with_reducible apply AF;(exact zj _ _ a.1 Ch h);intro _ _)|with_reducible refine AI ?_ ?_))<;>exact AX
 dsimp only[Zu,lr,lc]
 (repeat' (first|with_reducible (first|refine AH (fun _=>?_) fun _=>?_|refine AB ?_)|(with_reducible apply BK;(exact q);all_goals(intro _ _;try dsimp only))|with_reducible refine AI ?_ ?_))<;>exact Ch
theorem eF(x:ByteArray)(h:x.size≤1048576):Ok Tr (Sm x):=by
 dsimp only[Sm,lr,cl]
 (repeat' (first|with_reducible (first|refine AH (fun _=>?_) fun _=>?_|refine AB ?_)|(with_reducible apply AF;(exact zl _ h);intro _ _)|with_reducible refine AI ?_ ?_))<;>exact Ch
theorem Rr(x:ByteArray)(h:x.size≤1048576):Ok Tr (Zn x):=by
 have hl:=bV x
 have q:Ok Ts (Ah (Ub x) Ag 1):=by
  refine Bz (fun v:Nat=>v≤1048577) (fun v:Nat=>1048577-v) (by omega) (BX (by omega)) fun v a=>?_
  dsimp only[Ub,br,vz,vs,Ar,ln,Af,cl,AD,wa,A5,br,ib,GF]
  (repeat' (first|with_reducible (first|refine AH (fun _=>?_) fun _=>?_|refine AB ?_|refine BS ?_ fun _ _ _=>?_)|(with_reducible apply AF;(exact Rv _);intro _ _)|(with_reducible apply AF;(exact RM _);intro _ _)|(with_reducible apply Bp;(exact fun _=>Rv _);intro _)|(with_reducible apply Bp;(exact fun _=>RM _);intro _)|with_reducible refine AI ?_ ?_))<;>exact AX
 dsimp only[Zn,br,vz,vy,lr,lc,AD,A5,br,GF]
 (repeat' (first|with_reducible (first|refine AH (fun _=>?_) fun _=>?_|refine AB ?_)|(with_reducible apply BK;(exact q);all_goals(intro _ _;try dsimp only))|(with_reducible apply AF;(exact Rv _);intro _ _)|(with_reducible apply AF;(exact RM _);intro _ _)|(with_reducible apply Bp;(exact fun _=>Rv _);intro _)|(with_reducible apply Bp;(exact fun _=>RM _);intro _)|with_reducible refine AI ?_ ?_))<;>exact Ch
theorem yR(x:ByteArray)(h:x.size≤1048576):Ok Tr (Zj x):=by
 have hl:=bV x
 have q:Ok (Sum.elim (fun b:ByteArray=>b.size≤1048576) Tr) (Ah (T9 x) Ag (⟨#[]⟩,0)):=by
  refine Bz (fun v:ByteArray×Nat=>v.1.size≤v.2∧v.2≤x.size) (fun v:ByteArray×Nat=>x.size-v.2) ⟨by rw[sT];omega,by omega⟩ (BX (by omega)) fun v a=>?_
  obtain⟨v,i⟩:=v
  obtain⟨a,hi⟩:=a
  dsimp only at a hi
  dsimp only[T9,br,vz,vs,v2,Ar,ln,Af,ad,cl,wa,ss,A5,br,ib]
  (repeat' (first|with_reducible (first|refine AH (fun _=>?_) fun _=>?_|refine AB ?_|refine BS ?_ fun _ _ _=>?_)|(with_reducible apply AF;(exact Rr _ (by omega));intro _ _)|with_reducible (first|refine jH ?_ ?_|refine AI ?_ ?_)))<;>exact AX
 dsimp only[Zj,br,vz,lr,lc,cl,A5,br]
 (repeat' (first|with_reducible (first|refine AH (fun _=>?_) fun _=>?_|refine AB ?_)|(with_reducible apply BK;(exact q);all_goals(intro _ _;try dsimp only))|(with_reducible apply AF;(exact Rr _ (by assumption));intro _ _)|with_reducible refine AI ?_ ?_))<;>exact Ch
set_option maxRecDepth 20000 in
theorem yF(x:ByteArray)(h:x.size≤1048576):Ok (fun y=>y.1.size≤1048576∧y.2.size≤1048576) (X8 x):=by
 have hl:=bV x
 have q:Ok (Sum.elim Tr (fun y:ByteArray×ByteArray=>y.1.size≤1048576∧y.2.size≤1048576)) (Ah (TR x) Ag ((x.size:Int)-1)):=by
  refine Bz (fun v:Int=>-1≤v∧v<x.size) (fun v:Int=>(v+1).toNat) ⟨by omega,by omega⟩ (BX (by omega)) fun v hv=>?_
  dsimp only[TR,br,vs,Ar,ln,Af,wi,ss,br,Vh]
  (repeat' (first|with_reducible (first|refine AH (fun _=>?_) fun _=>?_|refine AB ?_|refine BS ?_ fun _ _ _=>?_|refine jH ?_ ?_|refine AI ?_ ?_)))<;>exact AX
 dsimp only[X8,vz,vs,lr,lc,wi,A5]
 (repeat' (first|with_reducible (first|refine AH (fun _=>?_) fun _=>?_|refine AB ?_)|(with_reducible apply BK;(exact q);all_goals(intro _ _;try dsimp only))|with_reducible refine AI ?_ ?_))<;>exact AX
set_option maxRecDepth 20000 in
theorem eD(x:ByteArray)(h:x.size≤1048576):Ok Tr (Zm x):=by
 have q:Ok Ts (Ah T4 Ag (x,0)):=by
  refine Bz (fun v:ByteArray×Nat=>v.1.size≤1048576∧v.2≤120) (fun v:ByteArray×Nat=>120-v.2) ⟨h,by omega⟩ (BX (by omega)) fun v hv=>?_
  obtain⟨v,i⟩:=v
  obtain⟨hv,hi⟩:=hv
  dsimp only at hv hi
  dsimp only[T4,br,vs,v2,Ar,ln,Af,cl,wa,br]
  (repeat' (first|with_reducible (first|refine AH (fun _=>?_) fun _=>?_|refine AB ?_)|(with_reducible apply AF;(exact yF _ hv);intro _ _)|(with_reducible apply AF;(exact Xo _);intro _ _)|with_reducible refine AI ?_ ?_))<;>exact AX
 dsimp only[Zm,br,lr,lc,cl,br]
 (repeat' (first|with_reducible (first|refine AH (fun _=>?_) fun _=>?_|refine AB ?_)|(with_reducible apply BK;(exact q);all_goals(intro _ _;try dsimp only))|(with_reducible apply AF;(exact yR _ h);intro _ _)|with_reducible refine AI ?_ ?_))<;>exact AX
set_option maxRecDepth 20000 in
theorem Ll(x:ByteArray)(h:x.size≤1048576):Ok Tr (Zp x):=by
 dsimp only[Zp,lr,cl,AD]
 (repeat' (first|with_reducible (first|refine AH (fun _=>?_) fun _=>?_|refine AB ?_)|(with_reducible apply AF;(exact Rr _ h);intro _ _)|(with_reducible apply AF;(exact Xo _);intro _ _)|(with_reducible apply Bp;(exact fun _=>Rr _ h);intro _)|(with_reducible apply Bp;(exact fun _=>Xo _);intro _)|with_reducible refine AI ?_ ?_))<;>exact AX
theorem sI(l:List ByteArray)(x:ByteArray)(h:l.length≤1048576):Ok Tr (OL l x):=by
 have q:Ok Ts (Ah (MX l x) Ag 0):=by
  refine Bz (fun v:Nat=>v≤l.length) (fun v:Nat=>l.length-v) (by omega) (BX (by omega)) fun v a=>?_
  dsimp only[MX,br,ix,vz,vs,Ar,ln,Af,wa,Aj,br]
  (repeat' (first|with_reducible (first|refine AH (fun _=>?_) fun _=>?_|refine AB ?_|refine BS ?_ fun _ _ _=>?_|refine AI ?_ ?_)))<;>exact AX
 dsimp only[OL,lr,lc]
 (repeat' (first|with_reducible (first|refine AH (fun _=>?_) fun _=>?_|refine AB ?_)|(with_reducible apply BK;(exact q);all_goals(intro _ _;try dsimp only))|with_reducible refine AI ?_ ?_))<;>exact AX
theorem eE(l:List Spn)(x:Int)(h:l.length≤1048576):Ok Tr (Ze l x):=by
 have q:Ok Ts (Ah (T5 l x) Ag 0):=by
  refine Bz (fun v:Nat=>v≤l.length) (fun v:Nat=>l.length-v) (by omega) (BX (by omega)) fun v a=>?_
  dsimp only[T5,br,ix,Bs,vz,vs,Ar,ln,Af,wa,Aj,br]
  (repeat' (first|with_reducible (first|refine AH (fun _=>?_) fun _=>?_|refine AB ?_|refine BS ?_ fun _ _ _=>?_|refine Ga ?_ fun _=>?_|refine AI ?_ ?_)))<;>exact AX
 dsimp only[Ze,lr,lc]
 (repeat' (first|with_reducible (first|refine AH (fun _=>?_) fun _=>?_|refine AB ?_)|(with_reducible apply BK;(exact q);all_goals(intro _ _;try dsimp only))|with_reducible refine AI ?_ ?_))<;>exact AX
theorem Qp(s:Scm)(x:ByteArray)(h:SzS s):Ok (fun y:Int=>y<s.messages.length∧(0≤y→∃m∈s.messages,m.name=x)) (Zq s x):=by
 have hm:=h.ml
 have q:Ok (Sum.elim Tr fun y:Int=>y<s.messages.length∧(0≤y→∃m∈s.messages,m.name=x)) (Ah (TM s x) Ag 0):=by
  refine Bz (fun v:Nat=>v≤s.messages.length) (fun v:Nat=>s.messages.length-v) (by omega) (BX (by omega)) fun v a=>?_
  dsimp only[TM,br,ix,vz,wg,vs,Ar,ln,Af,wa,Aj,br]
  (repeat' (first|with_reducible (first|refine AH (fun _=>?_) fun _=>?_|refine AB ?_|refine BS ?_ fun _ _ _=>?_|refine AI ?_ ?_)))<;>first|exact⟨by omega,fun _=>⟨_,by assumption,YX (by assumption)⟩⟩|exact AX
 dsimp only[Zq,lr,lc]
 (repeat' (first|with_reducible (first|refine AH (fun _=>?_) fun _=>?_|refine AB ?_)|(with_reducible apply BK;(exact q);all_goals(intro _ _;try dsimp only))|with_reducible refine AI ?_ ?_))<;>first|exact⟨by omega,fun h=>absurd h (by decide)⟩|exact AX
theorem Xt(s:Scm)(x:ByteArray)(h:SzS s):Ok (fun y:Int=>y<s.enums.length∧(0≤y→∃m∈s.enums,m.name=x)) (Zi s x):=by
 have hm:=h.el
 have q:Ok (Sum.elim Tr fun y:Int=>y<s.enums.length∧(0≤y→∃m∈s.enums,m.name=x)) (Ah (TJ s x) Ag 0):=by
  refine Bz (fun v:Nat=>v≤s.enums.length) (fun v:Nat=>s.enums.length-v) (by omega) (BX (by omega)) fun v a=>?_
  dsimp only[TJ,br,ix,vz,wg,vs,Ar,ln,Af,wa,Aj,br]
  (repeat' (first|with_reducible (first|refine AH (fun _=>?_) fun _=>?_|refine AB ?_|refine BS ?_ fun _ _ _=>?_|refine AI ?_ ?_)))<;>first|exact⟨by omega,fun _=>⟨_,by assumption,YX (by assumption)⟩⟩|exact AX
 dsimp only[Zi,lr,lc]
 (repeat' (first|with_reducible (first|refine AH (fun _=>?_) fun _=>?_|refine AB ?_)|(with_reducible apply BK;(exact q);all_goals(intro _ _;try dsimp only))|with_reducible refine AI ?_ ?_))<;>first|exact⟨by omega,fun h=>absurd h (by decide)⟩|exact AX
theorem Sg(v w:Val)(h:SzV v)(k:SzV w):Ok Tr (Zr v w):=by
 obtain⟨_,_,_,_,_⟩:=h
 obtain⟨_,_,_,_,_⟩:=k
 dsimp only[Zr,vy,wg,vg,lr,wa,Aj]
 (repeat' (first|with_reducible (first|refine AH (fun _=>?_) fun _=>?_|refine AB ?_|refine AI ?_ ?_)))<;>exact AX
def fp(v:Val):Prop:=v.list=[]∧v.pairs=[]∧v.slots=[]∧v.raws=[]∧(v.kind=7∨v.kind=8→v.bits=0)∧(¬(v.kind=7∨v.kind=8)→v.text=⟨#[]⟩)
def NK(n:Int)(v:Val):Prop:=1≤n∧n≤9∧v.kind=n∧fp v
theorem xb{n:Int}{v:Val}(h:SzV v)(e:Ml n v=some true):NK n v:=by
 obtain⟨p,q,r,s,t⟩:=h
 have k:v.list.length<4611686018427387904:=by omega
 have l:v.pairs.length<4611686018427387904:=by omega
 have m:v.slots.length<4611686018427387904:=by omega
 have o:v.raws.length<4611686018427387904:=by omega
 have hi:Sk n=some (decide (1≤n)&&decide (n≤9)):=rfl
 dsimp only[Ml,br,vz,vy,wg,lr,cl,AD,A5,br,ZL,vz,vy,wg,lr,Aj,Sn,lr]at e
 rw[hi]at e
 unfold NK fp
 simp only[Yd]at e
 generalize Sm v.text=w at e
 simp[k,l,m,o]at e
 split at e
 ·cases e
 ·rename_i c
  simp only[not_or,Decidable.not_not,Classical.not_imp,Int.not_lt]at c
  obtain⟨⟨⟨d,f⟩,b⟩,⟨⟨g,i⟩,j⟩,c6⟩:=c
  refine⟨d,f,b,g,i,j,c6,fun a=>?_,fun a=>?_⟩
  ·rw[b]at a
   simp only[a,Yy]at e
   split at e<;>simp_all
  ·rw[b]at a
   simp only[a,YI]at e
   split at e<;>simp_all
theorem Ry(n:Int)(v:Val)(h:SzV v):Ok (fun b=>b=true→NK n v) (Ml n v):=by
 have a:=h.t
 have q:Ok Tr (Ml n v):=by
  have c:Ok Tr (Sk n):=⟨_,rfl,trivial⟩
  dsimp only[Ml,br,vz,vy,wg,lr,cl,AD,A5,br]
  (repeat' (first|with_reducible (first|refine AH (fun _=>?_) fun _=>?_|refine AB ?_)|(with_reducible apply AF;(exact c);intro _ _)|(with_reducible apply AF;(exact lP _);intro _ _)|(with_reducible apply AF;(exact lW _);intro _ _)|(with_reducible apply AF;(exact eF _ a);intro _ _)|(with_reducible apply Bp;(exact fun _=>c);intro _)|(with_reducible apply Bp;(exact fun _=>lP _);intro _)|(with_reducible apply Bp;(exact fun _=>lW _);intro _)|(with_reducible apply Bp;(exact fun _=>eF _ a);intro _)|with_reducible refine AI ?_ ?_))<;>exact AX
 obtain⟨b,e,_⟩:=q
 exact⟨b,e,fun d=>xb h (d▸e)⟩
theorem lT(v:Val)(h:SzV v):Ok SzV (ZK v):=by
 dsimp only[ZK,br,wg,lr,AD,br]
 (repeat' (first|with_reducible (first|refine AH (fun _=>?_) fun _=>?_|refine AB ?_)|(with_reducible apply AF;(exact mc _);intro _ _)|(with_reducible apply Bp;(exact fun _=>mc _);intro _)|with_reducible refine AI ?_ ?_))<;>first|exact h|exact⟨h.t,h.l,h.p,h.s,h.r⟩
theorem yV(x:Nt)(h:SzN x):Ok Tr (Zd x):=by
 dsimp only[Zd,wg,lr,cl,AD]
 (repeat' (first|with_reducible (first|refine AH (fun _=>?_) fun _=>?_|refine AB ?_)|(with_reducible apply AF;(exact Xg _);intro _ _)|(with_reducible apply AF;(exact Ry _ _ h.v);intro _ _)|(with_reducible apply Bp;(exact fun _=>Xg _);intro _)|(with_reducible apply Bp;(exact fun _=>Ry _ _ h.v);intro _)|with_reducible refine AI ?_ ?_))<;>exact AX
theorem zq(l:List Nt)(n:Int)(h:Il l):Ok Tr (Zb l n):=by
 obtain⟨b,a⟩:=h
 have q:Ok Ts (Ah (Un l n) Ag 0):=by
  refine Bz (fun v:Nat=>v≤l.length) (fun v:Nat=>l.length-v) (by omega) (BX (by omega)) fun v c=>?_
  dsimp only[Un,br,ix,Bs,vz,vs,vg,Ar,ln,Af,cl,wa,wi,Aj,br]
  (repeat' (first|with_reducible (first|refine AH (fun _=>?_) fun _=>?_|refine AB ?_|refine BS ?_ fun _ _ _=>?_)|(with_reducible apply AF;(exact Xg _);intro _ _)|(with_reducible apply AF;(exact zn _ _);intro _ _)|(with_reducible apply AF;(exact yV _ (a _ (by assumption)));intro _ _)|with_reducible (first|refine Ga ?_ fun _=>?_|refine AI ?_ ?_)))<;>exact AX
 dsimp only[Zb,br,vz,lr,lc,Aj,br]
 (repeat' (first|with_reducible (first|refine AH (fun _=>?_) fun _=>?_|refine AB ?_)|(with_reducible apply BK;(exact q);all_goals(intro _ _;try dsimp only))|with_reducible refine AI ?_ ?_))<;>exact AX
end Go.Proofs.YtalafnjhcecdpaaGreatDoor
namespace Go.Proofs.YtalafnjhcecdpaaGreatDoor
set_option linter.all false
open Go Go.Eng
theorem Ee(d:ByteArray)(l:List Prb)(b:Bool)(n e:Int)(h:l.length<549755813887):Ok (fun y=>l.length≤y.length∧y.length≤l.length+1∧(b=true→l.length+1≤y.length)) (Bv d l b n e):=by
 dsimp only[Bv,WB,WE,vz,vw,wg,lr,lc,ap,B8,fl]
 (repeat' (first|with_reducible (first|refine AH (fun _=>?_) fun _=>?_|refine AB ?_|refine AI ?_ ?_)))<;>first|exact AX|simp_all
theorem JI(d:ByteArray)(l:List Prb)(x:List Nt)(t n:Int)(h:l.length<549755813887)(hx:Il x):Ok (fun y=>l.length≤y.length∧y.length≤l.length+1) (HC d l x t n):=by
 dsimp only[HC,cP,vz,lr,lc,cl,fl]
 (repeat' (first|with_reducible (first|refine AH (fun _=>?_) fun _=>?_|refine AB ?_)|(with_reducible apply AF;(exact zq _ _ hx);intro _ _)|(with_reducible apply AF;(exact Ee _ _ _ _ _ h);intro _ _)|with_reducible refine AI ?_ ?_))<;>exact AX
theorem sO(d:ByteArray)(l:List Prb)(x:List Spn)(t n:Int)(h:l.length<500000000000)(hx:x.length≤1048576):Ok (fun y=>l.length≤y.length∧y.length≤l.length+2*x.length) (OM d l x t n):=by
 have q:Ok (Sum.elim (fun y:List Prb=>l.length≤y.length∧y.length≤l.length+2*x.length) No) (Ah (TH d x t n) Ag (0,l)):=by
  refine Bz (fun v:Nat×List Prb=>v.1≤x.length∧l.length≤v.2.length∧v.2.length≤l.length+2*v.1) (fun v:Nat×List Prb=>x.length-v.1) ⟨by omega,by simp,by simp⟩ (BX (by omega)) fun v e=>?_
  obtain⟨i,r⟩:=v
  obtain⟨a,b,c⟩:=e
  dsimp only at a b c
  dsimp only[TH,dK,dH,br,ix,Bs,vz,vs,vg,ln,Af,lc,wa,wi,fl,Aj,br]
  (repeat' (first|with_reducible (first|refine AH (fun _=>?_) fun _=>?_|refine AB ?_|refine BS ?_ fun _ _ _=>?_)|(with_reducible apply AF;(exact Ee _ _ _ _ _ (by omega));intro _ _)|with_reducible (first|refine Ga ?_ fun _=>?_|refine AI ?_ ?_)))<;>exact AX
 dsimp only[OM,dt,vz,lr,lc,fl]
 (repeat' (first|with_reducible (first|refine AH (fun _=>?_) fun _=>?_|refine AB ?_)|(with_reducible apply BK;(exact q);all_goals(intro _ _;try dsimp only))|with_reducible refine AI ?_ ?_))<;>exact AX
theorem eC(s:Scm)(w:Int)(h:SzS s):Ok (fun y=>y.length≤3145728) (ZA s w):=by
 have a:=h.ml
 have b:=h.el
 have j:=h.wl
 have e:Ok (Sum.elim (fun y:List ByteArray=>y.length≤1048576) No) (Ah (UQ s w) Ag ([],0)):=by
  refine Bz (fun v:List ByteArray×Nat=>v.2≤s.messages.length∧v.1.length≤v.2) (fun v:List ByteArray×Nat=>s.messages.length-v.2) ⟨by omega,by simp⟩ (BX (by omega)) fun v c=>?_
  obtain⟨r,i⟩:=v
  obtain⟨a,b⟩:=c
  dsimp only at a b
  dsimp only[UQ,br,ix,vz,vy,vw,wg,vs,v2,ln,Af,ap,wa,fl,Aj,br]
  (repeat' (first|with_reducible (first|refine AH (fun _=>?_) fun _=>?_|refine AB ?_|refine BS ?_ fun _ _ _=>?_|refine AI ?_ ?_)))<;>exact AX
 have f:∀r:List ByteArray,r.length≤1048576→Ok (Sum.elim (fun y:List ByteArray=>y.length≤2097152) No) (Ah (UH s w) Ag (r,0)):=by
  intro r d
  refine Bz (fun v:List ByteArray×Nat=>v.2≤s.enums.length∧v.1.length≤1048576+v.2) (fun v:List ByteArray×Nat=>s.enums.length-v.2) ⟨by omega,by simpa using d⟩ (BX (by omega)) fun v c=>?_
  obtain⟨r,i⟩:=v
  obtain⟨a,b⟩:=c
  dsimp only at a b
  dsimp only[UH,br,ix,vz,vy,vw,wg,vs,ln,Af,ap,wa,fl,Aj,br]
  (repeat' (first|with_reducible (first|refine AH (fun _=>?_) fun _=>?_|refine AB ?_|refine BS ?_ fun _ _ _=>?_|refine AI ?_ ?_)))<;>exact AX
 have g:∀r:List ByteArray,r.length≤2097152→Ok (Sum.elim (fun y:List ByteArray=>y.length≤3145728) No) (Ah (UT s w) Ag (r,0)):=by
  intro r d
  refine Bz (fun v:List ByteArray×Nat=>v.2≤s.services.length∧v.1.length≤2097152+v.2) (fun v:List ByteArray×Nat=>s.services.length-v.2) ⟨by omega,by simpa using d⟩ (BX (by omega)) fun v c=>?_
  obtain⟨r,i⟩:=v
  obtain⟨a,b⟩:=c
  dsimp only at a b
  dsimp only[UT,br,ix,vz,vy,vw,wg,vs,ln,Af,ap,wa,fl,Aj,br]
  (repeat' (first|with_reducible (first|refine AH (fun _=>?_) fun _=>?_|refine AB ?_|refine BS ?_ fun _ _ _=>?_|refine AI ?_ ?_)))<;>exact AX
 dsimp only[ZA,vz,vw,lr,lc,fl,fr]
 (repeat' (first|with_reducible (first|refine AH (fun _=>?_) fun _=>?_|refine AB ?_)|(with_reducible apply BK;(exact e);all_goals(intro _ _;try dsimp only))|(with_reducible apply BK;(exact f _ (by assumption));all_goals(intro _ _;try dsimp only))|(with_reducible apply BK;(exact g _ (by assumption));all_goals(intro _ _;try dsimp only))|with_reducible refine AI ?_ ?_))<;>exact AX
theorem o63(l:List ByteArray)(h:l.length≤3145728):Ok Tr (Zs l):=by
 have q:Ok Ts (Ah (U3 l) Ag 1):=by
  refine Bz (fun v:Nat=>1≤v∧v≤l.length+1) (fun v:Nat=>l.length+1-v) ⟨by omega,by omega⟩ (by unfold Ag;omega) fun v a=>?_
  dsimp only[U3,br,ix,CD,vz,vs,Ar,ln,Af,wa,wi,Aj,br]
  (repeat' (first|with_reducible (first|refine AH (fun _=>?_) fun _=>?_|refine AB ?_|refine BS ?_ fun _ _ _=>?_|refine AI ?_ ?_)))<;>exact AX
 dsimp only[Zs,lr,lc]
 (repeat' (first|with_reducible (first|refine AH (fun _=>?_) fun _=>?_|refine AB ?_)|(with_reducible apply BK;(exact q);all_goals(intro _ _;try dsimp only))|with_reducible refine AI ?_ ?_))<;>exact AX
theorem zx(l:List ByteArray)(x:ByteArray)(h:l.length≤3145728):Ok Tr (OL l x):=by
 have q:Ok Ts (Ah (MX l x) Ag 0):=by
  refine Bz (fun v:Nat=>v≤l.length) (fun v:Nat=>l.length-v) (by omega) (by unfold Ag;omega) fun v a=>?_
  dsimp only[MX,br,ix,vz,vs,Ar,ln,Af,wa,Aj,br]
  (repeat' (first|with_reducible (first|refine AH (fun _=>?_) fun _=>?_|refine AB ?_|refine BS ?_ fun _ _ _=>?_|refine AI ?_ ?_)))<;>exact AX
 dsimp only[OL,lr,lc]
 (repeat' (first|with_reducible (first|refine AH (fun _=>?_) fun _=>?_|refine AB ?_)|(with_reducible apply BK;(exact q);all_goals(intro _ _;try dsimp only))|with_reducible refine AI ?_ ?_))<;>exact AX
theorem sG(l k:List ByteArray)(h:l.length≤3145728)(a:k.length≤3145728):Ok Tr (ZJ l k):=by
 have q:Ok Ts (Ah (UW l k) Ag 0):=by
  refine Bz (fun v:Nat=>v≤l.length) (fun v:Nat=>l.length-v) (by omega) (by unfold Ag;omega) fun v b=>?_
  dsimp only[UW,br,ix,vz,vs,Ar,ln,Af,cl,wa,Aj,br]
  (repeat' (first|with_reducible (first|refine AH (fun _=>?_) fun _=>?_|refine AB ?_|refine BS ?_ fun _ _ _=>?_)|(with_reducible apply AF;(exact zx _ _ a);intro _ _)|with_reducible refine AI ?_ ?_))<;>exact AX
 dsimp only[ZJ,lr,lc]
 (repeat' (first|with_reducible (first|refine AH (fun _=>?_) fun _=>?_|refine AB ?_)|(with_reducible apply BK;(exact q);all_goals(intro _ _;try dsimp only))|with_reducible refine AI ?_ ?_))<;>exact AX
def Lw(s:Scm)(f:Fld):Prop:=(f.type.kind=9→∃m∈s.enums,m.name=f.type.name)∧(f.type.kind=10→(∃m∈s.messages,m.name=f.type.name)∧f.card≠3)∧1≤f.type.kind∧f.type.kind≤10
theorem sK(s:Scm)(f:Fld)(h:SzS s):Ok (fun b=>b=true→Lw s f) (Zv s f):=by
 unfold Lw
 dsimp only[Zv,br,wg,lr,cl,br]
 (repeat' (first|with_reducible (first|refine AH (fun _=>?_) fun _=>?_|refine AB ?_)|(with_reducible apply AF;(exact Xt _ _ h);intro _ _)|(with_reducible apply AF;(exact Qp _ _ h);intro _ _)|with_reducible refine AI ?_ ?_))
 ·intro a
  have d:f.type.kind=9:=YX (by assumption)
  have e:=(show _<_∧(_→∃m∈s.enums,m.name=f.type.name)by assumption).2 (YX a)
  exact⟨fun _=>e,fun k=>by omega,by omega,by omega⟩
 ·intro a
  have c:f.type.kind=10:=YX (by assumption)
  rw[Yc]at a
  have e:=(show _<_∧(_→∃m∈s.messages,m.name=f.type.name)by assumption).2 (YX a.1)
  exact⟨fun k=>by omega,fun _=>⟨e,by simpa using a.2⟩,by omega,by omega⟩
 ·intro a
  simp only[Yc,YB]at a
  exact⟨fun k=>by omega,fun k=>by omega,by omega,by omega⟩
def NM(f:Fld):Prop:=f.union≠⟨#[]⟩→f.card=2
theorem sM(m:Msg)(i:Nat)(h:SzM m)(hi:i<m.fields.length):Ok (fun b=>b=true→∀f,m.fields[i]?=some f→NM f) (Za m i):=by
 have hl:=h.fl
 have q:∀e,Ok (Sum.elim (fun b:Bool=>b=true→0<i) Tr) (Ah (T0 m i e) Ag (false,0)):=by
  intro e
  refine Bz (fun v:Bool×Nat=>v.2≤m.fields.length∧(v.1=true→0<i)) (fun v:Bool×Nat=>m.fields.length-v.2) ⟨by omega,by simp⟩ (BX (by omega)) fun v k=>?_
  obtain⟨b,j⟩:=v
  obtain⟨c,d⟩:=k
  dsimp only at c d
  dsimp only[T0,br,ix,Bs,vz,wg,vs,Ar,ln,Af,wa,Aj,br]
  (repeat' (first|with_reducible (first|refine AH (fun _=>?_) fun _=>?_|refine AB ?_|refine BS ?_ fun _ _ _=>?_|refine Ga ?_ fun _=>?_|refine AI ?_ ?_)))<;>exact AX
 dsimp only[Za,br,CD,Bs,wg,vg,lr,lc,AD,wi,br]
 (repeat' (first|with_reducible (first|refine AH (fun _=>?_) fun _=>?_|refine AB ?_|refine BS ?_ fun _ _ _=>?_)|(with_reducible apply BK;(exact q _);all_goals(intro _ _;try dsimp only))|(with_reducible apply AF;(exact Ll _ ((h.f _ (by assumption)).u));intro _ _)|(with_reducible apply Bp;(exact fun _=>Ll _ ((h.f _ (by assumption)).u));intro _)|with_reducible (first|refine Ga ?_ fun _=>?_|refine AI ?_ ?_)))<;>first|(intro h;cases h;done)|(have he:=‹m.fields[i]?=some _›;intro _ f a;rw[he]at a;cases a;intro g;first|exact absurd (YX (by assumption)) g|(simp only[YG,YU,LH,VP,YB,YS]at*;omega)|grind)|exact AX
def IB(f:Fld):Prop:=f.hasDefault=true→NK f.type.kind f.dflt∧f.card=2∧f.union=⟨#[]⟩
theorem sN(s:Scm)(f:Fld)(h:SzS s)(a:SzF f):Ok (fun b=>b=true→IB f) (X9 s f):=by
 have g:SzV (.mk 0 0 ⟨#[]⟩ [] [] [] []):=by constructor<;>decide
 have he:∀y,y∈s.enums→y.items.length≤1048576:=fun y hy=>(h.e y hy).il
 have q:∀y:Int,0≤y→y<s.enums.length→Ok Ts (Ah (TU s f y) Ag 0):=by
  intro y hy k
  refine Bz (fun v:Nat=>v≤1048576) (fun v:Nat=>1048576-v) (by omega) (BX (by omega)) fun v l=>?_
  dsimp only[TU,br,ix,CD,vz,wg,vs,Ar,ln,Af,wa,Aj,br]
  (repeat' (first|with_reducible (first|refine AH (fun _=>?_) fun _=>?_|refine AB ?_|refine BS ?_ fun _ _ _=>?_|refine AI ?_ ?_)))<;>exact AX
 have key:∀(c d:Bool),((!((!decide (f.card=2))||(!decide (f.union=⟨#[]⟩))))=true→c=true→NK f.type.kind f.dflt)→((((!decide (f.card=2))||(!decide (f.union=⟨#[]⟩)))||!c)||!d)=false→IB f:=fun c d i j _=>by
  cases c<;>cases d<;>simp_all
 have e:(!f.hasDefault)=true→IB f:=fun i j=>by simp_all
 dsimp only[X9,br,wg,lr,lc,cl,AD,br]
 (repeat' (first|with_reducible (first|refine AH (fun _=>?_) fun _=>?_|refine AB ?_)|(with_reducible apply BK;(exact q _ Ch Ch);all_goals(intro _ _;try dsimp only))|(with_reducible apply AF;(exact Sg _ _ a.d g);intro _ _)|(with_reducible apply AF;(exact Ry _ _ a.d);intro _ _)|(with_reducible apply AF;(exact lT _ a.d);intro _ _)|(with_reducible apply AF;(exact Sg _ _ a.d (by solve_by_elim));intro _ _)|(with_reducible apply AF;(exact Xt _ _ h);intro _ _)|(with_reducible apply Bp;(exact fun _=>Sg _ _ a.d g);intro _)|(with_reducible apply Bp;(exact fun _=>Ry _ _ a.d);intro _)|(with_reducible apply Bp;(exact fun _=>lT _ a.d);intro _)|(with_reducible apply Bp;(exact fun _=>Sg _ _ a.d (by solve_by_elim));intro _)|(with_reducible apply Bp;(exact fun _=>Xt _ _ h);intro _)|with_reducible refine AI ?_ ?_))<;>first|(intro _;exact key _ _ (by assumption) (by assumption))|(intro _;exact e (by assumption))|exact AX
theorem o87(s:Scm)(m:Msg)(l:List Bool)(h:SzS s)(hm:SzM m)(hl:l.length=s.messages.length):Ok Tr (Zc s m l):=by
 have a:=hm.fl
 have q:Ok Ts (Ah (Uk s m l) Ag 0):=by
  refine Bz (fun v:Nat=>v≤m.fields.length) (fun v:Nat=>m.fields.length-v) (by omega) (BX (by omega)) fun v b=>?_
  dsimp only[Uk,br,ix,Bs,vz,wg,vs,Ar,ln,Af,cl,wa,Aj,br]
  (repeat' (first|with_reducible (first|refine AH (fun _=>?_) fun _=>?_|refine AB ?_|refine BS ?_ fun _ _ _=>?_)|(with_reducible apply AF;(exact Qp _ _ h);intro _ _)|with_reducible (first|refine Ga ?_ fun _=>?_|refine AI ?_ ?_)))<;>exact AX
 dsimp only[Zc,lr,lc]
 (repeat' (first|with_reducible (first|refine AH (fun _=>?_) fun _=>?_|refine AB ?_)|(with_reducible apply BK;(exact q);all_goals(intro _ _;try dsimp only))|with_reducible refine AI ?_ ?_))<;>exact AX
theorem gI(s:Scm)(m:Msg)(l:List Bool)(h:SzS s)(hm:SzM m)(hl:l.length=s.messages.length):Ok Tr (Sh s m l):=by
 have a:=hm.fl
 have q:Ok Ts (Ah (Tc s m l) Ag 0):=by
  refine Bz (fun v:Nat=>v≤m.fields.length) (fun v:Nat=>m.fields.length-v) (by omega) (BX (by omega)) fun v b=>?_
  dsimp only[Tc,br,ix,vz,wg,vs,vg,Ar,ln,Af,cl,wa,AE,Fb,fl,Aj,br,AE]
  (repeat' (first|with_reducible (first|refine AH (fun _=>?_) fun _=>?_|refine AB ?_|refine BS ?_ fun _ _ _=>?_)|(with_reducible apply AF;(exact Qp _ _ h);intro _ _)|with_reducible refine AI ?_ ?_))<;>exact AX
 dsimp only[Sh,vz,lr,lc,fl]
 (repeat' (first|with_reducible (first|refine AH (fun _=>?_) fun _=>?_|refine AB ?_)|(with_reducible apply BK;(exact q);all_goals(intro _ _;try dsimp only))|with_reducible refine AI ?_ ?_))<;>exact AX
theorem sH(s:Scm)(h:SzS s):Ok (fun y=>y.length=s.messages.length) (Zl s):=by
 have g:=h.ml
 have q:∀(v:Nat) (r:List Bool),r.length=s.messages.length→Ok (Sum.elim (fun y:Bool×List Bool=>y.2.length=s.messages.length) No) (Ah (Ut s v) Ag (false,0,r)):=by
  intro w r e
  refine Bz (fun v:Bool×Nat×List Bool=>v.2.1≤s.messages.length∧v.2.2.length=s.messages.length) (fun v:Bool×Nat×List Bool=>s.messages.length-v.2.1) ⟨by simp,e⟩ (BX (by simp;omega)) fun v d=>?_
  obtain⟨b,i,r⟩:=v
  obtain⟨c,a⟩:=d
  dsimp only at c a
  dsimp only[Ut,br,Bs,vz,vw,wg,vs,v2,ln,Af,Cy,wa,ir,ca,st,rn,fl,Aj,br]
  (repeat' (first|with_reducible (first|refine AH (fun _=>?_) fun _=>?_|refine AB ?_|refine BS ?_ fun _ _ _=>?_)|(with_reducible apply AF;(exact gI _ _ _ h (h.m _ (by grind)) a);intro _ _)|(with_reducible apply Bp;(exact fun _=>gI _ _ _ h (h.m _ (by grind)) a);intro _)|with_reducible (first|refine Ga ?_ fun _=>?_|refine AI ?_ ?_)))<;>exact AX
 have f:Ok (Sum.elim (fun y:List Bool=>y.length=s.messages.length) No) (Ah (U8 s) Ag (true,0,List.replicate s.messages.length false)):=by
  refine Bz (fun v:Bool×Nat×List Bool=>v.2.1≤s.messages.length∧v.2.2.length=s.messages.length) (fun v:Bool×Nat×List Bool=>s.messages.length-v.2.1) ⟨by simp,by simp⟩ (BX (by simp;omega)) fun v d=>?_
  obtain⟨b,i,r⟩:=v
  obtain⟨c,a⟩:=d
  dsimp only at c a
  dsimp only[U8,br,vz,wg,vs,v2,ln,Af,lc,wa,fl,Aj,br]
  (repeat' (first|with_reducible (first|refine AH (fun _=>?_) fun _=>?_|refine AB ?_)|(with_reducible apply BK;(exact q _ _ a);all_goals(intro _ _;try dsimp only))|with_reducible refine AI ?_ ?_))<;>exact AX
 dsimp only[Zl,vz,wg,lr,lc,ms,fl,fr,Aj]
 (repeat' (first|with_reducible (first|refine AH (fun _=>?_) fun _=>?_|refine AB ?_)|(with_reducible apply BK;(exact f);all_goals(intro _ _;try dsimp only))|with_reducible refine AI ?_ ?_))<;>exact AX
def C4(l:List Fld)(n:Nat):Prop:=∀(i:Nat) (a b:Fld),i+1<n→l[i]?=some a→l[i+1]?=some b→a.num<b.num
theorem ZvQ{l:List Fld}{v:Nat}{a b:Fld}(h:C4 l v)(g:l[v]?=some a)(j:0<v→l[v-1]?=some b∧b.num<a.num):C4 l (v+1):=by
 intro i x y hi hx hy
 by_cases e:i+1<v
 ·exact h i x y e hx hy
 ·have d:i+1=v:=by omega
  have f:v-1=i:=by omega
  rw[d]at hy
  obtain⟨c,k⟩:=j (by omega)
  rw[f]at c
  rw[g]at hy
  rw[c]at hx
  cases hx
  cases hy
  exact k
structure GdM0 (s:Scm) (m:Msg):Prop where
 asc:C4 m.fields m.fields.length
 df:∀(j:Nat) (f:Fld),m.fields[j]?=some f→IB f∧Lq f∧Lw s f∧NM f
def Lu(e:Enm):Prop:=∃x,e.items[0]?=some x∧x.num=0
structure GdM (s:Scm) (m:Msg):Prop where
 asc:C4 m.fields m.fields.length
 df:∀(j:Nat) (f:Fld),m.fields[j]?=some f→IB f∧Lq f∧Lw s f∧NM f
 en:∀(j:Nat) (e:Enm),s.enums[j]?=some e→Lu e
theorem xQ(x:Msg):x.fields.length+x.reserved.length+x.gone.length≤An (AU x):=by
 have a:=CG (e:=Aw) x.fields
 have b:=CG (e:=CB) x.reserved
 have c:=CG (e:=A4) x.gone
 simp only[AU,An,bk]
 omega
theorem xX(x:Enm):x.items.length+x.reserved.length≤An (BV x):=by
 have a:=CG (e:=CV) x.items
 have b:=CG (e:=CB) x.reserved
 simp only[BV,An,bk]
 omega
theorem yc(x:Svc):x.methods.length≤An (Di x):=by
 have a:=CG (e:=G6) x.methods
 simp only[Di,An,bk]
 omega
theorem l7(d:ByteArray)(b:Bool)(n e:Int):Ok (fun y=>y.length≤1) (Bv d [] b n e):=(Ee d [] b n e (by simp)).mono fun y h=>by simpa using h.2.1
theorem o66(s:Scm)(m:Msg)(l:List Bool)(h:SzS s)(hm:SzM m)(hl:l.length=s.messages.length):Ok (fun y=>y.length≤20*(An (AU m)+1)∧(y.length=0→GdM0 s m)) (Zf s m l):=by
 have g:=xQ m
 have G:=hm.fl
 have q:=hm.r
 have B:=hm.gl
 have E:∀(v:Nat) (r:List Prb) (e:Fld),v≤m.fields.length→Ok (Sum.elim Tr No) (Ah (Uv s m l v r e) Ag (false,0)):=by
  intro w r e I
  refine Bz (fun v:Bool×Nat=>v.2≤w) (fun v:Bool×Nat=>w-v.2) (by simp) (BX (by omega)) fun v k=>?_
  obtain⟨b,i⟩:=v
  dsimp only at k
  dsimp only[Uv,br,ix,vz,wg,vs,ln,Af,wa,fl,br]
  (repeat' (first|with_reducible (first|refine AH (fun _=>?_) fun _=>?_|refine AB ?_|refine BS ?_ fun _ _ _=>?_|refine AI ?_ ?_)))<;>exact AX
 have D:∀a:List Prb,a.length≤9→Ok (Sum.elim (fun y:List Prb=>y.length≤9+10*m.fields.length∧(y.length=0→GdM0 s m)) No) (Ah (UL s m l) Ag (0,a)):=by
  intro a o
  refine Bz (fun v:Nat×List Prb=>v.1≤m.fields.length∧v.2.length≤9+10*v.1∧(v.2.length=0→C4 m.fields v.1∧∀(j:Nat) (f:Fld),j<v.1→m.fields[j]?=some f→IB f∧Lq f∧Lw s f∧NM f)) (fun v:Nat×List Prb=>m.fields.length-v.1) ⟨by simp,by simpa using o,fun _=>⟨fun i x y hi=>by simp at hi,fun j f n=>by simp at n⟩⟩ (BX (by omega)) fun v k=>?_
  obtain⟨v,r⟩:=v
  obtain⟨t,u,c⟩:=k
  dsimp only at t u c
  dsimp only[UL,db,cS,dJ,dF,dG,Wr,dT,br,ix,Bs,vz,wg,vs,vg,ln,Af,lc,cl,AD,wa,wi,fl,Aj,br]
  (repeat' (first|with_reducible (first|refine AH (fun _=>?_) fun _=>?_|refine AB ?_|refine BS ?_ fun _ _ _=>?_)|(with_reducible apply BK;(exact E _ _ _ (by omega));all_goals(intro _ _;try dsimp only))|(with_reducible apply AF;(exact Ee _ _ _ _ _ (by omega));intro _ _)|(with_reducible apply AF;(exact Ll _ (hm.f _ (by assumption)).n);intro _ _)|(with_reducible apply AF;(exact eE _ _ q);intro _ _)|(with_reducible apply AF;(exact sI _ _ B);intro _ _)|(with_reducible apply AF;(exact sJ _);intro _ _)|(with_reducible apply AF;(exact sK _ _ h);intro _ _)|(with_reducible apply AF;(exact sM _ _ hm Ch);intro _ _)|(with_reducible apply AF;(exact sN _ _ h (hm.f _ (by assumption)));intro _ _)|(with_reducible apply AF;(exact JI _ _ _ _ _ (by omega) (hm.f _ (by assumption)).o);intro _ _)|(with_reducible apply Bp;(exact fun _=>Ee _ _ _ _ _ (by omega));intro _)|(with_reducible apply Bp;(exact fun _=>Ll _ (hm.f _ (by assumption)).n);intro _)|(with_reducible apply Bp;(exact fun _=>eE _ _ q);intro _)|(with_reducible apply Bp;(exact fun _=>sI _ _ B);intro _)|(with_reducible apply Bp;(exact fun _=>sJ _);intro _)|(with_reducible apply Bp;(exact fun _=>sK _ _ h);intro _)|(with_reducible apply Bp;(exact fun _=>sM _ _ hm Ch);intro _)|(with_reducible apply Bp;(exact fun _=>sN _ _ h (hm.f _ (by assumption)));intro _)|(with_reducible apply Bp;(exact fun _=>JI _ _ _ _ _ (by omega) (hm.f _ (by assumption)).o);intro _)|with_reducible (first|refine Ga ?_ fun _=>?_|refine AI ?_ ?_)))
  all_goals try exact Ch
  have hx:=‹decide (0<(v:Int))=true→m.fields[((v:Int)-1).toNat]?=some (m.fields.getD ((v:Int)-1).toNat Rw.z)∧_›
  have he:=‹m.fields[v]?=some _›
  dsimp only
  refine⟨⟨by exact Ch,by omega,fun p=>⟨ZvQ (b:=m.fields.getD ((v:Int)-1).toNat Rw.z) (c (by omega)).1 he fun k=>?_,fun j f n d=>?_⟩⟩,by exact Ch⟩
  have ev:((v:Int)-1).toNat=v-1:=by omega
  refine⟨ev▸(hx (Yo (by omega))).1,?_⟩
  rcases Int.lt_or_le (m.fields.getD ((v:Int)-1).toNat Rw.z).num (Fld.num _)with A|z
  ·exact A
  ·exfalso
   have H:=Yc _ _▸And.intro (Yo (show(0:Int)<v by omega)) (Yo z)
   grind
  ·rcases Nat.lt_or_eq_of_le (Nat.le_of_lt_succ n)with n|rfl
   ·exact(c (by omega)).2 j f n d
   ·rw[he]at d
    cases d
    refine⟨(show _=true→IB _ by assumption) (LB fun g=>?_),(show _=true→Lq _ by assumption) (LB fun g=>?_),(show _=true→Lw s _ by assumption) (LB fun g=>?_),(show _=true→∀f,m.fields[j]?=some f→NM f by assumption) (LB fun g=>?_) _ he⟩
    all_goals(
     rw[Bool.not_eq_true]at g
     subst g
     simp only[Y4,NU]at*
     omega)
  have C:v=m.fields.length:=by exact Ch
  subst C
  exact⟨by exact Ch,fun p=>⟨(c p).1,fun j f d=>(c p).2 j f (Ye.1 d).1 d⟩⟩
 have F:∀a:List Prb,a.length≤20000000→Ok (Sum.elim (fun y:List Prb=>a.length≤y.length∧y.length≤a.length+m.gone.length) No) (Ah (UA s m l) Ag (0,a)):=by
  intro a o
  refine Bz (fun v:Nat×List Prb=>v.1≤m.gone.length∧v.2.length≤a.length+v.1∧a.length≤v.2.length) (fun v:Nat×List Prb=>m.gone.length-v.1) ⟨by simp,by simp,by simp⟩ (BX (by omega)) fun v k=>?_
  obtain⟨v,r⟩:=v
  obtain⟨t,u,c⟩:=k
  dsimp only at t u c
  dsimp only[UA,br,ix,vz,wg,vs,ln,Af,lc,cl,wa,fl,Aj,br]
  (repeat' (first|with_reducible (first|refine AH (fun _=>?_) fun _=>?_|refine AB ?_|refine BS ?_ fun _ _ _=>?_)|(with_reducible apply AF;(exact Ee _ _ _ _ _ (by omega));intro _ _)|(with_reducible apply AF;(exact eF _ (hm.g _ (by assumption)));intro _ _)|with_reducible refine AI ?_ ?_))<;>exact AX
 dsimp only[Zf,vz,vy,vw,wg,lr,lc,cl,fl,fr,Aj]
 (repeat' (first|with_reducible (first|refine AH (fun _=>?_) fun _=>?_|refine AB ?_)|(with_reducible apply BK;(exact D _ Ch);all_goals(intro _ _;try dsimp only))|(with_reducible apply BK;(exact F _ (by omega));all_goals(intro _ _;try dsimp only))|(with_reducible apply AF;(exact eD _ hm.n);intro _ _)|(with_reducible apply AF;(exact l7 _ _ _ _);intro _ _)|(with_reducible apply AF;(exact Ee _ _ _ _ _ (by omega));intro _ _)|(with_reducible apply AF;(exact JI _ _ _ _ _ (by omega) hm.o);intro _ _)|(with_reducible apply AF;(exact sO _ _ _ _ _ (by omega) q);intro _ _)|(with_reducible apply AF;(exact o87 _ _ _ h hm hl);intro _ _)|with_reducible refine AI ?_ ?_))<;>exact AX
theorem o67(e:Enm)(hm:SzE e):Ok (fun y=>y.length≤20*(An (BV e)+1)∧(y.length=0→Lu e)) (ZE e):=by
 have z:=xX e
 have u:=hm.il
 have g:=hm.r
 have q:∀(v:Nat) (r:List Prb) (x:Itm),v≤e.items.length→Ok (Sum.elim Tr No) (Ah (Uu e v r x) Ag (false,0)):=by
  intro w r x A
  refine Bz (fun v:Bool×Nat=>v.2≤w) (fun v:Bool×Nat=>w-v.2) (by simp) (BX (by omega)) fun v f=>?_
  obtain⟨b,i⟩:=v
  dsimp only at f
  dsimp only[Uu,br,ix,vz,wg,vs,ln,Af,wa,fl,br]
  (repeat' (first|with_reducible (first|refine AH (fun _=>?_) fun _=>?_|refine AB ?_|refine BS ?_ fun _ _ _=>?_|refine AI ?_ ?_)))<;>exact AX
 have p:∀a:List Prb,a.length≤9→Ok (Sum.elim (fun y:List Prb=>a.length≤y.length∧y.length≤9+10*e.items.length) No) (Ah (UG e) Ag (0,a)):=by
  intro a d
  refine Bz (fun v:Nat×List Prb=>v.1≤e.items.length∧a.length≤v.2.length∧v.2.length≤9+10*v.1) (fun v:Nat×List Prb=>e.items.length-v.1) ⟨by simp,by simp,by simpa using d⟩ (BX (by omega)) fun v f=>?_
  obtain⟨v,r⟩:=v
  obtain⟨m,o,n⟩:=f
  dsimp only at m n o
  dsimp only[UG,cT,cE,Wq,br,ix,Bs,vz,wg,vs,vg,ln,Af,lc,cl,wa,wi,fl,Aj,br]
  (repeat' (first|with_reducible (first|refine AH (fun _=>?_) fun _=>?_|refine AB ?_|refine BS ?_ fun _ _ _=>?_)|(with_reducible apply BK;(exact q _ _ _ (by omega));all_goals(intro _ _;try dsimp only))|(with_reducible apply AF;(exact Ee _ _ _ _ _ (by omega));intro _ _)|(with_reducible apply AF;(exact Ll _ (hm.i _ (by assumption)).n);intro _ _)|(with_reducible apply AF;(exact eE _ _ g);intro _ _)|(with_reducible apply AF;(exact JI _ _ _ _ _ (by omega) (hm.i _ (by assumption)).o);intro _ _)|with_reducible (first|refine Ga ?_ fun _=>?_|refine AI ?_ ?_)))<;>exact AX
 dsimp only[ZE,Bs,vz,vy,vw,wg,lr,lc,cl,fl,fr,Aj]
 (repeat' (first|with_reducible (first|refine AH (fun _=>?_) fun _=>?_|refine AB ?_)|(with_reducible apply BK;(exact p _ Ch);all_goals(intro _ _;try dsimp only))|(with_reducible apply AF;(exact eD _ hm.n);intro _ _)|(with_reducible apply AF;(exact Ee _ _ _ _ _ Ch);intro _ _)|(with_reducible apply AF;(exact JI _ _ _ _ _ (by omega) hm.o);intro _ _)|(with_reducible apply AF;(exact sO _ _ _ _ _ (by omega) g);intro _ _)|with_reducible (first|refine Ga ?_ fun _=>?_|refine AI ?_ ?_)))
 all_goals try exact AX
 rename_i B a0 C a1 D k x E a3 b a4 F a5 G s
 refine⟨by exact Ch,fun t=>?_⟩
 have l:¬(e.items.length:Int)<1:=fun h=>by
  have:=k.2.2 (by simp only[h,Yt,IJ])
  omega
 have j:(0:Int)<e.items.length:=by omega
 refine⟨_,(x (Yo j)).1,Decidable.not_not.1 fun c=>?_⟩
 have:=a3.2.2 (by simp only[j,c,Yt,YK,Y4,JT])
 omega
theorem o68(s:Scm)(e:Svc)(h:SzS s)(hm:SzW e):Ok (fun y=>y.length≤20*(An (Di e)+1)) (Zg s e):=by
 have j:=yc e
 have i:=hm.ml
 have g:∀b:List Prb,b.length≤9→Ok (Sum.elim (fun y:List Prb=>y.length≤9+10*e.methods.length) No) (Ah (U2 s e) Ag (0,b)):=by
  intro b a
  refine Bz (fun v:Nat×List Prb=>v.1≤e.methods.length∧v.2.length≤9+10*v.1) (fun v:Nat×List Prb=>e.methods.length-v.1) ⟨by simp,by simpa using a⟩ (BX (by omega)) fun v f=>?_
  obtain⟨v,r⟩:=v
  obtain⟨c,d⟩:=f
  dsimp only at c d
  dsimp only[U2,WG,br,ix,Bs,vz,wg,vs,vg,ln,Af,lc,cl,AD,wa,wi,fl,Aj,br]
  (repeat' (first|with_reducible (first|refine AH (fun _=>?_) fun _=>?_|refine AB ?_|refine BS ?_ fun _ _ _=>?_)|(with_reducible apply AF;(exact Ee _ _ _ _ _ (by omega));intro _ _)|(with_reducible apply AF;(exact Qp _ _ h);intro _ _)|(with_reducible apply AF;(exact Ll _ (hm.m _ (by assumption)).n);intro _ _)|(with_reducible apply AF;(exact JI _ _ _ _ _ (by omega) (hm.m _ (by assumption)).o);intro _ _)|(with_reducible apply Bp;(exact fun _=>Ee _ _ _ _ _ (by omega));intro _)|(with_reducible apply Bp;(exact fun _=>Qp _ _ h);intro _)|(with_reducible apply Bp;(exact fun _=>Ll _ (hm.m _ (by assumption)).n);intro _)|(with_reducible apply Bp;(exact fun _=>JI _ _ _ _ _ (by omega) (hm.m _ (by assumption)).o);intro _)|with_reducible (first|refine Ga ?_ fun _=>?_|refine AI ?_ ?_)))<;>exact AX
 dsimp only[Zg,vz,vw,wg,lr,lc,cl,fl,fr,Aj]
 (repeat' (first|with_reducible (first|refine AH (fun _=>?_) fun _=>?_|refine AB ?_)|(with_reducible apply BK;(exact g _ Ch);all_goals(intro _ _;try dsimp only))|(with_reducible apply AF;(exact eD _ hm.n);intro _ _)|(with_reducible apply AF;(exact l7 _ _ _ _);intro _ _)|(with_reducible apply AF;(exact Ee _ _ _ _ _ (by omega));intro _ _)|(with_reducible apply AF;(exact JI _ _ _ _ _ (by omega) hm.o);intro _ _)|with_reducible refine AI ?_ ?_))<;>exact AX
structure Few (s:Scm):Prop where
 m:s.messages.length≤150
 e:s.enums.length≤150
 w:s.services.length≤150
theorem o37{s:Scm}(hs:An (Au s)≤1048576):Ok (fun y=>y.length=0→(∀(i:Nat) (m:Msg),s.messages[i]?=some m→GdM0 s m)∧∀(i:Nat) (e:Enm),s.enums[i]?=some e→Lu e) (Zt s):=by
 have h:=Hn hs
 have u:=h.ml
 have w:=h.el
 have x:=h.wl
 have t:AN (s.messages.map AU)+AN (s.enums.map BV)+AN (s.services.map Di)≤1048576:=by
  simp only[Au,An,bk]at hs
  omega
 have n:Ok (Sum.elim (fun y:List Prb=>y.length≤9) No) (Ah (UO s) Ag (1,[])):=by
  refine Bz (fun v:Nat×List Prb=>1≤v.1∧v.1≤4∧v.2.length≤2*v.1) (fun v:Nat×List Prb=>4-v.1) ⟨by simp,by simp,by simp⟩ (BX (by omega)) fun v g=>?_
  obtain⟨v,r⟩:=v
  obtain⟨c,d,f⟩:=g
  dsimp only at c d f
  dsimp only[UO,br,vz,wg,vs,ln,Af,lc,cl,wa,fl,Aj,br]
  (repeat' (first|with_reducible (first|refine AH (fun _=>?_) fun _=>?_|refine AB ?_)|(with_reducible apply AF;(exact eC _ _ h);intro _ _)|(with_reducible apply AF;(exact Ee _ _ _ _ _ (by omega));intro _ _)|(with_reducible apply AF;(exact o63 _ (by assumption));intro _ _)|with_reducible refine AI ?_ ?_))<;>exact AX
 have o:∀(a:List Prb) (l:List Bool),a.length≤10→l.length=s.messages.length→Ok (Sum.elim (fun y:List Prb=>y.length≤20971540∧(y.length=0→∀(i:Nat) (m:Msg),s.messages[i]?=some m→GdM0 s m)) No) (Ah (UR s l) Ag (0,a)):=by
  intro a l b hl
  refine Bz (fun v:Nat×List Prb=>v.1≤s.messages.length∧v.2.length≤10+20*AN ((s.messages.take v.1).map AU)∧(v.2.length=0→∀(i:Nat) (m:Msg),i<v.1→s.messages[i]?=some m→GdM0 s m)) (fun v:Nat×List Prb=>s.messages.length-v.1) ⟨by simp,CP b (QL _ _),fun _ i m hi=>by simp at hi⟩ (BX (by omega)) fun v g=>?_
  obtain⟨v,r⟩:=v
  obtain⟨c,d,f⟩:=g
  dsimp only at c d f
  have a1:=MH AU s.messages v
  have j:=MH AU s.messages (v+1)
  dsimp only[UR,Wv,WO,br,ix,vz,wg,vs,ln,Af,lc,aq,cl,wa,tw,fl,Aj,br]
  (repeat' (first|with_reducible (first|refine AH (fun _=>?_) fun _=>?_|refine AB ?_|refine BS ?_ fun _ _ _=>?_)|(with_reducible apply AF;(exact o66 _ _ _ h (h.m _ (by assumption)) hl);intro _ _)|with_reducible refine AI ?_ ?_))<;>first|(have a3:=S3 AU ‹s.messages[v]?=some _›;exact AX)|exact AX
 have p:∀a:List Prb,a.length≤20971540→Ok (Sum.elim (fun y:List Prb=>a.length≤y.length∧y.length≤41943080∧(y.length=0→∀(i:Nat) (e:Enm),s.enums[i]?=some e→Lu e)) No) (Ah (U0 s) Ag (0,a)):=by
  intro a b
  refine Bz (fun v:Nat×List Prb=>v.1≤s.enums.length∧v.2.length≤20971540+20*AN ((s.enums.take v.1).map BV)∧a.length≤v.2.length∧(v.2.length=0→∀(i:Nat) (e:Enm),i<v.1→s.enums[i]?=some e→Lu e)) (fun v:Nat×List Prb=>s.enums.length-v.1) ⟨by simp,CP b (QL _ _),by simp,fun _ i e hi=>by simp at hi⟩ (BX (by omega)) fun v g=>?_
  obtain⟨v,r⟩:=v
  obtain⟨c,d,f,k⟩:=g
  dsimp only at c d f k
  have a1:=MH BV s.enums v
  have j:=MH BV s.enums (v+1)
  dsimp only[U0,dM,cH,br,ix,vz,wg,vs,ln,Af,lc,aq,cl,wa,tw,fl,Aj,br]
  (repeat' (first|with_reducible (first|refine AH (fun _=>?_) fun _=>?_|refine AB ?_|refine BS ?_ fun _ _ _=>?_)|(with_reducible apply AF;(exact o67 _ (h.e _ (by assumption)));intro _ _)|with_reducible refine AI ?_ ?_))<;>first|(have a3:=S3 BV ‹s.enums[v]?=some _›;exact AX)|exact AX
 have q:∀a:List Prb,a.length≤41943080→Ok (Sum.elim (fun y:List Prb=>a.length≤y.length) No) (Ah (UJ s) Ag (0,a)):=by
  intro a b
  refine Bz (fun v:Nat×List Prb=>v.1≤s.services.length∧v.2.length≤41943080+20*AN ((s.services.take v.1).map Di)∧a.length≤v.2.length) (fun v:Nat×List Prb=>s.services.length-v.1) ⟨by simp,CP b (QL _ _),by simp⟩ (BX (by omega)) fun v g=>?_
  obtain⟨v,r⟩:=v
  obtain⟨c,d,f⟩:=g
  dsimp only at c d f
  have a1:=MH Di s.services v
  have j:=MH Di s.services (v+1)
  dsimp only[UJ,dv,cW,br,ix,vz,wg,vs,ln,Af,lc,aq,cl,wa,tw,fl,Aj,br]
  (repeat' (first|with_reducible (first|refine AH (fun _=>?_) fun _=>?_|refine AB ?_|refine BS ?_ fun _ _ _=>?_)|(with_reducible apply AF;(exact o68 _ _ h (h.w _ (by assumption)));intro _ _)|with_reducible refine AI ?_ ?_))<;>first|(have a3:=S3 Di ‹s.services[v]?=some _›;exact AX)|exact AX
 dsimp only[Zt,vz,vw,wg,lr,lc,cl,AD,fl,fr]
 (repeat' (first|with_reducible (first|refine AH (fun _=>?_) fun _=>?_|refine AB ?_)|(with_reducible apply BK;(exact n);all_goals(intro _ _;try dsimp only))|(with_reducible apply BK;(exact o _ _ (by omega) (by assumption));all_goals(intro _ _;try dsimp only))|(with_reducible apply BK;(exact p _ (by omega));all_goals(intro _ _;try dsimp only))|(with_reducible apply BK;(exact q _ (by omega));all_goals(intro _ _;try dsimp only))|(with_reducible apply AF;(exact eC _ _ h);intro _ _)|(with_reducible apply AF;(exact sG _ _ (by assumption) (by assumption));intro _ _)|(with_reducible apply AF;(exact sH _ h);intro _ _)|(with_reducible apply AF;(exact Ee _ _ _ _ _ (by omega));intro _ _)|(with_reducible apply Bp;(exact fun _=>eC _ _ h);intro _)|(with_reducible apply Bp;(exact fun _=>sG _ _ (by assumption) (by assumption));intro _)|(with_reducible apply Bp;(exact fun _=>sH _ h);intro _)|(with_reducible apply Bp;(exact fun _=>Ee _ _ _ _ _ (by omega));intro _)|with_reducible refine AI ?_ ?_))<;>exact AX
theorem o16{s:Scm}(hs:An (Au s)≤1048576):Ok (fun b=>b=true→∀(i:Nat) (m:Msg),s.messages[i]?=some m→GdM s m) (Sl s):=by
 have k:Ok (fun b=>b=true→(∀(i:Nat) (m:Msg),s.messages[i]?=some m→GdM0 s m)∧∀(i:Nat) (e:Enm),s.enums[i]?=some e→Lu e) (Sl s):=by
  dsimp only[Sl,vz,wg,lr,cl,Aj]
  (repeat' (first|with_reducible (first|refine AH (fun _=>?_) fun _=>?_|refine AB ?_)|(with_reducible apply AF;(exact o37 hs);intro _ _)|with_reducible refine AI ?_ ?_))<;>exact AX
 exact k.mono fun b h a i m hm=>⟨((h a).1 i m hm).asc,((h a).1 i m hm).df,(h a).2⟩
abbrev AR(v:Val):Prop:=An (Ai v)≤1048576
theorem I9{v x:Val}(h:AR v)(hx:x∈v.list):AR x:=by
 have a:=Dn (e:=AJ) hx
 rw[Ge]at a
 unfold AR at*
 conv at h=>unfold Ai
 simp only[An,bk]at h
 omega
theorem DR{v:Val}{x:Pr}(h:AR v)(hx:x∈v.pairs):AR x.key∧AR x.val:=by
 have a:=Dn (e:=Ap) hx
 have e:Ap x=Ai x.key++Ai x.val:=by rw[KN];rfl
 rw[e,MN]at a
 unfold AR at*
 conv at h=>unfold Ai
 simp only[An,bk]at h
 omega
theorem Gp{v:Val}{x:Slt}(h:AR v)(hx:x∈v.slots):AR x.val:=by
 have a:=Dn (e:=Ao) hx
 have e:Ao x=D.int .i64 x.num::Ai x.val:=by rw[KI];rfl
 rw[e,An]at a
 unfold AR at*
 conv at h=>unfold Ai
 simp only[An,bk]at h
 omega
theorem Tf{α:Type}(p:α→Bool):∀l:List α,l.find? p=(l.findIdx? p).bind fun i=>l[i]?
 |[]=>rfl
 |x::l=>by
  rw[List.find?_cons,List.findIdx?_cons]
  cases h:p x with
  |true=>simp
  |false=>
   rw[Tf p l]
   cases List.findIdx? p l<;>simp
def Dq{α:Type}[Inhabited α](l:List α)(z:α)(p:α→Bool):α×Bool:=(l.find? p).elim (z,false) fun x=>(x,true)
theorem bG{α:Type}[Inhabited α](l:List α)(z:α)(p:α→Bool):Dq l z p=match l.findIdx? p with|some i=>(l.getD i default,true)|none=>(z,false):=by
 unfold Dq
 rw[Tf]
 cases h:l.findIdx? p with
 |none=>rfl
 |some i=>
  have:=(QH.1 h).1
  simp[this]
def zM:Msg:=.mk ⟨#[]⟩ [] [] [] []
def zF:Fld:=.mk 0 ⟨#[]⟩ 0 0 (.mk 0 ⟨#[]⟩) ⟨#[]⟩ false (.mk 0 0 ⟨#[]⟩ [] [] [] []) []
theorem m84(l:List Msg)(n:ByteArray)(h:l.length≤1048576):Sj l (fun z=>Mm z n)=some (Dq l zM fun m=>decide (m.name=n)):=by
 have c:=HH (B:=Qi l fun z=>Mm z n) (N:=Ag) l (fun m=>decide (m.name=n)) (fun i=>(l.getD i default,true)) () (fun i x hx=>by
  have a:=BG hx
  have d:=(Ye.1 hx).1
  have b:i+1<9223372036854775808:=by omega
  have e:Mm x n=some (decide (x.name=n)):=rfl
  dsimp only[Qi,br,ix,wg,vs,Ar,ln,Af,cf,wa,br]
  simp only[a,b,hx,e,Yt,Yy,Yd,Ym,YT]
  cases decide (x.name=n)<;>simp) (by simp[Qi,br,ix,wg,vs,Ar,ln,Af,cf,wa,br]) (AZ (by omega))
 dsimp only[Sj,vz,wg,lr,lc,Aj]
 rw[c,bG]
 cases l.findIdx? fun m=>decide (m.name=n)<;>rfl
theorem bK{s:Scm}(h:SzS s)(n:ByteArray):(Dq s.messages zM fun m=>decide (m.name=n)).1.fields.length≤1048576:=by
 unfold Dq
 cases e:s.messages.find? fun m=>decide (m.name=n)with
 |none=>simp[zM]
 |some m=>exact(h.m _ (LC e)).fl
theorem WA{v x:Val}(hx:x∈v.list):An (Ai x)<An (Ai v):=by
 have a:=Dn (e:=AJ) hx
 rw[Ge]at a
 conv=>rhs;unfold Ai
 simp only[An,bk]
 omega
theorem Qd{v:Val}{x:Pr}(hx:x∈v.pairs):An (Ai x.key)<An (Ai v)∧An (Ai x.val)<An (Ai v):=by
 have b:=Dn (e:=Ap) hx
 have e:Ap x=Ai x.key++Ai x.val:=by rw[KN];rfl
 rw[e,MN]at b
 have a:An (Ai v)=An [.int .i64 v.kind,.int .u64 v.bits,.str v.text,.list (v.list.map AJ),.list (v.pairs.map Ap),.list (v.slots.map Ao),.list (v.raws.map Az)]:=rfl
 rw[a]
 simp only[An,bk]
 omega
theorem WJ{v:Val}{x:Slt}(hx:x∈v.slots):An (Ai x.val)<An (Ai v):=by
 have a:=Dn (e:=Ao) hx
 have e:Ao x=D.int .i64 x.num::Ai x.val:=by rw[KI];rfl
 rw[e,An]at a
 have b:An (Ai v)=An [.int .i64 v.kind,.int .u64 v.bits,.str v.text,.list (v.list.map AJ),.list (v.pairs.map Ap),.list (v.slots.map Ao),.list (v.raws.map Az)]:=rfl
 rw[b]
 simp only[An,bk]at a⊢
 omega
def BW(F:List Fld)(k:Int):Fld×Bool:=Dq F zF fun f=>decide (f.num=k)
def AL(F:List Fld)(k:Int):Fld:=(BW F k).1
def AW(s:Scm)(n:ByteArray):List Fld:=(Dq s.messages zM fun m=>decide (m.name=n)).1.fields
theorem ez(s:Scm)(n:ByteArray)(h:s.messages.length≤1048576):Mw s n=some (Dq s.messages zM fun m=>decide (m.name=n)):=by
 dsimp only[Mw,wg,lr,cs]
 rw[m84 _ _ h]
 rfl
theorem n74(l:List Fld)(k:Int)(h:l.length≤1048576):Sx l (fun z=>Mt z k)=some (BW l k):=by
 have c:=HH (B:=P1 l fun z=>Mt z k) (N:=Ag) l (fun f=>decide (f.num=k)) (fun i=>(l.getD i default,true)) () (fun i x hx=>by
  have a:=BG hx
  have d:=(Ye.1 hx).1
  have b:i+1<9223372036854775808:=by omega
  have e:Mt x k=some (decide (x.num=k)):=rfl
  dsimp only[P1,br,ix,wg,vs,Ar,ln,Af,cf,wa,br]
  simp only[a,b,hx,e,Yt,Yy,Yd,Ym,YT]
  cases decide (x.num=k)<;>simp) (by simp[P1,br,ix,wg,vs,Ar,ln,Af,cf,wa,br]) (AZ (by omega))
 dsimp only[Sx,vz,wg,lr,lc,Aj]
 unfold BW
 rw[c,bG]
 cases l.findIdx? fun m=>decide (m.num=k)<;>rfl
theorem ey(m:Msg)(k:Int)(h:m.fields.length≤1048576):Z7 m k=some (BW m.fields k):=by
 dsimp only[Z7,wg,lr,cs]
 rw[n74 _ _ h]
 rfl
def Hm{α:Type}(l:List α)(p:α→Bool):Int:=match l.findIdx? p with
 |some i=>(i:Int)
 |none=>-1
theorem uo{α:Type}(l:List α)(p:α→Bool):decide (0≤Hm l p)=l.any p:=by
 unfold Hm
 rw[←QV]
 cases l.findIdx? p with
 |none=>rfl
 |some i=>simp
theorem n70(l:List Slt)(f:Slt→Option Bool)(p:Slt→Bool)(d:∀x∈l,f x=some (p x))(h:l.length<4611686018427387904):Su l f=some (Hm l p):=by
 have e:=HH (B:=PL l f) (N:=Ag) l p (fun i=>(i:Int)) () (fun i x hx=>by
  have a:=BG hx
  have g:=(Ye.1 hx).1
  have b:i+1<9223372036854775808:=by omega
  have c:=d x (Yk hx)
  dsimp only[PL,br,ix,vs,Ar,ln,Af,cf,wa,br]
  simp only[a,b,c,hx,Yt,Yy,Yd]
  cases p x<;>simp) (by simp[PL,br,ix,vs,Ar,ln,Af,cf,wa,br]) (AZ h)
 dsimp only[Su,vz,lr,lc,Aj]
 rw[e]
 unfold Hm
 cases l.findIdx? p<;>rfl
def DE(l:List Slt)(k:Int):Bool:=l.any fun x=>decide (x.num=k)
theorem xM{v:Val}{x:Raw}(h:AR v)(hx:x∈v.raws):x.data.size≤1048576:=by
 have a:=Dn (e:=Az) hx
 unfold AR at h
 conv at h=>unfold Ai
 simp only[An,bk,Az]at h a
 omega
theorem Ku{F:List Fld}{k:Int}(h:(BW F k).2=true):(AL F k).num=k:=by
 unfold AL BW Dq at*
 cases e:F.find? fun f=>decide (f.num=k)with
 |none=>rw[e]at h;cases h
 |some f=>exact YX (p:=f.num=k) (List.find?_some (p:=fun f:Fld=>decide (f.num=k)) e)
def B4{α:Type}(f:Nat→α→Int):List α→Nat→Int
 |[],_=>0
 |x::l,i=>if f i x=0 then B4 f l (i+1)else f i x
theorem MS{α:Type}(f:Nat→α→Int):∀(l:List α) (i:Nat),B4 f l i=0↔∀(j:Nat) (x:α),l[j]?=some x→f (i+j) x=0
 |[],i=>by simp[B4]
 |x::l,i=>by
  unfold B4
  have a:=MS f l (i+1)
  by_cases h:f i x=0
  ·rw[Yj h,a]
   constructor
   ·intro k j y hy
    cases j with
    |zero=>cases hy;exact h
    |succ j=>have:=k j y hy;rw[show i+(j+1)=i+1+j by omega];exact this
   ·intro k j y hy
    have:=k (j+1) y hy
    rw[show i+(j+1)=i+1+j by omega]at this
    exact this
  ·rw[Yh h]
   exact⟨fun e=>absurd e h,fun k=>k 0 x rfl⟩
theorem O7{α ξ ρ:Type}{B:Nat→Option (Lv Nat ξ ρ)}{N:Nat}(l:List α)(f:Nat→α→Int)(r:Int→ρ)(e:ξ)
  (hs:∀(i:Nat) (x:α),l[i]?=some x→(∀(j:Nat) (y:α),j<i→l[j]?=some y→f j y=0)→B i=some (if f i x=0 then .nx (i+1)else .rt (r (f i x))))
  (he:B l.length=some (.ex e)) (hN:l.length<N):Ah B N 0=some (if B4 f l 0=0 then .inl e else .inr (r (B4 f l 0))):=by
 suffices H:∀k i N,i+k=l.length→(∀(j:Nat) (y:α),j<i→l[j]?=some y→f j y=0)→k<N→Ah B N i=some (if B4 f (l.drop i) i=0 then .inl e else .inr (r (B4 f (l.drop i) i)))by
  have:=H l.length 0 N (by omega) (fun j y c=>absurd c (by omega)) hN
  rwa [IH]at this
 intro k
 induction k with
 |zero=>
  intro i N hi _ hN
  obtain⟨N,rfl⟩:∃m,N=m+1:=⟨N-1,by omega⟩
  have:i=l.length:=by omega
  subst this
  rw[Ah,he,QO]
  rfl
 |succ k d=>
  intro i N hi b hN
  obtain⟨N,rfl⟩:∃m,N=m+1:=⟨N-1,by omega⟩
  have a:i<l.length:=by omega
  rw[Ah,hs i l[i] (Ya a) b,Hw a,B4]
  by_cases h:f i l[i]=0
  ·rw[Yj h,Yj h]
   refine d (i+1) N (by omega) (fun j y c hy=>?_) (by omega)
   by_cases e:j=i
   ·subst e
    rw[Ya a]at hy
    cases hy
    exact h
   ·exact b j y (by omega) hy
  ·rw[Yh h,Yh h,Yh h]
def BM(v:Val):Bool:=decide ((v.kind≠11∧0<v.list.length)∨(v.kind≠12∧0<v.pairs.length)∨(v.kind≠10∧(0<v.slots.length∨0<v.raws.length))∨(v.text≠⟨#[]⟩∧¬(v.kind=7∨v.kind=8))∨(v.bits≠0∧(v.kind=7∨v.kind=8∨v.kind=10∨v.kind=11∨v.kind=12)))
def DI(x:ByteArray)(p:Nat)(lo hi:Nat):Bool:=decide (p<x.size)&&decide (lo≤(x.get! p).toNat)&&decide ((x.get! p).toNat≤hi)
def CX(x:ByteArray)(p:Nat):Nat:=
 let b:=(x.get! p).toNat
 if b<0x80 then 1
 else if 0xc2≤b∧b≤0xdf∧DI x (p+1) 0x80 0xbf=true then 2
 else if b=0xe0∧DI x (p+1) 0xa0 0xbf=true∧DI x (p+2) 0x80 0xbf=true then 3
 else if b=0xed∧DI x (p+1) 0x80 0x9f=true∧DI x (p+2) 0x80 0xbf=true then 3
 else if 0xe1≤b∧b≤0xef∧b≠0xed∧DI x (p+1) 0x80 0xbf=true∧DI x (p+2) 0x80 0xbf=true then 3
 else if b=0xf0∧DI x (p+1) 0x90 0xbf=true∧DI x (p+2) 0x80 0xbf=true∧DI x (p+3) 0x80 0xbf=true then 4
 else if 0xf1≤b∧b≤0xf3∧DI x (p+1) 0x80 0xbf=true∧DI x (p+2) 0x80 0xbf=true∧DI x (p+3) 0x80 0xbf=true then 4
 else if b=0xf4∧DI x (p+1) 0x80 0x8f=true∧DI x (p+2) 0x80 0xbf=true∧DI x (p+3) 0x80 0xbf=true then 4
 else 0
def FL(x:ByteArray):Nat→Nat→Bool
 |0,_=>true
 |n+1,p=>if p<x.size then(if CX x p=0 then false else FL x n (p+CX x p))else true
def Hd(x:ByteArray):Bool:=FL x (x.size+1) 0
def LY(n b:Int):Bool:=if n=1 then decide (b≤1)else if n=2 then decide (-2147483648≤IntKind.i64.wrap b∧IntKind.i64.wrap b≤2147483647)else if n=4 then decide (b≤4294967295)else if n=9 then decide (b≤2147483647)else true
def GC(v:Val):Bool:=decide (v.list.length=0∧v.pairs.length=0∧v.slots.length=0∧v.raws.length=0)
def D7(n:Int):Bool:=decide (n=7∨n=8)
def Im(n:Int)(v:Val):Bool:=decide (1≤n∧n≤9∧v.kind=n)&&GC v&&(if D7 n then decide (v.bits=0∧v.text.size≤4096)&&(decide (n=8)||Hd v.text)else decide (v.text=⟨#[]⟩)&&LY n v.bits)
def Cf(n:Int)(v:Val):Int:=if v.kind≠n∨BM v=true then 12 else if 4096<v.text.size then 3 else if Im n v=true then 0 else if n=7 then 7 else 12
def zE:Enm:=.mk ⟨#[]⟩ false [] [] []
def Bl(s:Scm)(n:ByteArray):Msg×Bool:=Dq s.messages zM fun m=>decide (m.name=n)
def Df(s:Scm)(n:ByteArray):Enm×Bool:=Dq s.enums zE fun e=>decide (e.name=n)
def Lh(e:Enm)(b:Int):Bool:=e.items.any fun x=>decide (IntKind.u64.wrap x.num=b)
def Cq(R:Msg→Val→Int)(s:Scm)(t:Typ)(v:Val):Int:=
 if t.kind=10 then(if(Bl s t.name).2=true then R (Bl s t.name).1 v else 10)
 else if t.kind<1∨9<t.kind then 12
 else if Cf t.kind v≠0∨t.kind≠9 then Cf t.kind v
 else if(Df s t.name).2=false then 10
 else if(Df s t.name).1.opn=false∧Lh (Df s t.name).1 v.bits=false then 16 else 0
def Gy(a b:Val):Bool:=decide (a.bits=b.bits)&&decide (a.text=b.text)
def Ia(E:Val→Int)(key:Int)(k:Bool)(l:List Pr)(i:Nat)(p:Pr):Int:=
 if Cf key p.key≠0 then Cf key p.key else if k=true∧((l.take i).any fun q=>Gy q.key p.key)=true then 9 else E p.val
def B9(R:Msg→Val→Int)(s:Scm)(k:Bool)(f:Fld)(v:Val):Int:=
 if f.card=4 then(if v.kind≠11∨BM v=true then 12 else B4 (fun _ x=>Cq R s f.type x) v.list 0)
 else if f.card=5 then(if v.kind≠12∨BM v=true then 12 else B4 (Ia (Cq R s f.type) f.key k v.pairs) v.pairs 0)
 else Cq R s f.type v
def Jq(F:List Fld)(l:List Slt)(u:ByteArray):Bool:=!decide (u=⟨#[]⟩)&&l.any fun y=>decide ((AL F y.num).union=u)
def FV(R:Fld→Val→Int)(F:List Fld)(l:List Slt)(i:Nat)(x:Slt):Int:=
 if(BW F x.num).2=false then 8 else if DE (l.take i) x.num=true then 9 else if Jq F (l.take i) (AL F x.num).union=true then 15 else R (AL F x.num) x.val
def Ic(l:List Slt)(f:Fld):Int:=if f.card=1∧DE l f.num=false then 14 else 0
def UP(s:Scm)(f:Fld)(x:Raw):Bool:=decide (f.type.kind=9)&&(Df s f.type.name).2&&!(Df s f.type.name).1.opn&&!decide (f.card=5)&&decide (x.wire=0)&&decide (x.bits<2147483648)&&!Lh (Df s f.type.name).1 x.bits
def La(s:Scm)(F:List Fld)(x:Raw):Int:=
 if x.num<1∨65535<x.num∨x.wire<0∨6<x.wire∨(x.wire≤2∧x.data≠⟨#[]⟩)∨(2<x.wire∧x.bits≠0)then 1
 else if(BW F x.num).2=true∧UP s (AL F x.num) x=false then 1
 else if(x.wire=3∧4096<x.data.size)∨65536<x.data.size then 3 else 0
def A3(s:Scm)(k:Bool):Nat→Msg→Val→Int
 |0,_,v=>if v.kind≠10∨BM v=true then 12 else 17
 |d+1,m,v=>
  if v.kind≠10∨BM v=true then 12
  else if B4 (FV (B9 (A3 s k d) s k) m.fields v.slots) v.slots 0≠0 then B4 (FV (B9 (A3 s k d) s k) m.fields v.slots) v.slots 0
  else if B4 (fun _ f=>Ic v.slots f) m.fields 0≠0 then B4 (fun _ f=>Ic v.slots f) m.fields 0
  else B4 (fun _ x=>La s m.fields x) v.raws 0
mutual
def cnt:Val→Nat
 |.mk _ _ _ l p s r=>1+r.length+Bc l+Cg p+BR s
def Bc:List Val→Nat
 |[]=>0
 |v::l=>cnt v+Bc l
def HV:Pr→Nat
 |.mk k v=>cnt k+cnt v
def Cg:List Pr→Nat
 |[]=>0
 |p::l=>HV p+Cg l
def H4:Slt→Nat
 |.mk _ v=>cnt v
def BR:List Slt→Nat
 |[]=>0
 |x::l=>H4 x+BR l
end
def Jf(s:Scm)(k:Bool)(n:ByteArray)(v:Val):Int:=
 if(Bl s n).2=false then 10 else if A3 s k 16 (Bl s n).1 v≠0 then A3 s k 16 (Bl s n).1 v else if 4096<cnt v then 3 else 0
end Go.Proofs.YtalafnjhcecdpaaGreatDoor
