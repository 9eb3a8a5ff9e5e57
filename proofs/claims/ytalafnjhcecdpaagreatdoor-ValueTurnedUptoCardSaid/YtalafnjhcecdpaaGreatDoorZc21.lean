import Derived.Test.YtalafnjhcecdpaaGreatDoorZc20
import Derived.Test.YtalafnjhcecdpaaGreatDoorZc00
namespace Go.Proofs.YtalafnjhcecdpaaGreatDoor
set_option linter.all false
open Go Go.Eng
theorem aM(x:ByteArray):x.data.toList.length=x.size:=by rw[FP];rfl
theorem BQ{n:Nat}(h:n≤2097152):n<Aj:=by unfold Aj;omega
theorem ww(x:ByteArray)(h:x.size≤1048576):Ok Tr (XU x):=by
 have q:Ok Ts (Ag (Tf x) Aj 0):=by
  refine Bt (fun v:Int=>0≤v∧v≤x.size+4) (fun v:Int=>(x.size+4-v).toNat) ⟨by omega,by omega⟩ (BQ (by omega)) fun v a=>?_
  dsimp only[Tf,br,vz,vs,Aw,ln,Af,cl,wi,A1,br]
  (repeat' (first|with_reducible (first|refine AG (fun _=>?_) fun _=>?_|refine Az ?_)|(with_reducible apply AD;(exact w5 _ _ a.1 B6 h);intro _ _)|with_reducible refine AI ?_ ?_))<;>exact AP
 dsimp only[XU,lr,lc]
 (repeat' (first|with_reducible (first|refine AG (fun _=>?_) fun _=>?_|refine Az ?_)|(with_reducible apply BD;(exact q);all_goals(intro _ _;try dsimp only))|with_reducible refine AI ?_ ?_))<;>exact B6
theorem di(x:ByteArray)(h:x.size≤1048576):Ok Tr (RA x):=by
 dsimp only[RA,lr,cl]
 (repeat' (first|with_reducible (first|refine AG (fun _=>?_) fun _=>?_|refine Az ?_)|(with_reducible apply AD;(exact ww _ h);intro _ _)|with_reducible refine AI ?_ ?_))<;>exact B6
theorem QK(x:ByteArray)(h:x.size≤1048576):Ok Tr (Xm x):=by
 have hl:=aM x
 have q:Ok Ts (Ag (S6 x) Aj 1):=by
  refine Bt (fun v:Nat=>v≤1048577) (fun v:Nat=>1048577-v) (by omega) (BQ (by omega)) fun v a=>?_
  dsimp only[S6,br,vz,vs,Aw,ln,Af,cl,AF,wa,A1,br,ib,Gn]
  (repeat' (first|with_reducible (first|refine AG (fun _=>?_) fun _=>?_|refine Az ?_|refine BK ?_ fun _ _ _=>?_)|(with_reducible apply AD;(exact Rb _);intro _ _)|(with_reducible apply AD;(exact Rq _);intro _ _)|(with_reducible apply Bl;(exact fun _=>Rb _);intro _)|(with_reducible apply Bl;(exact fun _=>Rq _);intro _)|with_reducible refine AI ?_ ?_))<;>exact AP
 dsimp only[Xm,br,vz,vy,lr,lc,AF,A1,br,Gn]
 (repeat' (first|with_reducible (first|refine AG (fun _=>?_) fun _=>?_|refine Az ?_)|(with_reducible apply BD;(exact q);all_goals(intro _ _;try dsimp only))|(with_reducible apply AD;(exact Rb _);intro _ _)|(with_reducible apply AD;(exact Rq _);intro _ _)|(with_reducible apply Bl;(exact fun _=>Rb _);intro _)|(with_reducible apply Bl;(exact fun _=>Rq _);intro _)|with_reducible refine AI ?_ ?_))<;>exact B6
theorem xm(x:ByteArray)(h:x.size≤1048576):Ok Tr (Xl x):=by
 have hl:=aM x
 have q:Ok (Sum.elim (fun b:ByteArray=>b.size≤1048576) Tr) (Ag (TD x) Aj (⟨#[]⟩,0)):=by
  refine Bt (fun v:ByteArray×Nat=>v.1.size≤v.2∧v.2≤x.size) (fun v:ByteArray×Nat=>x.size-v.2) ⟨by rw[re];omega,by omega⟩ (BQ (by omega)) fun v a=>?_
  obtain⟨v,i⟩:=v
  obtain⟨a,hi⟩:=a
  dsimp only at a hi
  dsimp only[TD,br,vz,vs,v2,Aw,ln,Af,ad,cl,wa,ss,A1,br,ib]
  (repeat' (first|with_reducible (first|refine AG (fun _=>?_) fun _=>?_|refine Az ?_|refine BK ?_ fun _ _ _=>?_)|(with_reducible apply AD;(exact QK _ (by omega));intro _ _)|with_reducible (first|refine eV ?_ ?_|refine AI ?_ ?_)))<;>exact AP
 dsimp only[Xl,br,vz,lr,lc,cl,A1,br]
 (repeat' (first|with_reducible (first|refine AG (fun _=>?_) fun _=>?_|refine Az ?_)|(with_reducible apply BD;(exact q);all_goals(intro _ _;try dsimp only))|(with_reducible apply AD;(exact QK _ (by assumption));intro _ _)|with_reducible refine AI ?_ ?_))<;>exact B6
set_option maxRecDepth 20000 in
theorem xj(x:ByteArray)(h:x.size≤1048576):Ok (fun y=>y.1.size≤1048576∧y.2.size≤1048576) (Xk x):=by
 have hl:=aM x
 have q:Ok (Sum.elim Tr (fun y:ByteArray×ByteArray=>y.1.size≤1048576∧y.2.size≤1048576)) (Ag (TC x) Aj ((x.size:Int)-1)):=by
  refine Bt (fun v:Int=>-1≤v∧v<x.size) (fun v:Int=>(v+1).toNat) ⟨by omega,by omega⟩ (BQ (by omega)) fun v hv=>?_
  dsimp only[TC,br,vs,Aw,ln,Af,wi,ss,br,Uv]
  (repeat' (first|with_reducible (first|refine AG (fun _=>?_) fun _=>?_|refine Az ?_|refine BK ?_ fun _ _ _=>?_|refine eV ?_ ?_|refine AI ?_ ?_)))<;>exact AP
 dsimp only[Xk,vz,vs,lr,lc,wi,A1]
 (repeat' (first|with_reducible (first|refine AG (fun _=>?_) fun _=>?_|refine Az ?_)|(with_reducible apply BD;(exact q);all_goals(intro _ _;try dsimp only))|with_reducible refine AI ?_ ?_))<;>exact AP
set_option maxRecDepth 20000 in
theorem dg(x:ByteArray)(h:x.size≤1048576):Ok Tr (Xq x):=by
 have q:Ok Ts (Ag Ti Aj (x,0)):=by
  refine Bt (fun v:ByteArray×Nat=>v.1.size≤1048576∧v.2≤120) (fun v:ByteArray×Nat=>120-v.2) ⟨h,by omega⟩ (BQ (by omega)) fun v hv=>?_
  obtain⟨v,i⟩:=v
  obtain⟨hv,hi⟩:=hv
  dsimp only at hv hi
  dsimp only[Ti,br,vs,v2,Aw,ln,Af,cl,wa,br]
  (repeat' (first|with_reducible (first|refine AG (fun _=>?_) fun _=>?_|refine Az ?_)|(with_reducible apply AD;(exact xj _ hv);intro _ _)|(with_reducible apply AD;(exact Wc _);intro _ _)|with_reducible refine AI ?_ ?_))<;>exact AP
 dsimp only[Xq,br,lr,lc,cl,br]
 (repeat' (first|with_reducible (first|refine AG (fun _=>?_) fun _=>?_|refine Az ?_)|(with_reducible apply BD;(exact q);all_goals(intro _ _;try dsimp only))|(with_reducible apply AD;(exact xm _ h);intro _ _)|with_reducible refine AI ?_ ?_))<;>exact AP
set_option maxRecDepth 20000 in
theorem KU(x:ByteArray)(h:x.size≤1048576):Ok Tr (Xw x):=by
 dsimp only[Xw,lr,cl,AF]
 (repeat' (first|with_reducible (first|refine AG (fun _=>?_) fun _=>?_|refine Az ?_)|(with_reducible apply AD;(exact QK _ h);intro _ _)|(with_reducible apply AD;(exact Wc _);intro _ _)|(with_reducible apply Bl;(exact fun _=>QK _ h);intro _)|(with_reducible apply Bl;(exact fun _=>Wc _);intro _)|with_reducible refine AI ?_ ?_))<;>exact AP
theorem qY(l:List ByteArray)(x:ByteArray)(h:l.length≤1048576):Ok Tr (Oe l x):=by
 have q:Ok Ts (Ag (Mp l x) Aj 0):=by
  refine Bt (fun v:Nat=>v≤l.length) (fun v:Nat=>l.length-v) (by omega) (BQ (by omega)) fun v a=>?_
  dsimp only[Mp,br,ix,vz,vs,Aw,ln,Af,wa,Am,br]
  (repeat' (first|with_reducible (first|refine AG (fun _=>?_) fun _=>?_|refine Az ?_|refine BK ?_ fun _ _ _=>?_|refine AI ?_ ?_)))<;>exact AP
 dsimp only[Oe,lr,lc]
 (repeat' (first|with_reducible (first|refine AG (fun _=>?_) fun _=>?_|refine Az ?_)|(with_reducible apply BD;(exact q);all_goals(intro _ _;try dsimp only))|with_reducible refine AI ?_ ?_))<;>exact AP
theorem dh(l:List Spn)(x:Int)(h:l.length≤1048576):Ok Tr (Xy l x):=by
 have q:Ok Ts (Ag (Tm l x) Aj 0):=by
  refine Bt (fun v:Nat=>v≤l.length) (fun v:Nat=>l.length-v) (by omega) (BQ (by omega)) fun v a=>?_
  dsimp only[Tm,br,ix,Bn,vz,vs,Aw,ln,Af,wa,Am,br]
  (repeat' (first|with_reducible (first|refine AG (fun _=>?_) fun _=>?_|refine Az ?_|refine BK ?_ fun _ _ _=>?_|refine FX ?_ fun _=>?_|refine AI ?_ ?_)))<;>exact AP
 dsimp only[Xy,lr,lc]
 (repeat' (first|with_reducible (first|refine AG (fun _=>?_) fun _=>?_|refine Az ?_)|(with_reducible apply BD;(exact q);all_goals(intro _ _;try dsimp only))|with_reducible refine AI ?_ ?_))<;>exact AP
theorem PI(s:Scm)(x:ByteArray)(h:SzS s):Ok (fun y:Int=>y<s.messages.length∧(0≤y→∃m∈s.messages,m.name=x)) (Xu s x):=by
 have hm:=h.ml
 have q:Ok (Sum.elim Tr fun y:Int=>y<s.messages.length∧(0≤y→∃m∈s.messages,m.name=x)) (Ag (To s x) Aj 0):=by
  refine Bt (fun v:Nat=>v≤s.messages.length) (fun v:Nat=>s.messages.length-v) (by omega) (BQ (by omega)) fun v a=>?_
  dsimp only[To,br,ix,vz,wg,vs,Aw,ln,Af,wa,Am,br]
  (repeat' (first|with_reducible (first|refine AG (fun _=>?_) fun _=>?_|refine Az ?_|refine BK ?_ fun _ _ _=>?_|refine AI ?_ ?_)))<;>first|exact⟨by omega,fun _=>⟨_,by assumption,Y4 (by assumption)⟩⟩|exact AP
 dsimp only[Xu,lr,lc]
 (repeat' (first|with_reducible (first|refine AG (fun _=>?_) fun _=>?_|refine Az ?_)|(with_reducible apply BD;(exact q);all_goals(intro _ _;try dsimp only))|with_reducible refine AI ?_ ?_))<;>first|exact⟨by omega,fun h=>absurd h (by decide)⟩|exact AP
theorem WH(s:Scm)(x:ByteArray)(h:SzS s):Ok (fun y:Int=>y<s.enums.length∧(0≤y→∃m∈s.enums,m.name=x)) (XA s x):=by
 have hm:=h.el
 have q:Ok (Sum.elim Tr fun y:Int=>y<s.enums.length∧(0≤y→∃m∈s.enums,m.name=x)) (Ag (S7 s x) Aj 0):=by
  refine Bt (fun v:Nat=>v≤s.enums.length) (fun v:Nat=>s.enums.length-v) (by omega) (BQ (by omega)) fun v a=>?_
  dsimp only[S7,br,ix,vz,wg,vs,Aw,ln,Af,wa,Am,br]
  (repeat' (first|with_reducible (first|refine AG (fun _=>?_) fun _=>?_|refine Az ?_|refine BK ?_ fun _ _ _=>?_|refine AI ?_ ?_)))<;>first|exact⟨by omega,fun _=>⟨_,by assumption,Y4 (by assumption)⟩⟩|exact AP
 dsimp only[XA,lr,lc]
 (repeat' (first|with_reducible (first|refine AG (fun _=>?_) fun _=>?_|refine Az ?_)|(with_reducible apply BD;(exact q);all_goals(intro _ _;try dsimp only))|with_reducible refine AI ?_ ?_))<;>first|exact⟨by omega,fun h=>absurd h (by decide)⟩|exact AP
theorem Ri(v w:Val)(h:SzV v)(k:SzV w):Ok Tr (Xv v w):=by
 obtain⟨_,_,_,_,_⟩:=h
 obtain⟨_,_,_,_,_⟩:=k
 dsimp only[Xv,vy,wg,vg,lr,wa,Am]
 (repeat' (first|with_reducible (first|refine AG (fun _=>?_) fun _=>?_|refine Az ?_|refine AI ?_ ?_)))<;>exact AP
def dT(v:Val):Prop:=v.list=[]∧v.pairs=[]∧v.slots=[]∧v.raws=[]∧(v.kind=7∨v.kind=8→v.bits=0)∧(¬(v.kind=7∨v.kind=8)→v.text=⟨#[]⟩)
def Ng(n:Int)(v:Val):Prop:=1≤n∧n≤9∧v.kind=n∧dT v
theorem vh{n:Int}{v:Val}(h:SzV v)(e:LR n v=some true):Ng n v:=by
 obtain⟨p,q,r,s,t⟩:=h
 have k:v.list.length<4611686018427387904:=by omega
 have l:v.pairs.length<4611686018427387904:=by omega
 have m:v.slots.length<4611686018427387904:=by omega
 have o:v.raws.length<4611686018427387904:=by omega
 have hi:Ru n=some (decide (1≤n)&&decide (n≤9)):=rfl
 dsimp only[LR,br,vz,vy,wg,lr,cl,AF,A1,br,XJ,vz,vy,wg,lr,Am,Rz,lr]at e
 rw[hi]at e
 unfold Ng dT
 simp only[Yd]at e
 generalize RA v.text=w at e
 simp[k,l,m,o]at e
 split at e
 ·cases e
 ·rename_i c
  simp only[not_or,Decidable.not_not,Classical.not_imp,Int.not_lt]at c
  obtain⟨⟨⟨d,f⟩,b⟩,⟨⟨g,i⟩,j⟩,c6⟩:=c
  refine⟨d,f,b,g,i,j,c6,fun a=>?_,fun a=>?_⟩
  ·rw[b]at a
   simp only[a,Yy]at e
   split at e<;>simp_all
  ·rw[b]at a
   simp only[a,YH]at e
   split at e<;>simp_all
theorem Q8(n:Int)(v:Val)(h:SzV v):Ok (fun b=>b=true→Ng n v) (LR n v):=by
 have a:=h.t
 have q:Ok Tr (LR n v):=by
  have c:Ok Tr (Ru n):=⟨_,rfl,trivial⟩
  dsimp only[LR,br,vz,vy,wg,lr,cl,AF,A1,br]
  (repeat' (first|with_reducible (first|refine AG (fun _=>?_) fun _=>?_|refine Az ?_)|(with_reducible apply AD;(exact c);intro _ _)|(with_reducible apply AD;(exact jl _);intro _ _)|(with_reducible apply AD;(exact ki _);intro _ _)|(with_reducible apply AD;(exact di _ a);intro _ _)|(with_reducible apply Bl;(exact fun _=>c);intro _)|(with_reducible apply Bl;(exact fun _=>jl _);intro _)|(with_reducible apply Bl;(exact fun _=>ki _);intro _)|(with_reducible apply Bl;(exact fun _=>di _ a);intro _)|with_reducible refine AI ?_ ?_))<;>exact AP
 obtain⟨b,e,_⟩:=q
 exact⟨b,e,fun d=>vh h (d▸e)⟩
theorem kJ(v:Val)(h:SzV v):Ok SzV (XQ v):=by
 dsimp only[XQ,br,wg,lr,AF,br]
 (repeat' (first|with_reducible (first|refine AG (fun _=>?_) fun _=>?_|refine Az ?_)|(with_reducible apply AD;(exact ku _);intro _ _)|(with_reducible apply Bl;(exact fun _=>ku _);intro _)|with_reducible refine AI ?_ ?_))<;>first|exact h|exact⟨h.t,h.l,h.p,h.s,h.r⟩
theorem wV(x:Nt)(h:SzN x):Ok Tr (Xj x):=by
 dsimp only[Xj,wg,lr,cl,AF]
 (repeat' (first|with_reducible (first|refine AG (fun _=>?_) fun _=>?_|refine Az ?_)|(with_reducible apply AD;(exact Ws _);intro _ _)|(with_reducible apply AD;(exact Q8 _ _ h.v);intro _ _)|(with_reducible apply Bl;(exact fun _=>Ws _);intro _)|(with_reducible apply Bl;(exact fun _=>Q8 _ _ h.v);intro _)|with_reducible refine AI ?_ ?_))<;>exact AP
theorem wE(l:List Nt)(n:Int)(h:H5 l):Ok Tr (Xh l n):=by
 obtain⟨b,a⟩:=h
 have q:Ok Ts (Ag (TB l n) Aj 0):=by
  refine Bt (fun v:Nat=>v≤l.length) (fun v:Nat=>l.length-v) (by omega) (BQ (by omega)) fun v c=>?_
  dsimp only[TB,br,ix,Bn,vz,vs,vg,Aw,ln,Af,cl,wa,wi,Am,br]
  (repeat' (first|with_reducible (first|refine AG (fun _=>?_) fun _=>?_|refine Az ?_|refine BK ?_ fun _ _ _=>?_)|(with_reducible apply AD;(exact Ws _);intro _ _)|(with_reducible apply AD;(exact wS _ _);intro _ _)|(with_reducible apply AD;(exact wV _ (a _ (by assumption)));intro _ _)|with_reducible (first|refine FX ?_ fun _=>?_|refine AI ?_ ?_)))<;>exact AP
 dsimp only[Xh,br,vz,lr,lc,Am,br]
 (repeat' (first|with_reducible (first|refine AG (fun _=>?_) fun _=>?_|refine Az ?_)|(with_reducible apply BD;(exact q);all_goals(intro _ _;try dsimp only))|with_reducible refine AI ?_ ?_))<;>exact AP
end Go.Proofs.YtalafnjhcecdpaaGreatDoor
namespace Go.Proofs.YtalafnjhcecdpaaGreatDoor
set_option linter.all false
open Go Go.Eng
theorem D4(d:ByteArray)(l:List Prb)(b:Bool)(n e:Int)(h:l.length<549755813887):Ok (fun y=>l.length≤y.length∧y.length≤l.length+1∧(b=true→l.length+1≤y.length)) (Bq d l b n e):=by
 dsimp only[Bq,VL,ct,vz,vw,wg,lr,lc,ap,B0,fl]
 (repeat' (first|with_reducible (first|refine AG (fun _=>?_) fun _=>?_|refine Az ?_|refine AI ?_ ?_)))<;>first|exact AP|simp_all
theorem Ju(d:ByteArray)(l:List Prb)(x:List Nt)(t n:Int)(h:l.length<549755813887)(hx:H5 x):Ok (fun y=>l.length≤y.length∧y.length≤l.length+1) (Ht d l x t n):=by
 dsimp only[Ht,bl,vz,lr,lc,cl,fl]
 (repeat' (first|with_reducible (first|refine AG (fun _=>?_) fun _=>?_|refine Az ?_)|(with_reducible apply AD;(exact wE _ _ hx);intro _ _)|(with_reducible apply AD;(exact D4 _ _ _ _ _ h);intro _ _)|with_reducible refine AI ?_ ?_))<;>exact AP
theorem q8(d:ByteArray)(l:List Prb)(x:List Spn)(t n:Int)(h:l.length<500000000000)(hx:x.length≤1048576):Ok (fun y=>l.length≤y.length∧y.length≤l.length+2*x.length) (Of d l x t n):=by
 have q:Ok (Sum.elim (fun y:List Prb=>l.length≤y.length∧y.length≤l.length+2*x.length) No) (Ag (Tp d x t n) Aj (0,l)):=by
  refine Bt (fun v:Nat×List Prb=>v.1≤x.length∧l.length≤v.2.length∧v.2.length≤l.length+2*v.1) (fun v:Nat×List Prb=>x.length-v.1) ⟨by omega,by simp,by simp⟩ (BQ (by omega)) fun v e=>?_
  obtain⟨i,r⟩:=v
  obtain⟨a,b,c⟩:=e
  dsimp only at a b c
  dsimp only[Tp,a6,bQ,br,ix,Bn,vz,vs,vg,ln,Af,lc,wa,wi,fl,Am,br]
  (repeat' (first|with_reducible (first|refine AG (fun _=>?_) fun _=>?_|refine Az ?_|refine BK ?_ fun _ _ _=>?_)|(with_reducible apply AD;(exact D4 _ _ _ _ _ (by omega));intro _ _)|with_reducible (first|refine FX ?_ fun _=>?_|refine AI ?_ ?_)))<;>exact AP
 dsimp only[Of,bW,vz,lr,lc,fl]
 (repeat' (first|with_reducible (first|refine AG (fun _=>?_) fun _=>?_|refine Az ?_)|(with_reducible apply BD;(exact q);all_goals(intro _ _;try dsimp only))|with_reducible refine AI ?_ ?_))<;>exact AP
theorem de(s:Scm)(w:Int)(h:SzS s):Ok (fun y=>y.length≤3145728) (Xr s w):=by
 have a:=h.ml
 have b:=h.el
 have j:=h.wl
 have e:Ok (Sum.elim (fun y:List ByteArray=>y.length≤1048576) No) (Ag (TM s w) Aj ([],0)):=by
  refine Bt (fun v:List ByteArray×Nat=>v.2≤s.messages.length∧v.1.length≤v.2) (fun v:List ByteArray×Nat=>s.messages.length-v.2) ⟨by omega,by simp⟩ (BQ (by omega)) fun v c=>?_
  obtain⟨r,i⟩:=v
  obtain⟨a,b⟩:=c
  dsimp only at a b
  dsimp only[TM,br,ix,vz,vy,vw,wg,vs,v2,ln,Af,ap,wa,fl,Am,br]
  (repeat' (first|with_reducible (first|refine AG (fun _=>?_) fun _=>?_|refine Az ?_|refine BK ?_ fun _ _ _=>?_|refine AI ?_ ?_)))<;>exact AP
 have f:∀r:List ByteArray,r.length≤1048576→Ok (Sum.elim (fun y:List ByteArray=>y.length≤2097152) No) (Ag (Ub s w) Aj (r,0)):=by
  intro r d
  refine Bt (fun v:List ByteArray×Nat=>v.2≤s.enums.length∧v.1.length≤1048576+v.2) (fun v:List ByteArray×Nat=>s.enums.length-v.2) ⟨by omega,by simpa using d⟩ (BQ (by omega)) fun v c=>?_
  obtain⟨r,i⟩:=v
  obtain⟨a,b⟩:=c
  dsimp only at a b
  dsimp only[Ub,br,ix,vz,vy,vw,wg,vs,ln,Af,ap,wa,fl,Am,br]
  (repeat' (first|with_reducible (first|refine AG (fun _=>?_) fun _=>?_|refine Az ?_|refine BK ?_ fun _ _ _=>?_|refine AI ?_ ?_)))<;>exact AP
 have g:∀r:List ByteArray,r.length≤2097152→Ok (Sum.elim (fun y:List ByteArray=>y.length≤3145728) No) (Ag (TG s w) Aj (r,0)):=by
  intro r d
  refine Bt (fun v:List ByteArray×Nat=>v.2≤s.services.length∧v.1.length≤2097152+v.2) (fun v:List ByteArray×Nat=>s.services.length-v.2) ⟨by omega,by simpa using d⟩ (BQ (by omega)) fun v c=>?_
  obtain⟨r,i⟩:=v
  obtain⟨a,b⟩:=c
  dsimp only at a b
  dsimp only[TG,br,ix,vz,vy,vw,wg,vs,ln,Af,ap,wa,fl,Am,br]
  (repeat' (first|with_reducible (first|refine AG (fun _=>?_) fun _=>?_|refine Az ?_|refine BK ?_ fun _ _ _=>?_|refine AI ?_ ?_)))<;>exact AP
 dsimp only[Xr,vz,vw,lr,lc,fl,fr]
 (repeat' (first|with_reducible (first|refine AG (fun _=>?_) fun _=>?_|refine Az ?_)|(with_reducible apply BD;(exact e);all_goals(intro _ _;try dsimp only))|(with_reducible apply BD;(exact f _ (by assumption));all_goals(intro _ _;try dsimp only))|(with_reducible apply BD;(exact g _ (by assumption));all_goals(intro _ _;try dsimp only))|with_reducible refine AI ?_ ?_))<;>exact AP
theorem o63(l:List ByteArray)(h:l.length≤3145728):Ok Tr (Xx l):=by
 have q:Ok Ts (Ag (TX l) Aj 1):=by
  refine Bt (fun v:Nat=>1≤v∧v≤l.length+1) (fun v:Nat=>l.length+1-v) ⟨by omega,by omega⟩ (by unfold Aj;omega) fun v a=>?_
  dsimp only[TX,br,ix,Ct,vz,vs,Aw,ln,Af,wa,wi,Am,br]
  (repeat' (first|with_reducible (first|refine AG (fun _=>?_) fun _=>?_|refine Az ?_|refine BK ?_ fun _ _ _=>?_|refine AI ?_ ?_)))<;>exact AP
 dsimp only[Xx,lr,lc]
 (repeat' (first|with_reducible (first|refine AG (fun _=>?_) fun _=>?_|refine Az ?_)|(with_reducible apply BD;(exact q);all_goals(intro _ _;try dsimp only))|with_reducible refine AI ?_ ?_))<;>exact AP
theorem w7(l:List ByteArray)(x:ByteArray)(h:l.length≤3145728):Ok Tr (Oe l x):=by
 have q:Ok Ts (Ag (Mp l x) Aj 0):=by
  refine Bt (fun v:Nat=>v≤l.length) (fun v:Nat=>l.length-v) (by omega) (by unfold Aj;omega) fun v a=>?_
  dsimp only[Mp,br,ix,vz,vs,Aw,ln,Af,wa,Am,br]
  (repeat' (first|with_reducible (first|refine AG (fun _=>?_) fun _=>?_|refine Az ?_|refine BK ?_ fun _ _ _=>?_|refine AI ?_ ?_)))<;>exact AP
 dsimp only[Oe,lr,lc]
 (repeat' (first|with_reducible (first|refine AG (fun _=>?_) fun _=>?_|refine Az ?_)|(with_reducible apply BD;(exact q);all_goals(intro _ _;try dsimp only))|with_reducible refine AI ?_ ?_))<;>exact AP
theorem qW(l k:List ByteArray)(h:l.length≤3145728)(a:k.length≤3145728):Ok Tr (XO l k):=by
 have q:Ok Ts (Ag (TY l k) Aj 0):=by
  refine Bt (fun v:Nat=>v≤l.length) (fun v:Nat=>l.length-v) (by omega) (by unfold Aj;omega) fun v b=>?_
  dsimp only[TY,br,ix,vz,vs,Aw,ln,Af,cl,wa,Am,br]
  (repeat' (first|with_reducible (first|refine AG (fun _=>?_) fun _=>?_|refine Az ?_|refine BK ?_ fun _ _ _=>?_)|(with_reducible apply AD;(exact w7 _ _ a);intro _ _)|with_reducible refine AI ?_ ?_))<;>exact AP
 dsimp only[XO,lr,lc]
 (repeat' (first|with_reducible (first|refine AG (fun _=>?_) fun _=>?_|refine Az ?_)|(with_reducible apply BD;(exact q);all_goals(intro _ _;try dsimp only))|with_reducible refine AI ?_ ?_))<;>exact AP
def K3(s:Scm)(f:Fld):Prop:=(f.type.kind=9→∃m∈s.enums,m.name=f.type.name)∧(f.type.kind=10→(∃m∈s.messages,m.name=f.type.name)∧f.card≠3)∧1≤f.type.kind∧f.type.kind≤10
theorem q5(s:Scm)(f:Fld)(h:SzS s):Ok (fun b=>b=true→K3 s f) (XS s f):=by
 unfold K3
 dsimp only[XS,br,wg,lr,cl,br]
 (repeat' (first|with_reducible (first|refine AG (fun _=>?_) fun _=>?_|refine Az ?_)|(with_reducible apply AD;(exact WH _ _ h);intro _ _)|(with_reducible apply AD;(exact PI _ _ h);intro _ _)|with_reducible refine AI ?_ ?_))
 ·intro a
  have d:f.type.kind=9:=Y4 (by assumption)
  have e:=(show _<_∧(_→∃m∈s.enums,m.name=f.type.name)by assumption).2 (Y4 a)
  exact⟨fun _=>e,fun k=>by omega,by omega,by omega⟩
 ·intro a
  have c:f.type.kind=10:=Y4 (by assumption)
  rw[Yc]at a
  have e:=(show _<_∧(_→∃m∈s.messages,m.name=f.type.name)by assumption).2 (Y4 a.1)
  exact⟨fun k=>by omega,fun _=>⟨e,by simpa using a.2⟩,by omega,by omega⟩
 ·intro a
  simp only[Yc,YJ]at a
  exact⟨fun k=>by omega,fun k=>by omega,by omega,by omega⟩
def Ni(f:Fld):Prop:=f.union≠⟨#[]⟩→f.card=2
theorem q6(m:Msg)(i:Nat)(h:SzM m)(hi:i<m.fields.length):Ok (fun b=>b=true→∀f,m.fields[i]?=some f→Ni f) (Xi m i):=by
 have hl:=h.fl
 have q:∀e,Ok (Sum.elim (fun b:Bool=>b=true→0<i) Tr) (Ag (S9 m i e) Aj (false,0)):=by
  intro e
  refine Bt (fun v:Bool×Nat=>v.2≤m.fields.length∧(v.1=true→0<i)) (fun v:Bool×Nat=>m.fields.length-v.2) ⟨by omega,by simp⟩ (BQ (by omega)) fun v k=>?_
  obtain⟨b,j⟩:=v
  obtain⟨c,d⟩:=k
  dsimp only at c d
  dsimp only[S9,br,ix,Bn,vz,wg,vs,Aw,ln,Af,wa,Am,br]
  (repeat' (first|with_reducible (first|refine AG (fun _=>?_) fun _=>?_|refine Az ?_|refine BK ?_ fun _ _ _=>?_|refine FX ?_ fun _=>?_|refine AI ?_ ?_)))<;>exact AP
 dsimp only[Xi,br,Ct,Bn,wg,vg,lr,lc,AF,wi,br]
 (repeat' (first|with_reducible (first|refine AG (fun _=>?_) fun _=>?_|refine Az ?_|refine BK ?_ fun _ _ _=>?_)|(with_reducible apply BD;(exact q _);all_goals(intro _ _;try dsimp only))|(with_reducible apply AD;(exact KU _ ((h.f _ (by assumption)).u));intro _ _)|(with_reducible apply Bl;(exact fun _=>KU _ ((h.f _ (by assumption)).u));intro _)|with_reducible (first|refine FX ?_ fun _=>?_|refine AI ?_ ?_)))<;>first|(intro h;cases h;done)|(have he:=‹m.fields[i]?=some _›;intro _ f a;rw[he]at a;cases a;intro g;first|exact absurd (Y4 (by assumption)) g|(simp only[YF,YU,Lb,Vb,YJ,YV]at*;omega)|grind)|exact AP
def Ip(f:Fld):Prop:=f.hasDefault=true→Ng f.type.kind f.dflt∧f.card=2∧f.union=⟨#[]⟩
theorem q7(s:Scm)(f:Fld)(h:SzS s)(a:SzF f):Ok (fun b=>b=true→Ip f) (Xs s f):=by
 have g:SzV (.mk 0 0 ⟨#[]⟩ [] [] [] []):=by constructor<;>decide
 have he:∀y,y∈s.enums→y.items.length≤1048576:=fun y hy=>(h.e y hy).il
 have q:∀y:Int,0≤y→y<s.enums.length→Ok Ts (Ag (Tx s f y) Aj 0):=by
  intro y hy k
  refine Bt (fun v:Nat=>v≤1048576) (fun v:Nat=>1048576-v) (by omega) (BQ (by omega)) fun v l=>?_
  dsimp only[Tx,br,ix,Ct,vz,wg,vs,Aw,ln,Af,wa,Am,br]
  (repeat' (first|with_reducible (first|refine AG (fun _=>?_) fun _=>?_|refine Az ?_|refine BK ?_ fun _ _ _=>?_|refine AI ?_ ?_)))<;>exact AP
 have key:∀(c d:Bool),((!((!decide (f.card=2))||(!decide (f.union=⟨#[]⟩))))=true→c=true→Ng f.type.kind f.dflt)→((((!decide (f.card=2))||(!decide (f.union=⟨#[]⟩)))||!c)||!d)=false→Ip f:=fun c d i j _=>by
  cases c<;>cases d<;>simp_all
 have e:(!f.hasDefault)=true→Ip f:=fun i j=>by simp_all
 dsimp only[Xs,br,wg,lr,lc,cl,AF,br]
 (repeat' (first|with_reducible (first|refine AG (fun _=>?_) fun _=>?_|refine Az ?_)|(with_reducible apply BD;(exact q _ B6 B6);all_goals(intro _ _;try dsimp only))|(with_reducible apply AD;(exact Ri _ _ a.d g);intro _ _)|(with_reducible apply AD;(exact Q8 _ _ a.d);intro _ _)|(with_reducible apply AD;(exact kJ _ a.d);intro _ _)|(with_reducible apply AD;(exact Ri _ _ a.d (by solve_by_elim));intro _ _)|(with_reducible apply AD;(exact WH _ _ h);intro _ _)|(with_reducible apply Bl;(exact fun _=>Ri _ _ a.d g);intro _)|(with_reducible apply Bl;(exact fun _=>Q8 _ _ a.d);intro _)|(with_reducible apply Bl;(exact fun _=>kJ _ a.d);intro _)|(with_reducible apply Bl;(exact fun _=>Ri _ _ a.d (by solve_by_elim));intro _)|(with_reducible apply Bl;(exact fun _=>WH _ _ h);intro _)|with_reducible refine AI ?_ ?_))<;>first|(intro _;exact key _ _ (by assumption) (by assumption))|(intro _;exact e (by assumption))|exact AP
theorem o87(s:Scm)(m:Msg)(l:List Bool)(h:SzS s)(hm:SzM m)(hl:l.length=s.messages.length):Ok Tr (Xt s m l):=by
 have a:=hm.fl
 have q:Ok Ts (Ag (S4 s m l) Aj 0):=by
  refine Bt (fun v:Nat=>v≤m.fields.length) (fun v:Nat=>m.fields.length-v) (by omega) (BQ (by omega)) fun v b=>?_
  dsimp only[S4,br,ix,Bn,vz,wg,vs,Aw,ln,Af,cl,wa,Am,br]
  (repeat' (first|with_reducible (first|refine AG (fun _=>?_) fun _=>?_|refine Az ?_|refine BK ?_ fun _ _ _=>?_)|(with_reducible apply AD;(exact PI _ _ h);intro _ _)|with_reducible (first|refine FX ?_ fun _=>?_|refine AI ?_ ?_)))<;>exact AP
 dsimp only[Xt,lr,lc]
 (repeat' (first|with_reducible (first|refine AG (fun _=>?_) fun _=>?_|refine Az ?_)|(with_reducible apply BD;(exact q);all_goals(intro _ _;try dsimp only))|with_reducible refine AI ?_ ?_))<;>exact AP
theorem iB(s:Scm)(m:Msg)(l:List Bool)(h:SzS s)(hm:SzM m)(hl:l.length=s.messages.length):Ok Tr (Rs s m l):=by
 have a:=hm.fl
 have q:Ok Ts (Ag (Sr s m l) Aj 0):=by
  refine Bt (fun v:Nat=>v≤m.fields.length) (fun v:Nat=>m.fields.length-v) (by omega) (BQ (by omega)) fun v b=>?_
  dsimp only[Sr,br,ix,vz,wg,vs,vg,Aw,ln,Af,cl,wa,AC,EX,fl,Am,br,AC]
  (repeat' (first|with_reducible (first|refine AG (fun _=>?_) fun _=>?_|refine Az ?_|refine BK ?_ fun _ _ _=>?_)|(with_reducible apply AD;(exact PI _ _ h);intro _ _)|with_reducible refine AI ?_ ?_))<;>exact AP
 dsimp only[Rs,vz,lr,lc,fl]
 (repeat' (first|with_reducible (first|refine AG (fun _=>?_) fun _=>?_|refine Az ?_)|(with_reducible apply BD;(exact q);all_goals(intro _ _;try dsimp only))|with_reducible refine AI ?_ ?_))<;>exact AP
theorem qX(s:Scm)(h:SzS s):Ok (fun y=>y.length=s.messages.length) (Xo s):=by
 have g:=h.ml
 have q:∀(v:Nat) (r:List Bool),r.length=s.messages.length→Ok (Sum.elim (fun y:Bool×List Bool=>y.2.length=s.messages.length) No) (Ag (Uf s v) Aj (false,0,r)):=by
  intro w r e
  refine Bt (fun v:Bool×Nat×List Bool=>v.2.1≤s.messages.length∧v.2.2.length=s.messages.length) (fun v:Bool×Nat×List Bool=>s.messages.length-v.2.1) ⟨by simp,e⟩ (BQ (by simp;omega)) fun v d=>?_
  obtain⟨b,i,r⟩:=v
  obtain⟨c,a⟩:=d
  dsimp only at c a
  dsimp only[Uf,br,Bn,vz,vw,wg,vs,v2,ln,Af,CX,wa,ir,ca,st,rn,fl,Am,br]
  (repeat' (first|with_reducible (first|refine AG (fun _=>?_) fun _=>?_|refine Az ?_|refine BK ?_ fun _ _ _=>?_)|(with_reducible apply AD;(exact iB _ _ _ h (h.m _ (by grind)) a);intro _ _)|(with_reducible apply Bl;(exact fun _=>iB _ _ _ h (h.m _ (by grind)) a);intro _)|with_reducible (first|refine FX ?_ fun _=>?_|refine AI ?_ ?_)))<;>exact AP
 have f:Ok (Sum.elim (fun y:List Bool=>y.length=s.messages.length) No) (Ag (TP s) Aj (true,0,List.replicate s.messages.length false)):=by
  refine Bt (fun v:Bool×Nat×List Bool=>v.2.1≤s.messages.length∧v.2.2.length=s.messages.length) (fun v:Bool×Nat×List Bool=>s.messages.length-v.2.1) ⟨by simp,by simp⟩ (BQ (by simp;omega)) fun v d=>?_
  obtain⟨b,i,r⟩:=v
  obtain⟨c,a⟩:=d
  dsimp only at c a
  dsimp only[TP,br,vz,wg,vs,v2,ln,Af,lc,wa,fl,Am,br]
  (repeat' (first|with_reducible (first|refine AG (fun _=>?_) fun _=>?_|refine Az ?_)|(with_reducible apply BD;(exact q _ _ a);all_goals(intro _ _;try dsimp only))|with_reducible refine AI ?_ ?_))<;>exact AP
 dsimp only[Xo,vz,wg,lr,lc,ms,fl,fr,Am]
 (repeat' (first|with_reducible (first|refine AG (fun _=>?_) fun _=>?_|refine Az ?_)|(with_reducible apply BD;(exact f);all_goals(intro _ _;try dsimp only))|with_reducible refine AI ?_ ?_))<;>exact AP
def C6(l:List Fld)(n:Nat):Prop:=∀(i:Nat) (a b:Fld),i+1<n→l[i]?=some a→l[i+1]?=some b→a.num<b.num
theorem ZuM{l:List Fld}{v:Nat}{a b:Fld}(h:C6 l v)(g:l[v]?=some a)(j:0<v→l[v-1]?=some b∧b.num<a.num):C6 l (v+1):=by
 intro i x y hi hx hy
 by_cases e:i+1<v
 ·exact h i x y e hx hy
 ·have d:i+1=v:=by omega
  have f:v-1=i:=by omega
  rw[d]at hy
  obtain⟨c,k⟩:=j (by omega)
  rw[f]at c
  rw[g]at hy
  rw[c]at hx
  cases hx
  cases hy
  exact k
structure GdM0 (s:Scm) (m:Msg):Prop where
 asc:C6 m.fields m.fields.length
 df:∀(j:Nat) (f:Fld),m.fields[j]?=some f→Ip f∧KX f∧K3 s f∧Ni f
def K2(e:Enm):Prop:=∃x,e.items[0]?=some x∧x.num=0
structure GdM (s:Scm) (m:Msg):Prop where
 asc:C6 m.fields m.fields.length
 df:∀(j:Nat) (f:Fld),m.fields[j]?=some f→Ip f∧KX f∧K3 s f∧Ni f
 en:∀(j:Nat) (e:Enm),s.enums[j]?=some e→K2 e
theorem uY(x:Msg):x.fields.length+x.reserved.length+x.gone.length≤An (AO x):=by
 have a:=Cv (e:=Au) x.fields
 have b:=Cv (e:=Cq) x.reserved
 have c:=Cv (e:=AZ) x.gone
 simp only[AO,An,bk]
 omega
theorem u5(x:Enm):x.items.length+x.reserved.length≤An (BO x):=by
 have a:=Cv (e:=CK) x.items
 have b:=Cv (e:=Cq) x.reserved
 simp only[BO,An,bk]
 omega
theorem uT(x:Svc):x.methods.length≤An (C8 x):=by
 have a:=Cv (e:=G4) x.methods
 simp only[C8,An,bk]
 omega
theorem km(d:ByteArray)(b:Bool)(n e:Int):Ok (fun y=>y.length≤1) (Bq d [] b n e):=(D4 d [] b n e (by simp)).mono fun y h=>by simpa using h.2.1
theorem o66(s:Scm)(m:Msg)(l:List Bool)(h:SzS s)(hm:SzM m)(hl:l.length=s.messages.length):Ok (fun y=>y.length≤20*(An (AO m)+1)∧(y.length=0→GdM0 s m)) (Xz s m l):=by
 have g:=uY m
 have G:=hm.fl
 have q:=hm.r
 have B:=hm.gl
 have E:∀(v:Nat) (r:List Prb) (e:Fld),v≤m.fields.length→Ok (Sum.elim Tr No) (Ag (Ui s m l v r e) Aj (false,0)):=by
  intro w r e I
  refine Bt (fun v:Bool×Nat=>v.2≤w) (fun v:Bool×Nat=>w-v.2) (by simp) (BQ (by omega)) fun v k=>?_
  obtain⟨b,i⟩:=v
  dsimp only at k
  dsimp only[Ui,br,ix,vz,wg,vs,ln,Af,wa,fl,br]
  (repeat' (first|with_reducible (first|refine AG (fun _=>?_) fun _=>?_|refine Az ?_|refine BK ?_ fun _ _ _=>?_|refine AI ?_ ?_)))<;>exact AP
 have D:∀a:List Prb,a.length≤9→Ok (Sum.elim (fun y:List Prb=>y.length≤9+10*m.fields.length∧(y.length=0→GdM0 s m)) No) (Ag (Uc s m l) Aj (0,a)):=by
  intro a o
  refine Bt (fun v:Nat×List Prb=>v.1≤m.fields.length∧v.2.length≤9+10*v.1∧(v.2.length=0→C6 m.fields v.1∧∀(j:Nat) (f:Fld),j<v.1→m.fields[j]?=some f→Ip f∧KX f∧K3 s f∧Ni f)) (fun v:Nat×List Prb=>m.fields.length-v.1) ⟨by simp,by simpa using o,fun _=>⟨fun i x y hi=>by simp at hi,fun j f n=>by simp at n⟩⟩ (BQ (by omega)) fun v k=>?_
  obtain⟨v,r⟩:=v
  obtain⟨t,u,c⟩:=k
  dsimp only at t u c
  dsimp only[Uc,a8,bO,bR,bA,bq,VN,VO,br,ix,Bn,vz,wg,vs,vg,ln,Af,lc,cl,AF,wa,wi,fl,Am,br]
  (repeat' (first|with_reducible (first|refine AG (fun _=>?_) fun _=>?_|refine Az ?_|refine BK ?_ fun _ _ _=>?_)|(with_reducible apply BD;(exact E _ _ _ (by omega));all_goals(intro _ _;try dsimp only))|(with_reducible apply AD;(exact D4 _ _ _ _ _ (by omega));intro _ _)|(with_reducible apply AD;(exact KU _ (hm.f _ (by assumption)).n);intro _ _)|(with_reducible apply AD;(exact dh _ _ q);intro _ _)|(with_reducible apply AD;(exact qY _ _ B);intro _ _)|(with_reducible apply AD;(exact qZ _);intro _ _)|(with_reducible apply AD;(exact q5 _ _ h);intro _ _)|(with_reducible apply AD;(exact q6 _ _ hm B6);intro _ _)|(with_reducible apply AD;(exact q7 _ _ h (hm.f _ (by assumption)));intro _ _)|(with_reducible apply AD;(exact Ju _ _ _ _ _ (by omega) (hm.f _ (by assumption)).o);intro _ _)|(with_reducible apply Bl;(exact fun _=>D4 _ _ _ _ _ (by omega));intro _)|(with_reducible apply Bl;(exact fun _=>KU _ (hm.f _ (by assumption)).n);intro _)|(with_reducible apply Bl;(exact fun _=>dh _ _ q);intro _)|(with_reducible apply Bl;(exact fun _=>qY _ _ B);intro _)|(with_reducible apply Bl;(exact fun _=>qZ _);intro _)|(with_reducible apply Bl;(exact fun _=>q5 _ _ h);intro _)|(with_reducible apply Bl;(exact fun _=>q6 _ _ hm B6);intro _)|(with_reducible apply Bl;(exact fun _=>q7 _ _ h (hm.f _ (by assumption)));intro _)|(with_reducible apply Bl;(exact fun _=>Ju _ _ _ _ _ (by omega) (hm.f _ (by assumption)).o);intro _)|with_reducible (first|refine FX ?_ fun _=>?_|refine AI ?_ ?_)))
  all_goals try exact B6
  have hx:=‹decide (0<(v:Int))=true→m.fields[((v:Int)-1).toNat]?=some (m.fields.getD ((v:Int)-1).toNat Rw.z)∧_›
  have he:=‹m.fields[v]?=some _›
  dsimp only
  refine⟨⟨by exact B6,by omega,fun p=>⟨ZuM (b:=m.fields.getD ((v:Int)-1).toNat Rw.z) (c (by omega)).1 he fun k=>?_,fun j f n d=>?_⟩⟩,by exact B6⟩
  have ev:((v:Int)-1).toNat=v-1:=by omega
  refine⟨ev▸(hx (Yo (by omega))).1,?_⟩
  rcases Int.lt_or_le (m.fields.getD ((v:Int)-1).toNat Rw.z).num (Fld.num _)with A|z
  ·exact A
  ·exfalso
   have H:=Yc _ _▸And.intro (Yo (show(0:Int)<v by omega)) (Yo z)
   grind
  ·rcases Nat.lt_or_eq_of_le (Nat.le_of_lt_succ n)with n|rfl
   ·exact(c (by omega)).2 j f n d
   ·rw[he]at d
    cases d
    refine⟨(show _=true→Ip _ by assumption) (Nm fun g=>?_),(show _=true→KX _ by assumption) (Nm fun g=>?_),(show _=true→K3 s _ by assumption) (Nm fun g=>?_),(show _=true→∀f,m.fields[j]?=some f→Ni f by assumption) (Nm fun g=>?_) _ he⟩
    all_goals(
     rw[Bool.not_eq_true]at g
     subst g
     simp only[Y1,Nu]at*
     omega)
  have C:v=m.fields.length:=by exact B6
  subst C
  exact⟨by exact B6,fun p=>⟨(c p).1,fun j f d=>(c p).2 j f (Yf.1 d).1 d⟩⟩
 have F:∀a:List Prb,a.length≤20000000→Ok (Sum.elim (fun y:List Prb=>a.length≤y.length∧y.length≤a.length+m.gone.length) No) (Ag (Uk s m l) Aj (0,a)):=by
  intro a o
  refine Bt (fun v:Nat×List Prb=>v.1≤m.gone.length∧v.2.length≤a.length+v.1∧a.length≤v.2.length) (fun v:Nat×List Prb=>m.gone.length-v.1) ⟨by simp,by simp,by simp⟩ (BQ (by omega)) fun v k=>?_
  obtain⟨v,r⟩:=v
  obtain⟨t,u,c⟩:=k
  dsimp only at t u c
  dsimp only[Uk,br,ix,vz,wg,vs,ln,Af,lc,cl,wa,fl,Am,br]
  (repeat' (first|with_reducible (first|refine AG (fun _=>?_) fun _=>?_|refine Az ?_|refine BK ?_ fun _ _ _=>?_)|(with_reducible apply AD;(exact D4 _ _ _ _ _ (by omega));intro _ _)|(with_reducible apply AD;(exact di _ (hm.g _ (by assumption)));intro _ _)|with_reducible refine AI ?_ ?_))<;>exact AP
 dsimp only[Xz,vz,vy,vw,wg,lr,lc,cl,fl,fr,Am]
 (repeat' (first|with_reducible (first|refine AG (fun _=>?_) fun _=>?_|refine Az ?_)|(with_reducible apply BD;(exact D _ B6);all_goals(intro _ _;try dsimp only))|(with_reducible apply BD;(exact F _ (by omega));all_goals(intro _ _;try dsimp only))|(with_reducible apply AD;(exact dg _ hm.n);intro _ _)|(with_reducible apply AD;(exact km _ _ _ _);intro _ _)|(with_reducible apply AD;(exact D4 _ _ _ _ _ (by omega));intro _ _)|(with_reducible apply AD;(exact Ju _ _ _ _ _ (by omega) hm.o);intro _ _)|(with_reducible apply AD;(exact q8 _ _ _ _ _ (by omega) q);intro _ _)|(with_reducible apply AD;(exact o87 _ _ _ h hm hl);intro _ _)|with_reducible refine AI ?_ ?_))<;>exact AP
theorem o67(e:Enm)(hm:SzE e):Ok (fun y=>y.length≤20*(An (BO e)+1)∧(y.length=0→K2 e)) (XP e):=by
 have z:=u5 e
 have u:=hm.il
 have g:=hm.r
 have q:∀(v:Nat) (r:List Prb) (x:Itm),v≤e.items.length→Ok (Sum.elim Tr No) (Ag (TJ e v r x) Aj (false,0)):=by
  intro w r x A
  refine Bt (fun v:Bool×Nat=>v.2≤w) (fun v:Bool×Nat=>w-v.2) (by simp) (BQ (by omega)) fun v f=>?_
  obtain⟨b,i⟩:=v
  dsimp only at f
  dsimp only[TJ,br,ix,vz,wg,vs,ln,Af,wa,fl,br]
  (repeat' (first|with_reducible (first|refine AG (fun _=>?_) fun _=>?_|refine Az ?_|refine BK ?_ fun _ _ _=>?_|refine AI ?_ ?_)))<;>exact AP
 have p:∀a:List Prb,a.length≤9→Ok (Sum.elim (fun y:List Prb=>a.length≤y.length∧y.length≤9+10*e.items.length) No) (Ag (Ud e) Aj (0,a)):=by
  intro a d
  refine Bt (fun v:Nat×List Prb=>v.1≤e.items.length∧a.length≤v.2.length∧v.2.length≤9+10*v.1) (fun v:Nat×List Prb=>e.items.length-v.1) ⟨by simp,by simp,by simpa using d⟩ (BQ (by omega)) fun v f=>?_
  obtain⟨v,r⟩:=v
  obtain⟨m,o,n⟩:=f
  dsimp only at m n o
  dsimp only[Ud,bU,bE,cu,br,ix,Bn,vz,wg,vs,vg,ln,Af,lc,cl,wa,wi,fl,Am,br]
  (repeat' (first|with_reducible (first|refine AG (fun _=>?_) fun _=>?_|refine Az ?_|refine BK ?_ fun _ _ _=>?_)|(with_reducible apply BD;(exact q _ _ _ (by omega));all_goals(intro _ _;try dsimp only))|(with_reducible apply AD;(exact D4 _ _ _ _ _ (by omega));intro _ _)|(with_reducible apply AD;(exact KU _ (hm.i _ (by assumption)).n);intro _ _)|(with_reducible apply AD;(exact dh _ _ g);intro _ _)|(with_reducible apply AD;(exact Ju _ _ _ _ _ (by omega) (hm.i _ (by assumption)).o);intro _ _)|with_reducible (first|refine FX ?_ fun _=>?_|refine AI ?_ ?_)))<;>exact AP
 dsimp only[XP,Bn,vz,vy,vw,wg,lr,lc,cl,fl,fr,Am]
 (repeat' (first|with_reducible (first|refine AG (fun _=>?_) fun _=>?_|refine Az ?_)|(with_reducible apply BD;(exact p _ B6);all_goals(intro _ _;try dsimp only))|(with_reducible apply AD;(exact dg _ hm.n);intro _ _)|(with_reducible apply AD;(exact D4 _ _ _ _ _ B6);intro _ _)|(with_reducible apply AD;(exact Ju _ _ _ _ _ (by omega) hm.o);intro _ _)|(with_reducible apply AD;(exact q8 _ _ _ _ _ (by omega) g);intro _ _)|with_reducible (first|refine FX ?_ fun _=>?_|refine AI ?_ ?_)))
 all_goals try exact AP
 rename_i B a0 C a1 D k x E a3 b a4 F a5 G s
 refine⟨by exact B6,fun t=>?_⟩
 have l:¬(e.items.length:Int)<1:=fun h=>by
  have:=k.2.2 (by simp only[h,Yv,Iw])
  omega
 have j:(0:Int)<e.items.length:=by omega
 refine⟨_,(x (Yo j)).1,Decidable.not_not.1 fun c=>?_⟩
 have:=a3.2.2 (by simp only[j,c,Yv,YK,Y1,Jz])
 omega
theorem o68(s:Scm)(e:Svc)(h:SzS s)(hm:SzW e):Ok (fun y=>y.length≤20*(An (C8 e)+1)) (XC s e):=by
 have j:=uT e
 have i:=hm.ml
 have g:∀b:List Prb,b.length≤9→Ok (Sum.elim (fun y:List Prb=>y.length≤9+10*e.methods.length) No) (Ag (T8 s e) Aj (0,b)):=by
  intro b a
  refine Bt (fun v:Nat×List Prb=>v.1≤e.methods.length∧v.2.length≤9+10*v.1) (fun v:Nat×List Prb=>e.methods.length-v.1) ⟨by simp,by simpa using a⟩ (BQ (by omega)) fun v f=>?_
  obtain⟨v,r⟩:=v
  obtain⟨c,d⟩:=f
  dsimp only at c d
  dsimp only[T8,Vu,br,ix,Bn,vz,wg,vs,vg,ln,Af,lc,cl,AF,wa,wi,fl,Am,br]
  (repeat' (first|with_reducible (first|refine AG (fun _=>?_) fun _=>?_|refine Az ?_|refine BK ?_ fun _ _ _=>?_)|(with_reducible apply AD;(exact D4 _ _ _ _ _ (by omega));intro _ _)|(with_reducible apply AD;(exact PI _ _ h);intro _ _)|(with_reducible apply AD;(exact KU _ (hm.m _ (by assumption)).n);intro _ _)|(with_reducible apply AD;(exact Ju _ _ _ _ _ (by omega) (hm.m _ (by assumption)).o);intro _ _)|(with_reducible apply Bl;(exact fun _=>D4 _ _ _ _ _ (by omega));intro _)|(with_reducible apply Bl;(exact fun _=>PI _ _ h);intro _)|(with_reducible apply Bl;(exact fun _=>KU _ (hm.m _ (by assumption)).n);intro _)|(with_reducible apply Bl;(exact fun _=>Ju _ _ _ _ _ (by omega) (hm.m _ (by assumption)).o);intro _)|with_reducible (first|refine FX ?_ fun _=>?_|refine AI ?_ ?_)))<;>exact AP
 dsimp only[XC,vz,vw,wg,lr,lc,cl,fl,fr,Am]
 (repeat' (first|with_reducible (first|refine AG (fun _=>?_) fun _=>?_|refine Az ?_)|(with_reducible apply BD;(exact g _ B6);all_goals(intro _ _;try dsimp only))|(with_reducible apply AD;(exact dg _ hm.n);intro _ _)|(with_reducible apply AD;(exact km _ _ _ _);intro _ _)|(with_reducible apply AD;(exact D4 _ _ _ _ _ (by omega));intro _ _)|(with_reducible apply AD;(exact Ju _ _ _ _ _ (by omega) hm.o);intro _ _)|with_reducible refine AI ?_ ?_))<;>exact AP
structure Few (s:Scm):Prop where
 m:s.messages.length≤150
 e:s.enums.length≤150
 w:s.services.length≤150
theorem o37{s:Scm}(hs:An (At s)≤1048576):Ok (fun y=>y.length=0→(∀(i:Nat) (m:Msg),s.messages[i]?=some m→GdM0 s m)∧∀(i:Nat) (e:Enm),s.enums[i]?=some e→K2 e) (XT s):=by
 have h:=Hf hs
 have u:=h.ml
 have w:=h.el
 have x:=h.wl
 have t:AH (s.messages.map AO)+AH (s.enums.map BO)+AH (s.services.map C8)≤1048576:=by
  simp only[At,An,bk]at hs
  omega
 have n:Ok (Sum.elim (fun y:List Prb=>y.length≤9) No) (Ag (TL s) Aj (1,[])):=by
  refine Bt (fun v:Nat×List Prb=>1≤v.1∧v.1≤4∧v.2.length≤2*v.1) (fun v:Nat×List Prb=>4-v.1) ⟨by simp,by simp,by simp⟩ (BQ (by omega)) fun v g=>?_
  obtain⟨v,r⟩:=v
  obtain⟨c,d,f⟩:=g
  dsimp only at c d f
  dsimp only[TL,br,vz,wg,vs,ln,Af,lc,cl,wa,fl,Am,br]
  (repeat' (first|with_reducible (first|refine AG (fun _=>?_) fun _=>?_|refine Az ?_)|(with_reducible apply AD;(exact de _ _ h);intro _ _)|(with_reducible apply AD;(exact D4 _ _ _ _ _ (by omega));intro _ _)|(with_reducible apply AD;(exact o63 _ (by assumption));intro _ _)|with_reducible refine AI ?_ ?_))<;>exact AP
 have o:∀(a:List Prb) (l:List Bool),a.length≤10→l.length=s.messages.length→Ok (Sum.elim (fun y:List Prb=>y.length≤20971540∧(y.length=0→∀(i:Nat) (m:Msg),s.messages[i]?=some m→GdM0 s m)) No) (Ag (Ug s l) Aj (0,a)):=by
  intro a l b hl
  refine Bt (fun v:Nat×List Prb=>v.1≤s.messages.length∧v.2.length≤10+20*AH ((s.messages.take v.1).map AO)∧(v.2.length=0→∀(i:Nat) (m:Msg),i<v.1→s.messages[i]?=some m→GdM0 s m)) (fun v:Nat×List Prb=>s.messages.length-v.1) ⟨by simp,D8 b (Qg _ _),fun _ i m hi=>by simp at hi⟩ (BQ (by omega)) fun v g=>?_
  obtain⟨v,r⟩:=v
  obtain⟨c,d,f⟩:=g
  dsimp only at c d f
  have a1:=Ma AO s.messages v
  have j:=Ma AO s.messages (v+1)
  dsimp only[Ug,cm,VB,br,ix,vz,wg,vs,ln,Af,lc,aq,cl,wa,tw,fl,Am,br]
  (repeat' (first|with_reducible (first|refine AG (fun _=>?_) fun _=>?_|refine Az ?_|refine BK ?_ fun _ _ _=>?_)|(with_reducible apply AD;(exact o66 _ _ _ h (h.m _ (by assumption)) hl);intro _ _)|with_reducible refine AI ?_ ?_))<;>first|(have a3:=R7 AO ‹s.messages[v]?=some _›;exact AP)|exact AP
 have p:∀a:List Prb,a.length≤20971540→Ok (Sum.elim (fun y:List Prb=>a.length≤y.length∧y.length≤41943080∧(y.length=0→∀(i:Nat) (e:Enm),s.enums[i]?=some e→K2 e)) No) (Ag (TW s) Aj (0,a)):=by
  intro a b
  refine Bt (fun v:Nat×List Prb=>v.1≤s.enums.length∧v.2.length≤20971540+20*AH ((s.enums.take v.1).map BO)∧a.length≤v.2.length∧(v.2.length=0→∀(i:Nat) (e:Enm),i<v.1→s.enums[i]?=some e→K2 e)) (fun v:Nat×List Prb=>s.enums.length-v.1) ⟨by simp,D8 b (Qg _ _),by simp,fun _ i e hi=>by simp at hi⟩ (BQ (by omega)) fun v g=>?_
  obtain⟨v,r⟩:=v
  obtain⟨c,d,f,k⟩:=g
  dsimp only at c d f k
  have a1:=Ma BO s.enums v
  have j:=Ma BO s.enums (v+1)
  dsimp only[TW,bp,bV,br,ix,vz,wg,vs,ln,Af,lc,aq,cl,wa,tw,fl,Am,br]
  (repeat' (first|with_reducible (first|refine AG (fun _=>?_) fun _=>?_|refine Az ?_|refine BK ?_ fun _ _ _=>?_)|(with_reducible apply AD;(exact o67 _ (h.e _ (by assumption)));intro _ _)|with_reducible refine AI ?_ ?_))<;>first|(have a3:=R7 BO ‹s.enums[v]?=some _›;exact AP)|exact AP
 have q:∀a:List Prb,a.length≤41943080→Ok (Sum.elim (fun y:List Prb=>a.length≤y.length) No) (Ag (T5 s) Aj (0,a)):=by
  intro a b
  refine Bt (fun v:Nat×List Prb=>v.1≤s.services.length∧v.2.length≤41943080+20*AH ((s.services.take v.1).map C8)∧a.length≤v.2.length) (fun v:Nat×List Prb=>s.services.length-v.1) ⟨by simp,D8 b (Qg _ _),by simp⟩ (BQ (by omega)) fun v g=>?_
  obtain⟨v,r⟩:=v
  obtain⟨c,d,f⟩:=g
  dsimp only at c d f
  have a1:=Ma C8 s.services v
  have j:=Ma C8 s.services (v+1)
  dsimp only[T5,bH,bv,br,ix,vz,wg,vs,ln,Af,lc,aq,cl,wa,tw,fl,Am,br]
  (repeat' (first|with_reducible (first|refine AG (fun _=>?_) fun _=>?_|refine Az ?_|refine BK ?_ fun _ _ _=>?_)|(with_reducible apply AD;(exact o68 _ _ h (h.w _ (by assumption)));intro _ _)|with_reducible refine AI ?_ ?_))<;>first|(have a3:=R7 C8 ‹s.services[v]?=some _›;exact AP)|exact AP
 dsimp only[XT,vz,vw,wg,lr,lc,cl,AF,fl,fr]
 (repeat' (first|with_reducible (first|refine AG (fun _=>?_) fun _=>?_|refine Az ?_)|(with_reducible apply BD;(exact n);all_goals(intro _ _;try dsimp only))|(with_reducible apply BD;(exact o _ _ (by omega) (by assumption));all_goals(intro _ _;try dsimp only))|(with_reducible apply BD;(exact p _ (by omega));all_goals(intro _ _;try dsimp only))|(with_reducible apply BD;(exact q _ (by omega));all_goals(intro _ _;try dsimp only))|(with_reducible apply AD;(exact de _ _ h);intro _ _)|(with_reducible apply AD;(exact qW _ _ (by assumption) (by assumption));intro _ _)|(with_reducible apply AD;(exact qX _ h);intro _ _)|(with_reducible apply AD;(exact D4 _ _ _ _ _ (by omega));intro _ _)|(with_reducible apply Bl;(exact fun _=>de _ _ h);intro _)|(with_reducible apply Bl;(exact fun _=>qW _ _ (by assumption) (by assumption));intro _)|(with_reducible apply Bl;(exact fun _=>qX _ h);intro _)|(with_reducible apply Bl;(exact fun _=>D4 _ _ _ _ _ (by omega));intro _)|with_reducible refine AI ?_ ?_))<;>exact AP
theorem o16{s:Scm}(hs:An (At s)≤1048576):Ok (fun b=>b=true→∀(i:Nat) (m:Msg),s.messages[i]?=some m→GdM s m) (Ry s):=by
 have k:Ok (fun b=>b=true→(∀(i:Nat) (m:Msg),s.messages[i]?=some m→GdM0 s m)∧∀(i:Nat) (e:Enm),s.enums[i]?=some e→K2 e) (Ry s):=by
  dsimp only[Ry,vz,wg,lr,cl,Am]
  (repeat' (first|with_reducible (first|refine AG (fun _=>?_) fun _=>?_|refine Az ?_)|(with_reducible apply AD;(exact o37 hs);intro _ _)|with_reducible refine AI ?_ ?_))<;>exact AP
 exact k.mono fun b h a i m hm=>⟨((h a).1 i m hm).asc,((h a).1 i m hm).df,(h a).2⟩
abbrev AU(v:Val):Prop:=An (Ah v)≤1048576
theorem PC{v x:Val}(h:AU v)(hx:x∈v.list):AU x:=by
 have a:=Dg (e:=AJ) hx
 rw[F2]at a
 unfold AU at*
 conv at h=>unfold Ah
 simp only[An,bk]at h
 omega
theorem GN{v:Val}{x:Pr}(h:AU v)(hx:x∈v.pairs):AU x.key∧AU x.val:=by
 have a:=Dg (e:=Ap) hx
 have e:Ap x=Ah x.key++Ah x.val:=by rw[Ka];rfl
 rw[e,Mj]at a
 unfold AU at*
 conv at h=>unfold Ah
 simp only[An,bk]at h
 omega
theorem Kb{v:Val}{x:Slt}(h:AU v)(hx:x∈v.slots):AU x.val:=by
 have a:=Dg (e:=Ao) hx
 have e:Ao x=D.int .i64 x.num::Ah x.val:=by rw[J5];rfl
 rw[e,An]at a
 unfold AU at*
 conv at h=>unfold Ah
 simp only[An,bk]at h
 omega
theorem Z1{α:Type}(p:α→Bool):∀l:List α,l.find? p=(l.findIdx? p).bind fun i=>l[i]?
 |[]=>rfl
 |x::l=>by
  rw[List.find?_cons,List.findIdx?_cons]
  cases h:p x with
  |true=>simp
  |false=>
   rw[Z1 p l]
   cases List.findIdx? p l<;>simp
def Dj{α:Type}[Inhabited α](l:List α)(z:α)(p:α→Bool):α×Bool:=(l.find? p).elim (z,false) fun x=>(x,true)
theorem aX{α:Type}[Inhabited α](l:List α)(z:α)(p:α→Bool):Dj l z p=match l.findIdx? p with|some i=>(l.getD i default,true)|none=>(z,false):=by
 unfold Dj
 rw[Z1]
 cases h:l.findIdx? p with
 |none=>rfl
 |some i=>
  have:=(UV.1 h).1
  simp[this]
def zM:Msg:=.mk ⟨#[]⟩ [] [] [] []
def zF:Fld:=.mk 0 ⟨#[]⟩ 0 0 (.mk 0 ⟨#[]⟩) ⟨#[]⟩ false (.mk 0 0 ⟨#[]⟩ [] [] [] []) []
theorem m84(l:List Msg)(n:ByteArray)(h:l.length≤1048576):Rt l (fun z=>L0 z n)=some (Dj l zM fun m=>decide (m.name=n)):=by
 have c:=IF (B:=Py l fun z=>L0 z n) (N:=Aj) l (fun m=>decide (m.name=n)) (fun i=>(l.getD i default,true)) () (fun i x hx=>by
  have a:=B9 hx
  have d:=(Yf.1 hx).1
  have b:i+1<9223372036854775808:=by omega
  have e:L0 x n=some (decide (x.name=n)):=rfl
  dsimp only[Py,br,ix,wg,vs,Aw,ln,Af,cf,wa,br]
  simp only[a,b,hx,e,Yv,Yy,Yd,Yj,YS]
  cases decide (x.name=n)<;>simp) (by simp[Py,br,ix,wg,vs,Aw,ln,Af,cf,wa,br]) (A6 (by omega))
 dsimp only[Rt,vz,wg,lr,lc,Am]
 rw[c,aX]
 cases l.findIdx? fun m=>decide (m.name=n)<;>rfl
theorem aK{s:Scm}(h:SzS s)(n:ByteArray):(Dj s.messages zM fun m=>decide (m.name=n)).1.fields.length≤1048576:=by
 unfold Dj
 cases e:s.messages.find? fun m=>decide (m.name=n)with
 |none=>simp[zM]
 |some m=>exact(h.m _ (Nn e)).fl
theorem fI{v x:Val}(hx:x∈v.list):An (Ah x)<An (Ah v):=by
 have a:=Dg (e:=AJ) hx
 rw[F2]at a
 conv=>rhs;unfold Ah
 simp only[An,bk]
 omega
theorem VG{v:Val}{x:Pr}(hx:x∈v.pairs):An (Ah x.key)<An (Ah v)∧An (Ah x.val)<An (Ah v):=by
 have b:=Dg (e:=Ap) hx
 have e:Ap x=Ah x.key++Ah x.val:=by rw[Ka];rfl
 rw[e,Mj]at b
 have a:An (Ah v)=An [.int .i64 v.kind,.int .u64 v.bits,.str v.text,.list (v.list.map AJ),.list (v.pairs.map Ap),.list (v.slots.map Ao),.list (v.raws.map AA)]:=rfl
 rw[a]
 simp only[An,bk]
 omega
theorem iO{v:Val}{x:Slt}(hx:x∈v.slots):An (Ah x.val)<An (Ah v):=by
 have a:=Dg (e:=Ao) hx
 have e:Ao x=D.int .i64 x.num::Ah x.val:=by rw[J5];rfl
 rw[e,An]at a
 have b:An (Ah v)=An [.int .i64 v.kind,.int .u64 v.bits,.str v.text,.list (v.list.map AJ),.list (v.pairs.map Ap),.list (v.slots.map Ao),.list (v.raws.map AA)]:=rfl
 rw[b]
 simp only[An,bk]at a⊢
 omega
def BX(F:List Fld)(k:Int):Fld×Bool:=Dj F zF fun f=>decide (f.num=k)
def AS(F:List Fld)(k:Int):Fld:=(BX F k).1
def Bf(s:Scm)(n:ByteArray):List Fld:=(Dj s.messages zM fun m=>decide (m.name=n)).1.fields
theorem da(s:Scm)(n:ByteArray)(h:s.messages.length≤1048576):L3 s n=some (Dj s.messages zM fun m=>decide (m.name=n)):=by
 dsimp only[L3,wg,lr,cs]
 rw[m84 _ _ h]
 rfl
theorem n74(l:List Fld)(k:Int)(h:l.length≤1048576):RJ l (fun z=>LV z k)=some (BX l k):=by
 have c:=IF (B:=Pj l fun z=>LV z k) (N:=Aj) l (fun f=>decide (f.num=k)) (fun i=>(l.getD i default,true)) () (fun i x hx=>by
  have a:=B9 hx
  have d:=(Yf.1 hx).1
  have b:i+1<9223372036854775808:=by omega
  have e:LV x k=some (decide (x.num=k)):=rfl
  dsimp only[Pj,br,ix,wg,vs,Aw,ln,Af,cf,wa,br]
  simp only[a,b,hx,e,Yv,Yy,Yd,Yj,YS]
  cases decide (x.num=k)<;>simp) (by simp[Pj,br,ix,wg,vs,Aw,ln,Af,cf,wa,br]) (A6 (by omega))
 dsimp only[RJ,vz,wg,lr,lc,Am]
 unfold BX
 rw[c,aX]
 cases l.findIdx? fun m=>decide (m.num=k)<;>rfl
theorem cZ(m:Msg)(k:Int)(h:m.fields.length≤1048576):Zm m k=some (BX m.fields k):=by
 dsimp only[Zm,wg,lr,cs]
 rw[n74 _ _ h]
 rfl
def Hd{α:Type}(l:List α)(p:α→Bool):Int:=match l.findIdx? p with
 |some i=>(i:Int)
 |none=>-1
theorem ZzW{α:Type}(l:List α)(p:α→Bool):decide (0≤Hd l p)=l.any p:=by
 unfold Hd
 rw[←Qb]
 cases l.findIdx? p with
 |none=>rfl
 |some i=>simp
theorem n70(l:List Slt)(f:Slt→Option Bool)(p:Slt→Bool)(d:∀x∈l,f x=some (p x))(h:l.length<4611686018427387904):RF l f=some (Hd l p):=by
 have e:=IF (B:=OW l f) (N:=Aj) l p (fun i=>(i:Int)) () (fun i x hx=>by
  have a:=B9 hx
  have g:=(Yf.1 hx).1
  have b:i+1<9223372036854775808:=by omega
  have c:=d x (Yn hx)
  dsimp only[OW,br,ix,vs,Aw,ln,Af,cf,wa,br]
  simp only[a,b,c,hx,Yv,Yy,Yd]
  cases p x<;>simp) (by simp[OW,br,ix,vs,Aw,ln,Af,cf,wa,br]) (A6 h)
 dsimp only[RF,vz,lr,lc,Am]
 rw[e]
 unfold Hd
 cases l.findIdx? p<;>rfl
def Du(l:List Slt)(k:Int):Bool:=l.any fun x=>decide (x.num=k)
theorem u7{v:Val}{x:Raw}(h:AU v)(hx:x∈v.raws):x.data.size≤1048576:=by
 have a:=Dg (e:=AA) hx
 unfold AU at h
 conv at h=>unfold Ah
 simp only[An,bk,AA]at h a
 omega
theorem Sn{F:List Fld}{k:Int}(h:(BX F k).2=true):(AS F k).num=k:=by
 unfold AS BX Dj at*
 cases e:F.find? fun f=>decide (f.num=k)with
 |none=>rw[e]at h;cases h
 |some f=>exact Y4 (p:=f.num=k) (List.find?_some (p:=fun f:Fld=>decide (f.num=k)) e)
def BW{α:Type}(f:Nat→α→Int):List α→Nat→Int
 |[],_=>0
 |x::l,i=>if f i x=0 then BW f l (i+1)else f i x
theorem Ml{α:Type}(f:Nat→α→Int):∀(l:List α) (i:Nat),BW f l i=0↔∀(j:Nat) (x:α),l[j]?=some x→f (i+j) x=0
 |[],i=>by simp[BW]
 |x::l,i=>by
  unfold BW
  have a:=Ml f l (i+1)
  by_cases h:f i x=0
  ·rw[Yk h,a]
   constructor
   ·intro k j y hy
    cases j with
    |zero=>cases hy;exact h
    |succ j=>have:=k j y hy;rw[show i+(j+1)=i+1+j by omega];exact this
   ·intro k j y hy
    have:=k (j+1) y hy
    rw[show i+(j+1)=i+1+j by omega]at this
    exact this
  ·rw[Yi h]
   exact⟨fun e=>absurd e h,fun k=>k 0 x rfl⟩
theorem OG{α ξ ρ:Type}{B:Nat→Option (Lv Nat ξ ρ)}{N:Nat}(l:List α)(f:Nat→α→Int)(r:Int→ρ)(e:ξ)
  (hs:∀(i:Nat) (x:α),l[i]?=some x→(∀(j:Nat) (y:α),j<i→l[j]?=some y→f j y=0)→B i=some (if f i x=0 then .nx (i+1)else .rt (r (f i x))))
  (he:B l.length=some (.ex e)) (hN:l.length<N):Ag B N 0=some (if BW f l 0=0 then .inl e else .inr (r (BW f l 0))):=by
 suffices H:∀k i N,i+k=l.length→(∀(j:Nat) (y:α),j<i→l[j]?=some y→f j y=0)→k<N→Ag B N i=some (if BW f (l.drop i) i=0 then .inl e else .inr (r (BW f (l.drop i) i)))by
  have:=H l.length 0 N (by omega) (fun j y c=>absurd c (by omega)) hN
  rwa [Hl]at this
 intro k
 induction k with
 |zero=>
  intro i N hi _ hN
  obtain⟨N,rfl⟩:∃m,N=m+1:=⟨N-1,by omega⟩
  have:i=l.length:=by omega
  subst this
  rw[Ag,he,NA]
  rfl
 |succ k d=>
  intro i N hi b hN
  obtain⟨N,rfl⟩:∃m,N=m+1:=⟨N-1,by omega⟩
  have a:i<l.length:=by omega
  rw[Ag,hs i l[i] (Ya a) b,GA a,BW]
  by_cases h:f i l[i]=0
  ·rw[Yk h,Yk h]
   refine d (i+1) N (by omega) (fun j y c hy=>?_) (by omega)
   by_cases e:j=i
   ·subst e
    rw[Ya a]at hy
    cases hy
    exact h
   ·exact b j y (by omega) hy
  ·rw[Yi h,Yi h,Yi h]
def BA(v:Val):Bool:=decide ((v.kind≠11∧0<v.list.length)∨(v.kind≠12∧0<v.pairs.length)∨(v.kind≠10∧(0<v.slots.length∨0<v.raws.length))∨(v.text≠⟨#[]⟩∧¬(v.kind=7∨v.kind=8))∨(v.bits≠0∧(v.kind=7∨v.kind=8∨v.kind=10∨v.kind=11∨v.kind=12)))
def Dy(x:ByteArray)(p:Nat)(lo hi:Nat):Bool:=decide (p<x.size)&&decide (lo≤(x.get! p).toNat)&&decide ((x.get! p).toNat≤hi)
def CM(x:ByteArray)(p:Nat):Nat:=
 let b:=(x.get! p).toNat
 if b<0x80 then 1
 else if 0xc2≤b∧b≤0xdf∧Dy x (p+1) 0x80 0xbf=true then 2
 else if b=0xe0∧Dy x (p+1) 0xa0 0xbf=true∧Dy x (p+2) 0x80 0xbf=true then 3
 else if b=0xed∧Dy x (p+1) 0x80 0x9f=true∧Dy x (p+2) 0x80 0xbf=true then 3
 else if 0xe1≤b∧b≤0xef∧b≠0xed∧Dy x (p+1) 0x80 0xbf=true∧Dy x (p+2) 0x80 0xbf=true then 3
 else if b=0xf0∧Dy x (p+1) 0x90 0xbf=true∧Dy x (p+2) 0x80 0xbf=true∧Dy x (p+3) 0x80 0xbf=true then 4
 else if 0xf1≤b∧b≤0xf3∧Dy x (p+1) 0x80 0xbf=true∧Dy x (p+2) 0x80 0xbf=true∧Dy x (p+3) 0x80 0xbf=true then 4
 else if b=0xf4∧Dy x (p+1) 0x80 0x8f=true∧Dy x (p+2) 0x80 0xbf=true∧Dy x (p+3) 0x80 0xbf=true then 4
 else 0
def FF(x:ByteArray):Nat→Nat→Bool
 |0,_=>true
 |n+1,p=>if p<x.size then(if CM x p=0 then false else FF x n (p+CM x p))else true
def G5(x:ByteArray):Bool:=FF x (x.size+1) 0
def Lk(n b:Int):Bool:=if n=1 then decide (b≤1)else if n=2 then decide (-2147483648≤IntKind.i64.wrap b∧IntKind.i64.wrap b≤2147483647)else if n=4 then decide (b≤4294967295)else if n=9 then decide (b≤2147483647)else true
def G2(v:Val):Bool:=decide (v.list.length=0∧v.pairs.length=0∧v.slots.length=0∧v.raws.length=0)
def DW(n:Int):Bool:=decide (n=7∨n=8)
def Ja(n:Int)(v:Val):Bool:=decide (1≤n∧n≤9∧v.kind=n)&&G2 v&&(if DW n then decide (v.bits=0∧v.text.size≤4096)&&(decide (n=8)||G5 v.text)else decide (v.text=⟨#[]⟩)&&Lk n v.bits)
def Cr(n:Int)(v:Val):Int:=if v.kind≠n∨BA v=true then 12 else if 4096<v.text.size then 3 else if Ja n v=true then 0 else if n=7 then 7 else 12
def zE:Enm:=.mk ⟨#[]⟩ false [] [] []
def Bk(s:Scm)(n:ByteArray):Msg×Bool:=Dj s.messages zM fun m=>decide (m.name=n)
def C9(s:Scm)(n:ByteArray):Enm×Bool:=Dj s.enums zE fun e=>decide (e.name=n)
def KP(e:Enm)(b:Int):Bool:=e.items.any fun x=>decide (IntKind.u64.wrap x.num=b)
def Cs(R:Msg→Val→Int)(s:Scm)(t:Typ)(v:Val):Int:=
 if t.kind=10 then(if(Bk s t.name).2=true then R (Bk s t.name).1 v else 10)
 else if t.kind<1∨9<t.kind then 12
 else if Cr t.kind v≠0∨t.kind≠9 then Cr t.kind v
 else if(C9 s t.name).2=false then 10
 else if(C9 s t.name).1.opn=false∧KP (C9 s t.name).1 v.bits=false then 16 else 0
def GW(a b:Val):Bool:=decide (a.bits=b.bits)&&decide (a.text=b.text)
def Ia(E:Val→Int)(key:Int)(k:Bool)(l:List Pr)(i:Nat)(p:Pr):Int:=
 if Cr key p.key≠0 then Cr key p.key else if k=true∧((l.take i).any fun q=>GW q.key p.key)=true then 9 else E p.val
def Ca(R:Msg→Val→Int)(s:Scm)(k:Bool)(f:Fld)(v:Val):Int:=
 if f.card=4 then(if v.kind≠11∨BA v=true then 12 else BW (fun _ x=>Cs R s f.type x) v.list 0)
 else if f.card=5 then(if v.kind≠12∨BA v=true then 12 else BW (Ia (Cs R s f.type) f.key k v.pairs) v.pairs 0)
 else Cs R s f.type v
def I1(F:List Fld)(l:List Slt)(u:ByteArray):Bool:=!decide (u=⟨#[]⟩)&&l.any fun y=>decide ((AS F y.num).union=u)
def FK(R:Fld→Val→Int)(F:List Fld)(l:List Slt)(i:Nat)(x:Slt):Int:=
 if(BX F x.num).2=false then 8 else if Du (l.take i) x.num=true then 9 else if I1 F (l.take i) (AS F x.num).union=true then 15 else R (AS F x.num) x.val
def HW(l:List Slt)(f:Fld):Int:=if f.card=1∧Du l f.num=false then 14 else 0
def T6(s:Scm)(f:Fld)(x:Raw):Bool:=decide (f.type.kind=9)&&(C9 s f.type.name).2&&!(C9 s f.type.name).1.opn&&!decide (f.card=5)&&decide (x.wire=0)&&decide (x.bits<2147483648)&&!KP (C9 s f.type.name).1 x.bits
def KE(s:Scm)(F:List Fld)(x:Raw):Int:=
 if x.num<1∨65535<x.num∨x.wire<0∨6<x.wire∨(x.wire≤2∧x.data≠⟨#[]⟩)∨(2<x.wire∧x.bits≠0)then 1
 else if(BX F x.num).2=true∧T6 s (AS F x.num) x=false then 1
 else if(x.wire=3∧4096<x.data.size)∨65536<x.data.size then 3 else 0
def A0(s:Scm)(k:Bool):Nat→Msg→Val→Int
 |0,_,v=>if v.kind≠10∨BA v=true then 12 else 17
 |d+1,m,v=>
  if v.kind≠10∨BA v=true then 12
  else if BW (FK (Ca (A0 s k d) s k) m.fields v.slots) v.slots 0≠0 then BW (FK (Ca (A0 s k d) s k) m.fields v.slots) v.slots 0
  else if BW (fun _ f=>HW v.slots f) m.fields 0≠0 then BW (fun _ f=>HW v.slots f) m.fields 0
  else BW (fun _ x=>KE s m.fields x) v.raws 0
mutual
def cnt:Val→Nat
 |.mk _ _ _ l p s r=>1+r.length+Bm l+CT p+Ce s
def Bm:List Val→Nat
 |[]=>0
 |v::l=>cnt v+Bm l
def Kj:Pr→Nat
 |.mk k v=>cnt k+cnt v
def CT:List Pr→Nat
 |[]=>0
 |p::l=>Kj p+CT l
def HO:Slt→Nat
 |.mk _ v=>cnt v
def Ce:List Slt→Nat
 |[]=>0
 |x::l=>HO x+Ce l
end
def Lj(s:Scm)(k:Bool)(n:ByteArray)(v:Val):Int:=
 if(Bk s n).2=false then 10 else if A0 s k 16 (Bk s n).1 v≠0 then A0 s k 16 (Bk s n).1 v else if 4096<cnt v then 3 else 0
end Go.Proofs.YtalafnjhcecdpaaGreatDoor
