import Derived.Test.YtbcmdieedjamgaaGreatZe20
import Derived.Test.YtbcmdieedjamgaaGreatZe00
namespace Go.Proofs.YtbcmdieedjamgaaGreat
set_option linter.all false
open Go Go.Eng
theorem eL(x:ByteArray):x.data.toList.length=x.size:=by rw[HE];rfl
theorem BS{n:Nat}(h:n≤2097152):n<Ah:=by unfold Ah;omega
theorem ZWY(x:ByteArray)(h:x.size≤1048576):Ok Tr (SU x):=by
 have q:Ok Ts (Ai (MV x) Ah 0):=by
  refine Bt (fun v:Int=>0≤v∧v≤x.size+4) (fun v:Int=>(x.size+4-v).toNat) ⟨by omega,by omega⟩ (BS (by omega)) fun v a=>?_
  dsimp only[MV,gf,br,vz,vs,At,ln,Af,cl,wi,Bp,br]
  (repeat' (first|with_reducible (first|refine AI (fun _=>?_) fun _=>?_|refine AF ?_)|(with_reducible apply AG;(exact ZXE _ _ a.1 Cc h);intro _ _)|with_reducible refine AM ?_ ?_))<;>exact AX
 dsimp only[SU,hU,gx,hH,lr,lc]
 (repeat' (first|with_reducible (first|refine AI (fun _=>?_) fun _=>?_|refine AF ?_)|(with_reducible apply BI;(exact q);all_goals(intro _ _;try dsimp only))|with_reducible refine AM ?_ ?_))<;>exact Cc
theorem iQ(x:ByteArray)(h:x.size≤1048576):Ok Tr (Mq x):=by
 dsimp only[Mq,ZR,lr,cl]
 (repeat' (first|with_reducible (first|refine AI (fun _=>?_) fun _=>?_|refine AF ?_)|(with_reducible apply AG;(exact ZWY _ h);intro _ _)|with_reducible refine AM ?_ ?_))<;>exact Cc
theorem RU(x:ByteArray)(h:x.size≤1048576):Ok Tr (bZ x):=by
 have hl:=eL x
 have q:Ok Ts (Ai (V3 x) Ah 1):=by
  refine Bt (fun v:Nat=>v≤1048577) (fun v:Nat=>1048577-v) (by omega) (BS (by omega)) fun v a=>?_
  dsimp only[V3,tM,br,vz,vs,At,ln,Af,cl,AH,wa,Bp,br,ib,Gg]
  (repeat' (first|with_reducible (first|refine AI (fun _=>?_) fun _=>?_|refine AF ?_|refine BQ ?_ fun _ _ _=>?_)|(with_reducible apply AG;(exact RZ _);intro _ _)|(with_reducible apply AG;(exact Sw _);intro _ _)|(with_reducible apply Bq;(exact fun _=>RZ _);intro _)|(with_reducible apply Bq;(exact fun _=>Sw _);intro _)|with_reducible refine AM ?_ ?_))<;>exact AX
 dsimp only[bZ,sm,ul,um,br,vz,vy,lr,lc,AH,Bp,br,Gg]
 (repeat' (first|with_reducible (first|refine AI (fun _=>?_) fun _=>?_|refine AF ?_)|(with_reducible apply BI;(exact q);all_goals(intro _ _;try dsimp only))|(with_reducible apply AG;(exact RZ _);intro _ _)|(with_reducible apply AG;(exact Sw _);intro _ _)|(with_reducible apply Bq;(exact fun _=>RZ _);intro _)|(with_reducible apply Bq;(exact fun _=>Sw _);intro _)|with_reducible refine AM ?_ ?_))<;>exact Cc
theorem ZXI(x:ByteArray)(h:x.size≤1048576):Ok Tr (bW x):=by
 have hl:=eL x
 have q:Ok (Sum.elim (fun b:ByteArray=>b.size≤1048576) Tr) (Ai (VO x) Ah (⟨#[]⟩,0)):=by
  refine Bt (fun v:ByteArray×Nat=>v.1.size≤v.2∧v.2≤x.size) (fun v:ByteArray×Nat=>x.size-v.2) ⟨by rw[sz0];omega,by omega⟩ (BS (by omega)) fun v a=>?_
  obtain⟨v,i⟩:=v
  obtain⟨a,hi⟩:=a
  dsimp only at a hi
  dsimp only[VO,pB,br,vz,vs,v2,At,ln,Af,ad,cl,wa,ss,Bp,br,ib]
  (repeat' (first|with_reducible (first|refine AI (fun _=>?_) fun _=>?_|refine AF ?_|refine BQ ?_ fun _ _ _=>?_)|(with_reducible apply AG;(exact RU _ (by omega));intro _ _)|with_reducible (first|refine ux ?_ ?_|refine AM ?_ ?_)))<;>exact AX
 dsimp only[bW,qF,oe,n2,br,vz,lr,lc,cl,Bp,br]
 (repeat' (first|with_reducible (first|refine AI (fun _=>?_) fun _=>?_|refine AF ?_)|(with_reducible apply BI;(exact q);all_goals(intro _ _;try dsimp only))|(with_reducible apply AG;(exact RU _ (by assumption));intro _ _)|with_reducible refine AM ?_ ?_))<;>exact Cc
set_option maxRecDepth 20000 in
theorem ZWM(x:ByteArray)(h:x.size≤1048576):Ok (fun y=>y.1.size≤1048576∧y.2.size≤1048576) (de x):=by
 have hl:=eL x
 have q:Ok (Sum.elim Tr (fun y:ByteArray×ByteArray=>y.1.size≤1048576∧y.2.size≤1048576)) (Ai (VL x) Ah ((x.size:Int)-1)):=by
  refine Bt (fun v:Int=>-1≤v∧v<x.size) (fun v:Int=>(v+1).toNat) ⟨by omega,by omega⟩ (BS (by omega)) fun v hv=>?_
  dsimp only[VL,sT,br,vs,At,ln,Af,wi,ss,br,QM]
  (repeat' (first|with_reducible (first|refine AI (fun _=>?_) fun _=>?_|refine AF ?_|refine BQ ?_ fun _ _ _=>?_|refine ux ?_ ?_|refine AM ?_ ?_)))<;>exact AX
 dsimp only[de,oX,pK,p9,vz,vs,lr,lc,wi,Bp]
 (repeat' (first|with_reducible (first|refine AI (fun _=>?_) fun _=>?_|refine AF ?_)|(with_reducible apply BI;(exact q);all_goals(intro _ _;try dsimp only))|with_reducible refine AM ?_ ?_))<;>exact AX
set_option maxRecDepth 20000 in
theorem iO(x:ByteArray)(h:x.size≤1048576):Ok Tr (cQ x):=by
 have q:Ok Ts (Ai V6 Ah (x,0)):=by
  refine Bt (fun v:ByteArray×Nat=>v.1.size≤1048576∧v.2≤120) (fun v:ByteArray×Nat=>120-v.2) ⟨h,by omega⟩ (BS (by omega)) fun v hv=>?_
  obtain⟨v,i⟩:=v
  obtain⟨hv,hi⟩:=hv
  dsimp only at hv hi
  dsimp only[V6,u7,br,vs,v2,At,ln,Af,cl,wa,br]
  (repeat' (first|with_reducible (first|refine AI (fun _=>?_) fun _=>?_|refine AF ?_)|(with_reducible apply AG;(exact ZWM _ hv);intro _ _)|(with_reducible apply AG;(exact bQ _);intro _ _)|with_reducible refine AM ?_ ?_))<;>exact AX
 dsimp only[cQ,ud,vh,ue,br,lr,lc,cl,br]
 (repeat' (first|with_reducible (first|refine AI (fun _=>?_) fun _=>?_|refine AF ?_)|(with_reducible apply BI;(exact q);all_goals(intro _ _;try dsimp only))|(with_reducible apply AG;(exact ZXI _ h);intro _ _)|with_reducible refine AM ?_ ?_))<;>exact AX
set_option maxRecDepth 20000 in
theorem Ly(x:ByteArray)(h:x.size≤1048576):Ok Tr (cm x):=by
 dsimp only[cm,pG,lr,cl,AH]
 (repeat' (first|with_reducible (first|refine AI (fun _=>?_) fun _=>?_|refine AF ?_)|(with_reducible apply AG;(exact RU _ h);intro _ _)|(with_reducible apply AG;(exact bQ _);intro _ _)|(with_reducible apply Bq;(exact fun _=>RU _ h);intro _)|(with_reducible apply Bq;(exact fun _=>bQ _);intro _)|with_reducible refine AM ?_ ?_))<;>exact AX
theorem o86(l:List ByteArray)(x:ByteArray)(h:l.length≤1048576):Ok Tr (O5 l x):=by
 have q:Ok Ts (Ai (Na l x) Ah 0):=by
  refine Bt (fun v:Nat=>v≤l.length) (fun v:Nat=>l.length-v) (by omega) (BS (by omega)) fun v a=>?_
  dsimp only[Na,Xx,br,ix,vz,vs,At,ln,Af,wa,Aj,br]
  (repeat' (first|with_reducible (first|refine AI (fun _=>?_) fun _=>?_|refine AF ?_|refine BQ ?_ fun _ _ _=>?_|refine AM ?_ ?_)))<;>exact AX
 dsimp only[O5,ZX,XC,Z9,lr,lc]
 (repeat' (first|with_reducible (first|refine AI (fun _=>?_) fun _=>?_|refine AF ?_)|(with_reducible apply BI;(exact q);all_goals(intro _ _;try dsimp only))|with_reducible refine AM ?_ ?_))<;>exact AX
theorem iP(l:List Spn)(x:Int)(h:l.length≤1048576):Ok Tr (b7 l x):=by
 have q:Ok Ts (Ai (V9 l x) Ah 0):=by
  refine Bt (fun v:Nat=>v≤l.length) (fun v:Nat=>l.length-v) (by omega) (BS (by omega)) fun v a=>?_
  dsimp only[V9,p8,br,ix,AR,vz,vs,At,ln,Af,wa,Aj,br]
  (repeat' (first|with_reducible (first|refine AI (fun _=>?_) fun _=>?_|refine AF ?_|refine BQ ?_ fun _ _ _=>?_|refine Gv ?_ fun _=>?_|refine AM ?_ ?_)))<;>exact AX
 dsimp only[b7,oI,oO,pg,lr,lc]
 (repeat' (first|with_reducible (first|refine AI (fun _=>?_) fun _=>?_|refine AF ?_)|(with_reducible apply BI;(exact q);all_goals(intro _ _;try dsimp only))|with_reducible refine AM ?_ ?_))<;>exact AX
theorem QO(s:Scm)(x:ByteArray)(h:SzS s):Ok (fun y:Int=>y<s.messages.length∧(0≤y→∃m∈s.messages,m.name=x)) (ci s x):=by
 have hm:=h.ml
 have q:Ok (Sum.elim Tr fun y:Int=>y<s.messages.length∧(0≤y→∃m∈s.messages,m.name=x)) (Ai (Wp s x) Ah 0):=by
  refine Bt (fun v:Nat=>v≤s.messages.length) (fun v:Nat=>s.messages.length-v) (by omega) (BS (by omega)) fun v a=>?_
  dsimp only[Wp,sX,br,ix,vz,wg,vs,At,ln,Af,wa,Aj,br]
  (repeat' (first|with_reducible (first|refine AI (fun _=>?_) fun _=>?_|refine AF ?_|refine BQ ?_ fun _ _ _=>?_|refine AM ?_ ?_)))<;>first|exact⟨by omega,fun _=>⟨_,by assumption,YZ (by assumption)⟩⟩|exact AX
 dsimp only[ci,tX,sn,qY,lr,lc]
 (repeat' (first|with_reducible (first|refine AI (fun _=>?_) fun _=>?_|refine AF ?_)|(with_reducible apply BI;(exact q);all_goals(intro _ _;try dsimp only))|with_reducible refine AM ?_ ?_))<;>first|exact⟨by omega,fun h=>absurd h (by decide)⟩|exact AX
theorem ab(s:Scm)(x:ByteArray)(h:SzS s):Ok (fun y:Int=>y<s.enums.length∧(0≤y→∃m∈s.enums,m.name=x)) (b9 s x):=by
 have hm:=h.el
 have q:Ok (Sum.elim Tr fun y:Int=>y<s.enums.length∧(0≤y→∃m∈s.enums,m.name=x)) (Ai (U6 s x) Ah 0):=by
  refine Bt (fun v:Nat=>v≤s.enums.length) (fun v:Nat=>s.enums.length-v) (by omega) (BS (by omega)) fun v a=>?_
  dsimp only[U6,l0,br,ix,vz,wg,vs,At,ln,Af,wa,Aj,br]
  (repeat' (first|with_reducible (first|refine AI (fun _=>?_) fun _=>?_|refine AF ?_|refine BQ ?_ fun _ _ _=>?_|refine AM ?_ ?_)))<;>first|exact⟨by omega,fun _=>⟨_,by assumption,YZ (by assumption)⟩⟩|exact AX
 dsimp only[b9,l9,nq,Zzc,lr,lc]
 (repeat' (first|with_reducible (first|refine AI (fun _=>?_) fun _=>?_|refine AF ?_)|(with_reducible apply BI;(exact q);all_goals(intro _ _;try dsimp only))|with_reducible refine AM ?_ ?_))<;>first|exact⟨by omega,fun h=>absurd h (by decide)⟩|exact AX
theorem SG(v w:Val)(h:SzV v)(k:SzV w):Ok Tr (cj v w):=by
 obtain⟨_,_,_,_,_⟩:=h
 obtain⟨_,_,_,_,_⟩:=k
 dsimp only[cj,m6,vy,wg,vg,lr,wa,Aj]
 (repeat' (first|with_reducible (first|refine AI (fun _=>?_) fun _=>?_|refine AF ?_|refine AM ?_ ?_)))<;>exact AX
def jv(v:Val):Prop:=v.list=[]∧v.pairs=[]∧v.slots=[]∧v.raws=[]∧(v.kind=7∨v.kind=8→v.bits=0)∧(¬(v.kind=7∨v.kind=8)→v.text=⟨#[]⟩)
def NP(n:Int)(v:Val):Prop:=1≤n∧n≤9∧v.kind=n∧jv v
theorem ZUs{n:Int}{v:Val}(h:SzV v)(e:Jp n v=some true):NP n v:=by
 obtain⟨p,q,r,s,t⟩:=h
 have k:v.list.length<4611686018427387904:=by omega
 have l:v.pairs.length<4611686018427387904:=by omega
 have m:v.slots.length<4611686018427387904:=by omega
 have o:v.raws.length<4611686018427387904:=by omega
 have hi:Mx n=some (decide (1≤n)&&decide (n≤9)):=rfl
 dsimp only[Jp,U0,br,vz,vy,wg,lr,cl,AH,Bp,br,O0,gP,vz,vy,wg,lr,Aj,Mr,Ur,lr]at e
 rw[hi]at e
 unfold NP jv
 simp only[Ya]at e
 generalize Mq v.text=w at e
 simp[k,l,m,o]at e
 split at e
 ·cases e
 ·rename_i c
  simp only[not_or,Decidable.not_not,Classical.not_imp,Int.not_lt]at c
  obtain⟨⟨⟨d,f⟩,b⟩,⟨⟨g,i⟩,j⟩,c6⟩:=c
  refine⟨d,f,b,g,i,j,c6,fun a=>?_,fun a=>?_⟩
  ·rw[b]at a
   simp only[a,Yt]at e
   split at e<;>simp_all
  ·rw[b]at a
   simp only[a,YQ]at e
   split at e<;>simp_all
theorem RX(n:Int)(v:Val)(h:SzV v):Ok (fun b=>b=true→NP n v) (Jp n v):=by
 have a:=h.t
 have q:Ok Tr (Jp n v):=by
  have c:Ok Tr (Mx n):=⟨_,rfl,trivial⟩
  dsimp only[Jp,U0,br,vz,vy,wg,lr,cl,AH,Bp,br]
  (repeat' (first|with_reducible (first|refine AI (fun _=>?_) fun _=>?_|refine AF ?_)|(with_reducible apply AG;(exact c);intro _ _)|(with_reducible apply AG;(exact wR _);intro _ _)|(with_reducible apply AG;(exact x4 _);intro _ _)|(with_reducible apply AG;(exact iQ _ a);intro _ _)|(with_reducible apply Bq;(exact fun _=>c);intro _)|(with_reducible apply Bq;(exact fun _=>wR _);intro _)|(with_reducible apply Bq;(exact fun _=>x4 _);intro _)|(with_reducible apply Bq;(exact fun _=>iQ _ a);intro _)|with_reducible refine AM ?_ ?_))<;>exact AX
 obtain⟨b,e,_⟩:=q
 exact⟨b,e,fun d=>ZUs h (d▸e)⟩
theorem xu(v:Val)(h:SzV v):Ok SzV (O1 v):=by
 dsimp only[O1,Z0,br,wg,lr,AH,br]
 (repeat' (first|with_reducible (first|refine AI (fun _=>?_) fun _=>?_|refine AF ?_)|(with_reducible apply AG;(exact xK _);intro _ _)|(with_reducible apply Bq;(exact fun _=>xK _);intro _)|with_reducible refine AM ?_ ?_))<;>first|exact h|exact⟨h.t,h.l,h.p,h.s,h.r⟩
theorem ZWK(x:Nt)(h:SzN x):Ok Tr (da x):=by
 dsimp only[da,lh,wg,lr,cl,AH]
 (repeat' (first|with_reducible (first|refine AI (fun _=>?_) fun _=>?_|refine AF ?_)|(with_reducible apply AG;(exact bU _);intro _ _)|(with_reducible apply AG;(exact RX _ _ h.v);intro _ _)|(with_reducible apply Bq;(exact fun _=>bU _);intro _)|(with_reducible apply Bq;(exact fun _=>RX _ _ h.v);intro _)|with_reducible refine AM ?_ ?_))<;>exact AX
theorem ZWZ(l:List Nt)(n:Int)(h:IH l):Ok Tr (cT l n):=by
 obtain⟨b,a⟩:=h
 have q:Ok Ts (Ai (U7 l n) Ah 0):=by
  refine Bt (fun v:Nat=>v≤l.length) (fun v:Nat=>l.length-v) (by omega) (BS (by omega)) fun v c=>?_
  dsimp only[U7,lG,br,ix,AR,vz,vs,vg,At,ln,Af,cl,wa,wi,Aj,br]
  (repeat' (first|with_reducible (first|refine AI (fun _=>?_) fun _=>?_|refine AF ?_|refine BQ ?_ fun _ _ _=>?_)|(with_reducible apply AG;(exact bU _);intro _ _)|(with_reducible apply AG;(exact ZXh _ _);intro _ _)|(with_reducible apply AG;(exact ZWK _ (a _ (by assumption)));intro _ _)|with_reducible (first|refine Gv ?_ fun _=>?_|refine AM ?_ ?_)))<;>exact AX
 dsimp only[cT,mG,kr,nO,br,vz,lr,lc,Aj,br]
 (repeat' (first|with_reducible (first|refine AI (fun _=>?_) fun _=>?_|refine AF ?_)|(with_reducible apply BI;(exact q);all_goals(intro _ _;try dsimp only))|with_reducible refine AM ?_ ?_))<;>exact AX
end Go.Proofs.YtbcmdieedjamgaaGreat
namespace Go.Proofs.YtbcmdieedjamgaaGreat
set_option linter.all false
open Go Go.Eng
theorem El(d:ByteArray)(l:List Prb)(b:Bool)(n e:Int)(h:l.length<549755813887):Ok (fun y=>l.length≤y.length∧y.length≤l.length+1∧(b=true→l.length+1≤y.length)) (Bv d l b n e):=by
 dsimp only[Bv,tj,Xv,qX,ZZ,vz,vw,wg,lr,lc,ap,BO,fl]
 (repeat' (first|with_reducible (first|refine AI (fun _=>?_) fun _=>?_|refine AF ?_|refine AM ?_ ?_)))<;>first|exact AX|simp_all
theorem J1(d:ByteArray)(l:List Prb)(x:List Nt)(t n:Int)(h:l.length<549755813887)(hx:IH x):Ok (fun y=>l.length≤y.length∧y.length≤l.length+1) (HO d l x t n):=by
 dsimp only[HO,sS,rY,qM,Zv,vz,lr,lc,cl,fl]
 (repeat' (first|with_reducible (first|refine AI (fun _=>?_) fun _=>?_|refine AF ?_)|(with_reducible apply AG;(exact ZWZ _ _ hx);intro _ _)|(with_reducible apply AG;(exact El _ _ _ _ _ h);intro _ _)|with_reducible refine AM ?_ ?_))<;>exact AX
theorem o96(d:ByteArray)(l:List Prb)(x:List Spn)(t n:Int)(h:l.length<500000000000)(hx:x.length≤1048576):Ok (fun y=>l.length≤y.length∧y.length≤l.length+2*x.length) (OU d l x t n):=by
 have q:Ok (Sum.elim (fun y:List Prb=>l.length≤y.length∧y.length≤l.length+2*x.length) No) (Ai (Ww d x t n) Ah (0,l)):=by
  refine Bt (fun v:Nat×List Prb=>v.1≤x.length∧l.length≤v.2.length∧v.2.length≤l.length+2*v.1) (fun v:Nat×List Prb=>x.length-v.1) ⟨by omega,by simp,by simp⟩ (BS (by omega)) fun v e=>?_
  obtain⟨i,r⟩:=v
  obtain⟨a,b,c⟩:=e
  dsimp only at a b c
  dsimp only[Ww,v7,Z5,sh,ZS,uH,qL,br,ix,AR,vz,vs,vg,ln,Af,lc,wa,wi,fl,Aj,br]
  (repeat' (first|with_reducible (first|refine AI (fun _=>?_) fun _=>?_|refine AF ?_|refine BQ ?_ fun _ _ _=>?_)|(with_reducible apply AG;(exact El _ _ _ _ _ (by omega));intro _ _)|with_reducible (first|refine Gv ?_ fun _=>?_|refine AM ?_ ?_)))<;>exact AX
 dsimp only[OU,uJ,XP,vz,lr,lc,fl]
 (repeat' (first|with_reducible (first|refine AI (fun _=>?_) fun _=>?_|refine AF ?_)|(with_reducible apply BI;(exact q);all_goals(intro _ _;try dsimp only))|with_reducible refine AM ?_ ?_))<;>exact AX
theorem iN(s:Scm)(w:Int)(h:SzS s):Ok (fun y=>y.length≤3145728) (db s w):=by
 have a:=h.ml
 have b:=h.el
 have j:=h.wl
 have e:Ok (Sum.elim (fun y:List ByteArray=>y.length≤1048576) No) (Ai (Vk s w) Ah ([],0)):=by
  refine Bt (fun v:List ByteArray×Nat=>v.2≤s.messages.length∧v.1.length≤v.2) (fun v:List ByteArray×Nat=>s.messages.length-v.2) ⟨by omega,by simp⟩ (BS (by omega)) fun v c=>?_
  obtain⟨r,i⟩:=v
  obtain⟨a,b⟩:=c
  dsimp only at a b
  dsimp only[Vk,si,br,ix,vz,vy,vw,wg,vs,v2,ln,Af,ap,wa,fl,Aj,br]
  (repeat' (first|with_reducible (first|refine AI (fun _=>?_) fun _=>?_|refine AF ?_|refine BQ ?_ fun _ _ _=>?_|refine AM ?_ ?_)))<;>exact AX
 have f:∀r:List ByteArray,r.length≤1048576→Ok (Sum.elim (fun y:List ByteArray=>y.length≤2097152) No) (Ai (Wt s w) Ah (r,0)):=by
  intro r d
  refine Bt (fun v:List ByteArray×Nat=>v.2≤s.enums.length∧v.1.length≤1048576+v.2) (fun v:List ByteArray×Nat=>s.enums.length-v.2) ⟨by omega,by simpa using d⟩ (BS (by omega)) fun v c=>?_
  obtain⟨r,i⟩:=v
  obtain⟨a,b⟩:=c
  dsimp only at a b
  dsimp only[Wt,s9,br,ix,vz,vy,vw,wg,vs,ln,Af,ap,wa,fl,Aj,br]
  (repeat' (first|with_reducible (first|refine AI (fun _=>?_) fun _=>?_|refine AF ?_|refine BQ ?_ fun _ _ _=>?_|refine AM ?_ ?_)))<;>exact AX
 have g:∀r:List ByteArray,r.length≤2097152→Ok (Sum.elim (fun y:List ByteArray=>y.length≤3145728) No) (Ai (VA s w) Ah (r,0)):=by
  intro r d
  refine Bt (fun v:List ByteArray×Nat=>v.2≤s.services.length∧v.1.length≤2097152+v.2) (fun v:List ByteArray×Nat=>s.services.length-v.2) ⟨by omega,by simpa using d⟩ (BS (by omega)) fun v c=>?_
  obtain⟨r,i⟩:=v
  obtain⟨a,b⟩:=c
  dsimp only at a b
  dsimp only[VA,pE,br,ix,vz,vy,vw,wg,vs,ln,Af,ap,wa,fl,Aj,br]
  (repeat' (first|with_reducible (first|refine AI (fun _=>?_) fun _=>?_|refine AF ?_|refine BQ ?_ fun _ _ _=>?_|refine AM ?_ ?_)))<;>exact AX
 dsimp only[db,ve,wx,wd,rX,og,uB,vz,vw,lr,lc,fl,fr]
 (repeat' (first|with_reducible (first|refine AI (fun _=>?_) fun _=>?_|refine AF ?_)|(with_reducible apply BI;(exact e);all_goals(intro _ _;try dsimp only))|(with_reducible apply BI;(exact f _ (by assumption));all_goals(intro _ _;try dsimp only))|(with_reducible apply BI;(exact g _ (by assumption));all_goals(intro _ _;try dsimp only))|with_reducible refine AM ?_ ?_))<;>exact AX
theorem o63(l:List ByteArray)(h:l.length≤3145728):Ok Tr (b0 l):=by
 have q:Ok Ts (Ai (Wj l) Ah 1):=by
  refine Bt (fun v:Nat=>1≤v∧v≤l.length+1) (fun v:Nat=>l.length+1-v) ⟨by omega,by omega⟩ (by unfold Ah;omega) fun v a=>?_
  dsimp only[Wj,uC,br,ix,Cj,vz,vs,At,ln,Af,wa,wi,Aj,br]
  (repeat' (first|with_reducible (first|refine AI (fun _=>?_) fun _=>?_|refine AF ?_|refine BQ ?_ fun _ _ _=>?_|refine AM ?_ ?_)))<;>exact AX
 dsimp only[b0,vj,tZ,sF,lr,lc]
 (repeat' (first|with_reducible (first|refine AI (fun _=>?_) fun _=>?_|refine AF ?_)|(with_reducible apply BI;(exact q);all_goals(intro _ _;try dsimp only))|with_reducible refine AM ?_ ?_))<;>exact AX
theorem ZW2(l:List ByteArray)(x:ByteArray)(h:l.length≤3145728):Ok Tr (O5 l x):=by
 have q:Ok Ts (Ai (Na l x) Ah 0):=by
  refine Bt (fun v:Nat=>v≤l.length) (fun v:Nat=>l.length-v) (by omega) (by unfold Ah;omega) fun v a=>?_
  dsimp only[Na,Xx,br,ix,vz,vs,At,ln,Af,wa,Aj,br]
  (repeat' (first|with_reducible (first|refine AI (fun _=>?_) fun _=>?_|refine AF ?_|refine BQ ?_ fun _ _ _=>?_|refine AM ?_ ?_)))<;>exact AX
 dsimp only[O5,ZX,XC,Z9,lr,lc]
 (repeat' (first|with_reducible (first|refine AI (fun _=>?_) fun _=>?_|refine AF ?_)|(with_reducible apply BI;(exact q);all_goals(intro _ _;try dsimp only))|with_reducible refine AM ?_ ?_))<;>exact AX
theorem o64(l k:List ByteArray)(h:l.length≤3145728)(a:k.length≤3145728):Ok Tr (cK l k):=by
 have q:Ok Ts (Ai (VS l k) Ah 0):=by
  refine Bt (fun v:Nat=>v≤l.length) (fun v:Nat=>l.length-v) (by omega) (by unfold Ah;omega) fun v b=>?_
  dsimp only[VS,uY,br,ix,vz,vs,At,ln,Af,cl,wa,Aj,br]
  (repeat' (first|with_reducible (first|refine AI (fun _=>?_) fun _=>?_|refine AF ?_|refine BQ ?_ fun _ _ _=>?_)|(with_reducible apply AG;(exact ZW2 _ _ a);intro _ _)|with_reducible refine AM ?_ ?_))<;>exact AX
 dsimp only[cK,p4,sN,s3,lr,lc]
 (repeat' (first|with_reducible (first|refine AI (fun _=>?_) fun _=>?_|refine AF ?_)|(with_reducible apply BI;(exact q);all_goals(intro _ _;try dsimp only))|with_reducible refine AM ?_ ?_))<;>exact AX
def LH(s:Scm)(f:Fld):Prop:=(f.type.kind=9→∃m∈s.enums,m.name=f.type.name)∧(f.type.kind=10→(∃m∈s.messages,m.name=f.type.name)∧f.card≠3)∧1≤f.type.kind∧f.type.kind≤10
theorem o92(s:Scm)(f:Fld)(h:SzS s):Ok (fun b=>b=true→LH s f) (ct s f):=by
 unfold LH
 dsimp only[ct,pC,br,wg,lr,cl,br]
 (repeat' (first|with_reducible (first|refine AI (fun _=>?_) fun _=>?_|refine AF ?_)|(with_reducible apply AG;(exact ab _ _ h);intro _ _)|(with_reducible apply AG;(exact QO _ _ h);intro _ _)|with_reducible refine AM ?_ ?_))
 ·intro a
  have d:f.type.kind=9:=YZ (by assumption)
  have e:=(show _<_∧(_→∃m∈s.enums,m.name=f.type.name)by assumption).2 (YZ a)
  exact⟨fun _=>e,fun k=>by omega,by omega,by omega⟩
 ·intro a
  have c:f.type.kind=10:=YZ (by assumption)
  rw[Yc]at a
  have e:=(show _<_∧(_→∃m∈s.messages,m.name=f.type.name)by assumption).2 (YZ a.1)
  exact⟨fun k=>by omega,fun _=>⟨e,by simpa using a.2⟩,by omega,by omega⟩
 ·intro a
  simp only[Yc,YB]at a
  exact⟨fun k=>by omega,fun k=>by omega,by omega,by omega⟩
def NQ(f:Fld):Prop:=f.union≠⟨#[]⟩→f.card=2
theorem o93(m:Msg)(i:Nat)(h:SzM m)(hi:i<m.fields.length):Ok (fun b=>b=true→∀f,m.fields[i]?=some f→NQ f) (cW m i):=by
 have hl:=h.fl
 have q:∀e,Ok (Sum.elim (fun b:Bool=>b=true→0<i) Tr) (Ai (Wm m i e) Ah (false,0)):=by
  intro e
  refine Bt (fun v:Bool×Nat=>v.2≤m.fields.length∧(v.1=true→0<i)) (fun v:Bool×Nat=>m.fields.length-v.2) ⟨by omega,by simp⟩ (BS (by omega)) fun v k=>?_
  obtain⟨b,j⟩:=v
  obtain⟨c,d⟩:=k
  dsimp only at c d
  dsimp only[Wm,wu,br,ix,AR,vz,wg,vs,At,ln,Af,wa,Aj,br]
  (repeat' (first|with_reducible (first|refine AI (fun _=>?_) fun _=>?_|refine AF ?_|refine BQ ?_ fun _ _ _=>?_|refine Gv ?_ fun _=>?_|refine AM ?_ ?_)))<;>exact AX
 dsimp only[cW,sx,q7,ro,br,Cj,AR,wg,vg,lr,lc,AH,wi,br]
 (repeat' (first|with_reducible (first|refine AI (fun _=>?_) fun _=>?_|refine AF ?_|refine BQ ?_ fun _ _ _=>?_)|(with_reducible apply BI;(exact q _);all_goals(intro _ _;try dsimp only))|(with_reducible apply AG;(exact Ly _ ((h.f _ (by assumption)).u));intro _ _)|(with_reducible apply Bq;(exact fun _=>Ly _ ((h.f _ (by assumption)).u));intro _)|with_reducible (first|refine Gv ?_ fun _=>?_|refine AM ?_ ?_)))<;>first|(intro h;cases h;done)|(have he:=‹m.fields[i]?=some _›;intro _ f a;rw[he]at a;cases a;intro g;first|exact absurd (YZ (by assumption)) g|(simp only[YH,YK,Ke,Xh,YB,YT]at*;omega)|grind)|exact AX
def IU(f:Fld):Prop:=f.hasDefault=true→NP f.type.kind f.dflt∧f.card=2∧f.union=⟨#[]⟩
theorem o94(s:Scm)(f:Fld)(h:SzS s)(a:SzF f):Ok (fun b=>b=true→IU f) (cV s f):=by
 have g:SzV (.mk 0 0 ⟨#[]⟩ [] [] [] []):=by constructor<;>decide
 have he:∀y,y∈s.enums→y.items.length≤1048576:=fun y hy=>(h.e y hy).il
 have q:∀y:Int,0≤y→y<s.enums.length→Ok Ts (Ai (VD s f y) Ah 0):=by
  intro y hy k
  refine Bt (fun v:Nat=>v≤1048576) (fun v:Nat=>1048576-v) (by omega) (BS (by omega)) fun v l=>?_
  dsimp only[VD,uo,br,ix,Cj,vz,wg,vs,At,ln,Af,wa,Aj,br]
  (repeat' (first|with_reducible (first|refine AI (fun _=>?_) fun _=>?_|refine AF ?_|refine BQ ?_ fun _ _ _=>?_|refine AM ?_ ?_)))<;>exact AX
 have key:∀(c d:Bool),((!((!decide (f.card=2))||(!decide (f.union=⟨#[]⟩))))=true→c=true→NP f.type.kind f.dflt)→((((!decide (f.card=2))||(!decide (f.union=⟨#[]⟩)))||!c)||!d)=false→IU f:=fun c d i j _=>by
  cases c<;>cases d<;>simp_all
 have e:(!f.hasDefault)=true→IU f:=fun i j=>by simp_all
 dsimp only[cV,tC,tq,oq,br,wg,lr,lc,cl,AH,br]
 (repeat' (first|with_reducible (first|refine AI (fun _=>?_) fun _=>?_|refine AF ?_)|(with_reducible apply BI;(exact q _ Cc Cc);all_goals(intro _ _;try dsimp only))|(with_reducible apply AG;(exact SG _ _ a.d g);intro _ _)|(with_reducible apply AG;(exact RX _ _ a.d);intro _ _)|(with_reducible apply AG;(exact xu _ a.d);intro _ _)|(with_reducible apply AG;(exact SG _ _ a.d (by solve_by_elim));intro _ _)|(with_reducible apply AG;(exact ab _ _ h);intro _ _)|(with_reducible apply Bq;(exact fun _=>SG _ _ a.d g);intro _)|(with_reducible apply Bq;(exact fun _=>RX _ _ a.d);intro _)|(with_reducible apply Bq;(exact fun _=>xu _ a.d);intro _)|(with_reducible apply Bq;(exact fun _=>SG _ _ a.d (by solve_by_elim));intro _)|(with_reducible apply Bq;(exact fun _=>ab _ _ h);intro _)|with_reducible refine AM ?_ ?_))<;>first|(intro _;exact key _ _ (by assumption) (by assumption))|(intro _;exact e (by assumption))|exact AX
theorem o87(s:Scm)(m:Msg)(l:List Bool)(h:SzS s)(hm:SzM m)(hl:l.length=s.messages.length):Ok Tr (cZ s m l):=by
 have a:=hm.fl
 have q:Ok Ts (Ai (VB s m l) Ah 0):=by
  refine Bt (fun v:Nat=>v≤m.fields.length) (fun v:Nat=>m.fields.length-v) (by omega) (BS (by omega)) fun v b=>?_
  dsimp only[VB,ou,br,ix,AR,vz,wg,vs,At,ln,Af,cl,wa,Aj,br]
  (repeat' (first|with_reducible (first|refine AI (fun _=>?_) fun _=>?_|refine AF ?_|refine BQ ?_ fun _ _ _=>?_)|(with_reducible apply AG;(exact QO _ _ h);intro _ _)|with_reducible (first|refine Gv ?_ fun _=>?_|refine AM ?_ ?_)))<;>exact AX
 dsimp only[cZ,uh,sV,ra,lr,lc]
 (repeat' (first|with_reducible (first|refine AI (fun _=>?_) fun _=>?_|refine AF ?_)|(with_reducible apply BI;(exact q);all_goals(intro _ _;try dsimp only))|with_reducible refine AM ?_ ?_))<;>exact AX
theorem uV(s:Scm)(m:Msg)(l:List Bool)(h:SzS s)(hm:SzM m)(hl:l.length=s.messages.length):Ok Tr (SX s m l):=by
 have a:=hm.fl
 have q:Ok Ts (Ai (Ua s m l) Ah 0):=by
  refine Bt (fun v:Nat=>v≤m.fields.length) (fun v:Nat=>m.fields.length-v) (by omega) (BS (by omega)) fun v b=>?_
  dsimp only[Ua,ZtP,br,ix,vz,wg,vs,vg,At,ln,Af,cl,wa,AA,Fo,fl,Aj,br,AA]
  (repeat' (first|with_reducible (first|refine AI (fun _=>?_) fun _=>?_|refine AF ?_|refine BQ ?_ fun _ _ _=>?_)|(with_reducible apply AG;(exact QO _ _ h);intro _ _)|with_reducible refine AM ?_ ?_))<;>exact AX
 dsimp only[SX,ZtK,Zto,ZuE,vz,lr,lc,fl]
 (repeat' (first|with_reducible (first|refine AI (fun _=>?_) fun _=>?_|refine AF ?_)|(with_reducible apply BI;(exact q);all_goals(intro _ _;try dsimp only))|with_reducible refine AM ?_ ?_))<;>exact AX
theorem o65(s:Scm)(h:SzS s):Ok (fun y=>y.length=s.messages.length) (cS s):=by
 have g:=h.ml
 have q:∀(v:Nat) (r:List Bool),r.length=s.messages.length→Ok (Sum.elim (fun y:Bool×List Bool=>y.2.length=s.messages.length) No) (Ai (V0 s v) Ah (false,0,r)):=by
  intro w r e
  refine Bt (fun v:Bool×Nat×List Bool=>v.2.1≤s.messages.length∧v.2.2.length=s.messages.length) (fun v:Bool×Nat×List Bool=>s.messages.length-v.2.1) ⟨by simp,e⟩ (BS (by simp;omega)) fun v d=>?_
  obtain⟨b,i,r⟩:=v
  obtain⟨c,a⟩:=d
  dsimp only at c a
  dsimp only[V0,sp,br,AR,vz,vw,wg,vs,v2,ln,Af,JV,wa,ir,ca,st,rn,fl,Aj,br]
  (repeat' (first|with_reducible (first|refine AI (fun _=>?_) fun _=>?_|refine AF ?_|refine BQ ?_ fun _ _ _=>?_)|(with_reducible apply AG;(exact uV _ _ _ h (h.m _ (by grind)) a);intro _ _)|(with_reducible apply Bq;(exact fun _=>uV _ _ _ h (h.m _ (by grind)) a);intro _)|with_reducible (first|refine Gv ?_ fun _=>?_|refine AM ?_ ?_)))<;>exact AX
 have f:Ok (Sum.elim (fun y:List Bool=>y.length=s.messages.length) No) (Ai (Wh s) Ah (true,0,List.replicate s.messages.length false)):=by
  refine Bt (fun v:Bool×Nat×List Bool=>v.2.1≤s.messages.length∧v.2.2.length=s.messages.length) (fun v:Bool×Nat×List Bool=>s.messages.length-v.2.1) ⟨by simp,by simp⟩ (BS (by simp;omega)) fun v d=>?_
  obtain⟨b,i,r⟩:=v
  obtain⟨c,a⟩:=d
  dsimp only at c a
  dsimp only[Wh,oQ,qv,qs,br,vz,wg,vs,v2,ln,Af,lc,wa,fl,Aj,br]
  (repeat' (first|with_reducible (first|refine AI (fun _=>?_) fun _=>?_|refine AF ?_)|(with_reducible apply BI;(exact q _ _ a);all_goals(intro _ _;try dsimp only))|with_reducible refine AM ?_ ?_))<;>exact AX
 dsimp only[cS,oN,oA,wc,vz,wg,lr,lc,ms,fl,fr,Aj]
 (repeat' (first|with_reducible (first|refine AI (fun _=>?_) fun _=>?_|refine AF ?_)|(with_reducible apply BI;(exact f);all_goals(intro _ _;try dsimp only))|with_reducible refine AM ?_ ?_))<;>exact AX
def Df(l:List Fld)(n:Nat):Prop:=∀(i:Nat) (a b:Fld),i+1<n→l[i]?=some a→l[i+1]?=some b→a.num<b.num
theorem ZvN{l:List Fld}{v:Nat}{a b:Fld}(h:Df l v)(g:l[v]?=some a)(j:0<v→l[v-1]?=some b∧b.num<a.num):Df l (v+1):=by
 intro i x y hi hx hy
 by_cases e:i+1<v
 ·exact h i x y e hx hy
 ·have d:i+1=v:=by omega
  have f:v-1=i:=by omega
  rw[d]at hy
  obtain⟨c,k⟩:=j (by omega)
  rw[f]at c
  rw[g]at hy
  rw[c]at hx
  cases hx
  cases hy
  exact k
structure GdM0 (s:Scm) (m:Msg):Prop where
 asc:Df m.fields m.fields.length
 df:∀(j:Nat) (f:Fld),m.fields[j]?=some f→IU f∧LA f∧LH s f∧NQ f
def LF(e:Enm):Prop:=∃x,e.items[0]?=some x∧x.num=0
structure GdM (s:Scm) (m:Msg):Prop where
 asc:Df m.fields m.fields.length
 df:∀(j:Nat) (f:Fld),m.fields[j]?=some f→IU f∧LA f∧LH s f∧NQ f
 en:∀(j:Nat) (e:Enm),s.enums[j]?=some e→LF e
theorem ZTL(x:Msg):x.fields.length+x.reserved.length+x.gone.length≤An (AK x):=by
 have a:=Ce (e:=Aw) x.fields
 have b:=Ce (e:=Cz) x.reserved
 have c:=Ce (e:=Bn) x.gone
 simp only[AK,An,bk]
 omega
theorem ZS4(x:Enm):x.items.length+x.reserved.length≤An (Cr x):=by
 have a:=Ce (e:=FY) x.items
 have b:=Ce (e:=Cz) x.reserved
 simp only[Cr,An,bk]
 omega
theorem ZTl(x:Svc):x.methods.length≤An (Di x):=by
 have a:=Ce (e:=Hk) x.methods
 simp only[Di,An,bk]
 omega
theorem xb(d:ByteArray)(b:Bool)(n e:Int):Ok (fun y=>y.length≤1) (Bv d [] b n e):=(El d [] b n e (by simp)).mono fun y h=>by simpa using h.2.1
theorem o66(s:Scm)(m:Msg)(l:List Bool)(h:SzS s)(hm:SzM m)(hl:l.length=s.messages.length):Ok (fun y=>y.length≤20*(An (AK m)+1)∧(y.length=0→GdM0 s m)) (cb s m l):=by
 have g:=ZTL m
 have G:=hm.fl
 have q:=hm.r
 have B:=hm.gl
 have E:∀(v:Nat) (r:List Prb) (e:Fld),v≤m.fields.length→Ok (Sum.elim Tr No) (Ai (Wo s m l v r e) Ah (false,0)):=by
  intro w r e I
  refine Bt (fun v:Bool×Nat=>v.2≤w) (fun v:Bool×Nat=>w-v.2) (by simp) (BS (by omega)) fun v k=>?_
  obtain⟨b,i⟩:=v
  dsimp only at k
  dsimp only[Wo,v5,br,ix,vz,wg,vs,ln,Af,wa,fl,br]
  (repeat' (first|with_reducible (first|refine AI (fun _=>?_) fun _=>?_|refine AF ?_|refine BQ ?_ fun _ _ _=>?_|refine AM ?_ ?_)))<;>exact AX
 have D:∀a:List Prb,a.length≤9→Ok (Sum.elim (fun y:List Prb=>y.length≤9+10*m.fields.length∧(y.length=0→GdM0 s m)) No) (Ai (Wv s m l) Ah (0,a)):=by
  intro a o
  refine Bt (fun v:Nat×List Prb=>v.1≤m.fields.length∧v.2.length≤9+10*v.1∧(v.2.length=0→Df m.fields v.1∧∀(j:Nat) (f:Fld),j<v.1→m.fields[j]?=some f→IU f∧LA f∧LH s f∧NQ f)) (fun v:Nat×List Prb=>m.fields.length-v.1) ⟨by simp,by simpa using o,fun _=>⟨fun i x y hi=>by simp at hi,fun j f n=>by simp at n⟩⟩ (BS (by omega)) fun v k=>?_
  obtain⟨v,r⟩:=v
  obtain⟨t,u,c⟩:=k
  dsimp only at t u c
  dsimp only[Wv,Zzy,ny,ll,ly,nr,ft,ZzX,gi,nQ,mY,nv,gI,ZzM,g6,ka,ij,rr,Zg,uN,XA,ti,vd,oG,wh,br,ix,AR,vz,wg,vs,vg,ln,Af,lc,cl,AH,wa,wi,fl,Aj,br]
  (repeat' (first|with_reducible (first|refine AI (fun _=>?_) fun _=>?_|refine AF ?_|refine BQ ?_ fun _ _ _=>?_)|(with_reducible apply BI;(exact E _ _ _ (by omega));all_goals(intro _ _;try dsimp only))|(with_reducible apply AG;(exact El _ _ _ _ _ (by omega));intro _ _)|(with_reducible apply AG;(exact Ly _ (hm.f _ (by assumption)).n);intro _ _)|(with_reducible apply AG;(exact iP _ _ q);intro _ _)|(with_reducible apply AG;(exact o86 _ _ B);intro _ _)|(with_reducible apply AG;(exact o91 _);intro _ _)|(with_reducible apply AG;(exact o92 _ _ h);intro _ _)|(with_reducible apply AG;(exact o93 _ _ hm Cc);intro _ _)|(with_reducible apply AG;(exact o94 _ _ h (hm.f _ (by assumption)));intro _ _)|(with_reducible apply AG;(exact J1 _ _ _ _ _ (by omega) (hm.f _ (by assumption)).o);intro _ _)|(with_reducible apply Bq;(exact fun _=>El _ _ _ _ _ (by omega));intro _)|(with_reducible apply Bq;(exact fun _=>Ly _ (hm.f _ (by assumption)).n);intro _)|(with_reducible apply Bq;(exact fun _=>iP _ _ q);intro _)|(with_reducible apply Bq;(exact fun _=>o86 _ _ B);intro _)|(with_reducible apply Bq;(exact fun _=>o91 _);intro _)|(with_reducible apply Bq;(exact fun _=>o92 _ _ h);intro _)|(with_reducible apply Bq;(exact fun _=>o93 _ _ hm Cc);intro _)|(with_reducible apply Bq;(exact fun _=>o94 _ _ h (hm.f _ (by assumption)));intro _)|(with_reducible apply Bq;(exact fun _=>J1 _ _ _ _ _ (by omega) (hm.f _ (by assumption)).o);intro _)|with_reducible (first|refine Gv ?_ fun _=>?_|refine AM ?_ ?_)))
  all_goals try exact Cc
  have hx:=‹decide (0<(v:Int))=true→m.fields[((v:Int)-1).toNat]?=some (m.fields.getD ((v:Int)-1).toNat Rw.z)∧_›
  have he:=‹m.fields[v]?=some _›
  dsimp only
  refine⟨⟨by exact Cc,by omega,fun p=>⟨ZvN (b:=m.fields.getD ((v:Int)-1).toNat Rw.z) (c (by omega)).1 he fun k=>?_,fun j f n d=>?_⟩⟩,by exact Cc⟩
  have ev:((v:Int)-1).toNat=v-1:=by omega
  refine⟨ev▸(hx (Yn (by omega))).1,?_⟩
  rcases Int.lt_or_le (m.fields.getD ((v:Int)-1).toNat Rw.z).num (Fld.num _)with A|z
  ·exact A
  ·exfalso
   have H:=Yc _ _▸And.intro (Yn (show(0:Int)<v by omega)) (Yn z)
   grind
  ·rcases Nat.lt_or_eq_of_le (Nat.le_of_lt_succ n)with n|rfl
   ·exact(c (by omega)).2 j f n d
   ·rw[he]at d
    cases d
    refine⟨(show _=true→IU _ by assumption) (NU fun g=>?_),(show _=true→LA _ by assumption) (NU fun g=>?_),(show _=true→LH s _ by assumption) (NU fun g=>?_),(show _=true→∀f,m.fields[j]?=some f→NQ f by assumption) (NU fun g=>?_) _ he⟩
    all_goals(
     rw[Bool.not_eq_true]at g
     subst g
     simp only[CP,RJ]at*
     omega)
  have C:v=m.fields.length:=by exact Cc
  subst C
  exact⟨by exact Cc,fun p=>⟨(c p).1,fun j f d=>(c p).2 j f (Yb.1 d).1 d⟩⟩
 have F:∀a:List Prb,a.length≤20000000→Ok (Sum.elim (fun y:List Prb=>a.length≤y.length∧y.length≤a.length+m.gone.length) No) (Ai (V4 s m l) Ah (0,a)):=by
  intro a o
  refine Bt (fun v:Nat×List Prb=>v.1≤m.gone.length∧v.2.length≤a.length+v.1∧a.length≤v.2.length) (fun v:Nat×List Prb=>m.gone.length-v.1) ⟨by simp,by simp,by simp⟩ (BS (by omega)) fun v k=>?_
  obtain⟨v,r⟩:=v
  obtain⟨t,u,c⟩:=k
  dsimp only at t u c
  dsimp only[V4,ZzH,Zzn,Zzk,ki,br,ix,vz,wg,vs,ln,Af,lc,cl,wa,fl,Aj,br]
  (repeat' (first|with_reducible (first|refine AI (fun _=>?_) fun _=>?_|refine AF ?_|refine BQ ?_ fun _ _ _=>?_)|(with_reducible apply AG;(exact El _ _ _ _ _ (by omega));intro _ _)|(with_reducible apply AG;(exact iQ _ (hm.g _ (by assumption)));intro _ _)|with_reducible refine AM ?_ ?_))<;>exact AX
 dsimp only[cb,kQ,kH,nz,Zy9,mE,mO,mH,lU,lb,k8,nn,Zza,j6,kK,vz,vy,vw,wg,lr,lc,cl,fl,fr,Aj]
 (repeat' (first|with_reducible (first|refine AI (fun _=>?_) fun _=>?_|refine AF ?_)|(with_reducible apply BI;(exact D _ Cc);all_goals(intro _ _;try dsimp only))|(with_reducible apply BI;(exact F _ (by omega));all_goals(intro _ _;try dsimp only))|(with_reducible apply AG;(exact iO _ hm.n);intro _ _)|(with_reducible apply AG;(exact xb _ _ _ _);intro _ _)|(with_reducible apply AG;(exact El _ _ _ _ _ (by omega));intro _ _)|(with_reducible apply AG;(exact J1 _ _ _ _ _ (by omega) hm.o);intro _ _)|(with_reducible apply AG;(exact o96 _ _ _ _ _ (by omega) q);intro _ _)|(with_reducible apply AG;(exact o87 _ _ _ h hm hl);intro _ _)|with_reducible refine AM ?_ ?_))<;>exact AX
theorem o67(e:Enm)(hm:SzE e):Ok (fun y=>y.length≤20*(An (Cr e)+1)∧(y.length=0→LF e)) (cC e):=by
 have A:=ZS4 e
 have z:=hm.il
 have g:=hm.r
 have q:∀(v:Nat) (r:List Prb) (x:Itm),v≤e.items.length→Ok (Sum.elim Tr No) (Ai (Vs e v r x) Ah (false,0)):=by
  intro w r x B
  refine Bt (fun v:Bool×Nat=>v.2≤w) (fun v:Bool×Nat=>w-v.2) (by simp) (BS (by omega)) fun v f=>?_
  obtain⟨b,i⟩:=v
  dsimp only at f
  dsimp only[Vs,wr,br,ix,vz,wg,vs,ln,Af,wa,fl,br]
  (repeat' (first|with_reducible (first|refine AI (fun _=>?_) fun _=>?_|refine AF ?_|refine BQ ?_ fun _ _ _=>?_|refine AM ?_ ?_)))<;>exact AX
 have p:∀a:List Prb,a.length≤9→Ok (Sum.elim (fun y:List Prb=>a.length≤y.length∧y.length≤9+10*e.items.length) No) (Ai (Vo e) Ah (0,a)):=by
  intro a d
  refine Bt (fun v:Nat×List Prb=>v.1≤e.items.length∧a.length≤v.2.length∧v.2.length≤9+10*v.1) (fun v:Nat×List Prb=>e.items.length-v.1) ⟨by simp,by simp,by simpa using d⟩ (BS (by omega)) fun v f=>?_
  obtain⟨v,r⟩:=v
  obtain⟨m,o,n⟩:=f
  dsimp only at m n o
  dsimp only[Vo,mw,kB,ZzY,lR,l4,h9,ZzT,gO,sC,vX,qO,XO,qq,rZ,uk,oR,br,ix,AR,vz,wg,vs,vg,ln,Af,lc,cl,wa,wi,fl,Aj,br]
  (repeat' (first|with_reducible (first|refine AI (fun _=>?_) fun _=>?_|refine AF ?_|refine BQ ?_ fun _ _ _=>?_)|(with_reducible apply BI;(exact q _ _ _ (by omega));all_goals(intro _ _;try dsimp only))|(with_reducible apply AG;(exact El _ _ _ _ _ (by omega));intro _ _)|(with_reducible apply AG;(exact Ly _ (hm.i _ (by assumption)).n);intro _ _)|(with_reducible apply AG;(exact iP _ _ g);intro _ _)|(with_reducible apply AG;(exact J1 _ _ _ _ _ (by omega) (hm.i _ (by assumption)).o);intro _ _)|with_reducible (first|refine Gv ?_ fun _=>?_|refine AM ?_ ?_)))<;>exact AX
 dsimp only[cC,nk,nB,nh,jX,Zz7,ZzW,kD,mS,nR,jT,mn,mC,mi,AR,vz,vy,vw,wg,lr,lc,cl,fl,fr,Aj]
 (repeat' (first|with_reducible (first|refine AI (fun _=>?_) fun _=>?_|refine AF ?_)|(with_reducible apply BI;(exact p _ Cc);all_goals(intro _ _;try dsimp only))|(with_reducible apply AG;(exact iO _ hm.n);intro _ _)|(with_reducible apply AG;(exact El _ _ _ _ _ Cc);intro _ _)|(with_reducible apply AG;(exact J1 _ _ _ _ _ (by omega) hm.o);intro _ _)|(with_reducible apply AG;(exact o96 _ _ _ _ _ (by omega) g);intro _ _)|with_reducible (first|refine Gv ?_ fun _=>?_|refine AM ?_ ?_)))
 all_goals try exact AX
 rename_i C a0 D a1 E k x F a3 b a4 G s H t
 refine⟨by exact Cc,fun u=>?_⟩
 have l:¬(e.items.length:Int)<1:=fun h=>by
  have:=k.2.2 (by simp only[h,Yp,N1])
  omega
 have j:(0:Int)<e.items.length:=by omega
 refine⟨_,(x (Yn j)).1,Decidable.not_not.1 fun c=>?_⟩
 have:=a3.2.2 (by simp only[j,c,Yp,YW,CP,NX])
 omega
theorem o68(s:Scm)(e:Svc)(h:SzS s)(hm:SzW e):Ok (fun y=>y.length≤20*(An (Di e)+1)) (ce s e):=by
 have j:=ZTl e
 have i:=hm.ml
 have g:∀b:List Prb,b.length≤9→Ok (Sum.elim (fun y:List Prb=>y.length≤9+10*e.methods.length) No) (Ai (Vt s e) Ah (0,b)):=by
  intro b a
  refine Bt (fun v:Nat×List Prb=>v.1≤e.methods.length∧v.2.length≤9+10*v.1) (fun v:Nat×List Prb=>e.methods.length-v.1) ⟨by simp,by simpa using a⟩ (BS (by omega)) fun v f=>?_
  obtain⟨v,r⟩:=v
  obtain⟨c,d⟩:=f
  dsimp only at c d
  dsimp only[Vt,mF,lW,ZzC,kF,Zk,ur,qk,qW,vQ,u3,qC,qP,uZ,br,ix,AR,vz,wg,vs,vg,ln,Af,lc,cl,AH,wa,wi,fl,Aj,br]
  (repeat' (first|with_reducible (first|refine AI (fun _=>?_) fun _=>?_|refine AF ?_|refine BQ ?_ fun _ _ _=>?_)|(with_reducible apply AG;(exact El _ _ _ _ _ (by omega));intro _ _)|(with_reducible apply AG;(exact QO _ _ h);intro _ _)|(with_reducible apply AG;(exact Ly _ (hm.m _ (by assumption)).n);intro _ _)|(with_reducible apply AG;(exact J1 _ _ _ _ _ (by omega) (hm.m _ (by assumption)).o);intro _ _)|(with_reducible apply Bq;(exact fun _=>El _ _ _ _ _ (by omega));intro _)|(with_reducible apply Bq;(exact fun _=>QO _ _ h);intro _)|(with_reducible apply Bq;(exact fun _=>Ly _ (hm.m _ (by assumption)).n);intro _)|(with_reducible apply Bq;(exact fun _=>J1 _ _ _ _ _ (by omega) (hm.m _ (by assumption)).o);intro _)|with_reducible (first|refine Gv ?_ fun _=>?_|refine AM ?_ ?_)))<;>exact AX
 dsimp only[ce,ZzR,jM,la,jS,lP,ZzL,l7,ZzK,nu,vz,vw,wg,lr,lc,cl,fl,fr,Aj]
 (repeat' (first|with_reducible (first|refine AI (fun _=>?_) fun _=>?_|refine AF ?_)|(with_reducible apply BI;(exact g _ Cc);all_goals(intro _ _;try dsimp only))|(with_reducible apply AG;(exact iO _ hm.n);intro _ _)|(with_reducible apply AG;(exact xb _ _ _ _);intro _ _)|(with_reducible apply AG;(exact El _ _ _ _ _ (by omega));intro _ _)|(with_reducible apply AG;(exact J1 _ _ _ _ _ (by omega) hm.o);intro _ _)|with_reducible refine AM ?_ ?_))<;>exact AX
structure Few (s:Scm):Prop where
 m:s.messages.length≤150
 e:s.enums.length≤150
 w:s.services.length≤150
theorem o37{s:Scm}(hs:An (Al s)≤1048576):Ok (fun y=>y.length=0→(∀(i:Nat) (m:Msg),s.messages[i]?=some m→GdM0 s m)∧∀(i:Nat) (e:Enm),s.enums[i]?=some e→LF e) (cO s):=by
 have h:=Ft hs
 have u:=h.ml
 have w:=h.el
 have x:=h.wl
 have t:AE (s.messages.map AK)+AE (s.enums.map Cr)+AE (s.services.map Di)≤1048576:=by
  simp only[Al,An,bk]at hs
  omega
 have n:Ok (Sum.elim (fun y:List Prb=>y.length≤9) No) (Ai (VZ s) Ah (1,[])):=by
  refine Bt (fun v:Nat×List Prb=>1≤v.1∧v.1≤4∧v.2.length≤2*v.1) (fun v:Nat×List Prb=>4-v.1) ⟨by simp,by simp,by simp⟩ (BS (by omega)) fun v g=>?_
  obtain⟨v,r⟩:=v
  obtain⟨c,d,f⟩:=g
  dsimp only at c d f
  dsimp only[VZ,re,pH,n7,pU,oH,tt,qb,br,vz,wg,vs,ln,Af,lc,cl,wa,fl,Aj,br]
  (repeat' (first|with_reducible (first|refine AI (fun _=>?_) fun _=>?_|refine AF ?_)|(with_reducible apply AG;(exact iN _ _ h);intro _ _)|(with_reducible apply AG;(exact El _ _ _ _ _ (by omega));intro _ _)|(with_reducible apply AG;(exact o63 _ (by assumption));intro _ _)|with_reducible refine AM ?_ ?_))<;>exact AX
 have o:∀(a:List Prb) (l:List Bool),a.length≤10→l.length=s.messages.length→Ok (Sum.elim (fun y:List Prb=>y.length≤20971540∧(y.length=0→∀(i:Nat) (m:Msg),s.messages[i]?=some m→GdM0 s m)) No) (Ai (Wn s l) Ah (0,a)):=by
  intro a l b hl
  refine Bt (fun v:Nat×List Prb=>v.1≤s.messages.length∧v.2.length≤10+20*AE ((s.messages.take v.1).map AK)∧(v.2.length=0→∀(i:Nat) (m:Msg),i<v.1→s.messages[i]?=some m→GdM0 s m)) (fun v:Nat×List Prb=>s.messages.length-v.1) ⟨by simp,D7 b (LM _ _),fun _ i m hi=>by simp at hi⟩ (BS (by omega)) fun v g=>?_
  obtain⟨v,r⟩:=v
  obtain⟨c,d,f⟩:=g
  dsimp only at c d f
  have a1:=MM AK s.messages v
  have j:=MM AK s.messages (v+1)
  dsimp only[Wn,lg,XX,Zh,br,ix,vz,wg,vs,ln,Af,lc,aq,cl,wa,tw,fl,Aj,br]
  (repeat' (first|with_reducible (first|refine AI (fun _=>?_) fun _=>?_|refine AF ?_|refine BQ ?_ fun _ _ _=>?_)|(with_reducible apply AG;(exact o66 _ _ _ h (h.m _ (by assumption)) hl);intro _ _)|with_reducible refine AM ?_ ?_))<;>first|(have a3:=Tu AK ‹s.messages[v]?=some _›;exact AX)|exact AX
 have p:∀a:List Prb,a.length≤20971540→Ok (Sum.elim (fun y:List Prb=>a.length≤y.length∧y.length≤41943080∧(y.length=0→∀(i:Nat) (e:Enm),s.enums[i]?=some e→LF e)) No) (Ai (Wl s) Ah (0,a)):=by
  intro a b
  refine Bt (fun v:Nat×List Prb=>v.1≤s.enums.length∧v.2.length≤20971540+20*AE ((s.enums.take v.1).map Cr)∧a.length≤v.2.length∧(v.2.length=0→∀(i:Nat) (e:Enm),i<v.1→s.enums[i]?=some e→LF e)) (fun v:Nat×List Prb=>s.enums.length-v.1) ⟨by simp,D7 b (LM _ _),by simp,fun _ i e hi=>by simp at hi⟩ (BS (by omega)) fun v g=>?_
  obtain⟨v,r⟩:=v
  obtain⟨c,d,f,k⟩:=g
  dsimp only at c d f k
  have a1:=MM Cr s.enums v
  have j:=MM Cr s.enums (v+1)
  dsimp only[Wl,kj,iv,fW,br,ix,vz,wg,vs,ln,Af,lc,aq,cl,wa,tw,fl,Aj,br]
  (repeat' (first|with_reducible (first|refine AI (fun _=>?_) fun _=>?_|refine AF ?_|refine BQ ?_ fun _ _ _=>?_)|(with_reducible apply AG;(exact o67 _ (h.e _ (by assumption)));intro _ _)|with_reducible refine AM ?_ ?_))<;>first|(have a3:=Tu Cr ‹s.enums[v]?=some _›;exact AX)|exact AX
 have q:∀a:List Prb,a.length≤41943080→Ok (Sum.elim (fun y:List Prb=>a.length≤y.length) No) (Ai (VG s) Ah (0,a)):=by
  intro a b
  refine Bt (fun v:Nat×List Prb=>v.1≤s.services.length∧v.2.length≤41943080+20*AE ((s.services.take v.1).map Di)∧a.length≤v.2.length) (fun v:Nat×List Prb=>s.services.length-v.1) ⟨by simp,D7 b (LM _ _),by simp⟩ (BS (by omega)) fun v g=>?_
  obtain⟨v,r⟩:=v
  obtain⟨c,d,f⟩:=g
  dsimp only at c d f
  have a1:=MM Di s.services v
  have j:=MM Di s.services (v+1)
  dsimp only[VG,ni,iu,fE,br,ix,vz,wg,vs,ln,Af,lc,aq,cl,wa,tw,fl,Aj,br]
  (repeat' (first|with_reducible (first|refine AI (fun _=>?_) fun _=>?_|refine AF ?_|refine BQ ?_ fun _ _ _=>?_)|(with_reducible apply AG;(exact o68 _ _ h (h.w _ (by assumption)));intro _ _)|with_reducible refine AM ?_ ?_))<;>first|(have a3:=Tu Di ‹s.services[v]?=some _›;exact AX)|exact AX
 dsimp only[cO,ZzD,lm,Zzm,Zzg,kP,ZzP,j4,Zzu,ku,kM,nc,mm,vz,vw,wg,lr,lc,cl,AH,fl,fr]
 (repeat' (first|with_reducible (first|refine AI (fun _=>?_) fun _=>?_|refine AF ?_)|(with_reducible apply BI;(exact n);all_goals(intro _ _;try dsimp only))|(with_reducible apply BI;(exact o _ _ (by omega) (by assumption));all_goals(intro _ _;try dsimp only))|(with_reducible apply BI;(exact p _ (by omega));all_goals(intro _ _;try dsimp only))|(with_reducible apply BI;(exact q _ (by omega));all_goals(intro _ _;try dsimp only))|(with_reducible apply AG;(exact iN _ _ h);intro _ _)|(with_reducible apply AG;(exact o64 _ _ (by assumption) (by assumption));intro _ _)|(with_reducible apply AG;(exact o65 _ h);intro _ _)|(with_reducible apply AG;(exact El _ _ _ _ _ (by omega));intro _ _)|(with_reducible apply Bq;(exact fun _=>iN _ _ h);intro _)|(with_reducible apply Bq;(exact fun _=>o64 _ _ (by assumption) (by assumption));intro _)|(with_reducible apply Bq;(exact fun _=>o65 _ h);intro _)|(with_reducible apply Bq;(exact fun _=>El _ _ _ _ _ (by omega));intro _)|with_reducible refine AM ?_ ?_))<;>exact AX
theorem o16{s:Scm}(hs:An (Al s)≤1048576):Ok (fun b=>b=true→∀(i:Nat) (m:Msg),s.messages[i]?=some m→GdM s m) (SY s):=by
 have k:Ok (fun b=>b=true→(∀(i:Nat) (m:Msg),s.messages[i]?=some m→GdM0 s m)∧∀(i:Nat) (e:Enm),s.enums[i]?=some e→LF e) (SY s):=by
  dsimp only[SY,xM,vz,wg,lr,cl,Aj]
  (repeat' (first|with_reducible (first|refine AI (fun _=>?_) fun _=>?_|refine AF ?_)|(with_reducible apply AG;(exact o37 hs);intro _ _)|with_reducible refine AM ?_ ?_))<;>exact AX
 exact k.mono fun b h a i m hm=>⟨((h a).1 i m hm).asc,((h a).1 i m hm).df,(h a).2⟩
abbrev AO(v:Val):Prop:=An (Ae v)≤1048576
theorem Qy{v x:Val}(h:AO v)(hx:x∈v.list):AO x:=by
 have a:=Cu (e:=Az) hx
 rw[Dc]at a
 unfold AO at*
 conv at h=>unfold Ae
 simp only[An,bk]at h
 omega
theorem EH{v:Val}{x:Pr}(h:AO v)(hx:x∈v.pairs):AO x.key∧AO x.val:=by
 have a:=Cu (e:=Ap) hx
 have e:Ap x=Ae x.key++Ae x.val:=by rw[Lj];rfl
 rw[e,MQ]at a
 unfold AO at*
 conv at h=>unfold Ae
 simp only[An,bk]at h
 omega
theorem If{v:Val}{x:Slt}(h:AO v)(hx:x∈v.slots):AO x.val:=by
 have a:=Cu (e:=Aq) hx
 have e:Aq x=D.int .i64 x.num::Ae x.val:=by rw[La];rfl
 rw[e,An]at a
 unfold AO at*
 conv at h=>unfold Ae
 simp only[An,bk]at h
 omega
theorem TE{α:Type}(p:α→Bool):∀l:List α,l.find? p=(l.findIdx? p).bind fun i=>l[i]?
 |[]=>rfl
 |x::l=>by
  rw[List.find?_cons,List.findIdx?_cons]
  cases h:p x with
  |true=>simp
  |false=>
   rw[TE p l]
   cases List.findIdx? p l<;>simp
def C3{α:Type}[Inhabited α](l:List α)(z:α)(p:α→Bool):α×Bool:=(l.find? p).elim (z,false) fun x=>(x,true)
theorem PF{α:Type}[Inhabited α](l:List α)(z:α)(p:α→Bool):C3 l z p=match l.findIdx? p with|some i=>(l.getD i default,true)|none=>(z,false):=by
 unfold C3
 rw[TE]
 cases h:l.findIdx? p with
 |none=>rfl
 |some i=>
  have:=(Kg.1 h).1
  simp[this]
def zM:Msg:=.mk ⟨#[]⟩ [] [] [] []
def zF:Fld:=.mk 0 ⟨#[]⟩ 0 0 (.mk 0 ⟨#[]⟩) ⟨#[]⟩ false (.mk 0 0 ⟨#[]⟩ [] [] [] []) []
theorem WG(s:Scm)(n:ByteArray)(h:s.messages.length≤1048576):KX s n=some (C3 s.messages zM fun m=>decide (m.name=n)):=by
 have c:=Et (B:=Qp s n) (N:=Ah) s.messages (fun m=>decide (m.name=n)) (fun i=>(s.messages.getD i default,true)) () (fun i x hx=>by
  have a:=Bs hx
  have d:=(Yb.1 hx).1
  have b:i+1<9223372036854775808:=by omega
  dsimp only[Qp,Zp,br,ix,vz,wg,vs,At,ln,Af,wa,Aj,br]
  simp only[a,b,hx,Yp,Yt,Ya,Yg,YM]
  cases decide (x.name=n)<;>simp) (by simp[Qp,Zp,br,ix,vz,wg,vs,At,ln,Af,wa,Aj,br]) (AP (by omega))
 dsimp only[KX,ut,pA,rT,wg,lr,lc]
 rw[c,PF]
 cases s.messages.findIdx? fun m=>decide (m.name=n)<;>rfl
theorem m84(l:List Msg)(n:ByteArray)(h:l.length≤1048576):SW l (fun z=>Mt z n)=some (C3 l zM fun m=>decide (m.name=n)):=by
 have c:=Et (B:=Qu l fun z=>Mt z n) (N:=Ah) l (fun m=>decide (m.name=n)) (fun i=>(l.getD i default,true)) () (fun i x hx=>by
  have a:=Bs hx
  have d:=(Yb.1 hx).1
  have b:i+1<9223372036854775808:=by omega
  have e:Mt x n=some (decide (x.name=n)):=rfl
  dsimp only[Qu,XD,br,ix,wg,vs,At,ln,Af,cf,wa,br]
  simp only[a,b,hx,e,Yp,Yt,Ya,Yg,YM]
  cases decide (x.name=n)<;>simp) (by simp[Qu,XD,br,ix,wg,vs,At,ln,Af,cf,wa,br]) (AP (by omega))
 dsimp only[SW,uW,vn,sW,vz,wg,lr,lc,Aj]
 rw[c,PF]
 cases l.findIdx? fun m=>decide (m.name=n)<;>rfl
theorem MP{s:Scm}(h:SzS s)(n:ByteArray):(C3 s.messages zM fun m=>decide (m.name=n)).1.fields.length≤1048576:=by
 unfold C3
 cases e:s.messages.find? fun m=>decide (m.name=n)with
 |none=>simp[zM]
 |some m=>exact(h.m _ (HI e)).fl
theorem wj{v x:Val}(hx:x∈v.list):An (Ae x)<An (Ae v):=by
 have a:=Cu (e:=Az) hx
 rw[Dc]at a
 conv=>rhs;unfold Ae
 simp only[An,bk]
 omega
theorem VW{v:Val}{x:Pr}(hx:x∈v.pairs):An (Ae x.key)<An (Ae v)∧An (Ae x.val)<An (Ae v):=by
 have b:=Cu (e:=Ap) hx
 have e:Ap x=Ae x.key++Ae x.val:=by rw[Lj];rfl
 rw[e,MQ]at b
 have a:An (Ae v)=An [.int .i64 v.kind,.int .u64 v.bits,.str v.text,.list (v.list.map Az),.list (v.pairs.map Ap),.list (v.slots.map Aq),.list (v.raws.map Av)]:=rfl
 rw[a]
 simp only[An,bk]
 omega
theorem rj{v:Val}{x:Slt}(hx:x∈v.slots):An (Ae x.val)<An (Ae v):=by
 have a:=Cu (e:=Aq) hx
 have e:Aq x=D.int .i64 x.num::Ae x.val:=by rw[La];rfl
 rw[e,An]at a
 have b:An (Ae v)=An [.int .i64 v.kind,.int .u64 v.bits,.str v.text,.list (v.list.map Az),.list (v.pairs.map Ap),.list (v.slots.map Aq),.list (v.raws.map Av)]:=rfl
 rw[b]
 simp only[An,bk]at a⊢
 omega
def Bo(F:List Fld)(k:Int):Fld×Bool:=C3 F zF fun f=>decide (f.num=k)
def AW(F:List Fld)(k:Int):Fld:=(Bo F k).1
def Ax(s:Scm)(n:ByteArray):List Fld:=(C3 s.messages zM fun m=>decide (m.name=n)).1.fields
theorem n61(s:Scm)(n:ByteArray)(h:s.messages.length≤1048576):S7 s n=some (C3 s.messages zM fun m=>decide (m.name=n)):=by
 dsimp only[S7,nZ,wg,lr,cs]
 rw[m84 _ _ h]
 rfl
theorem n74(l:List Fld)(k:Int)(h:l.length≤1048576):S1 l (fun z=>My z k)=some (Bo l k):=by
 have c:=Et (B:=Qz l fun z=>My z k) (N:=Ah) l (fun f=>decide (f.num=k)) (fun i=>(l.getD i default,true)) () (fun i x hx=>by
  have a:=Bs hx
  have d:=(Yb.1 hx).1
  have b:i+1<9223372036854775808:=by omega
  have e:My x k=some (decide (x.num=k)):=rfl
  dsimp only[Qz,XL,br,ix,wg,vs,At,ln,Af,cf,wa,br]
  simp only[a,b,hx,e,Yp,Yt,Ya,Yg,YM]
  cases decide (x.num=k)<;>simp) (by simp[Qz,XL,br,ix,wg,vs,At,ln,Af,cf,wa,br]) (AP (by omega))
 dsimp only[S1,uD,oz,tf,vz,wg,lr,lc,Aj]
 unfold Bo
 rw[c,PF]
 cases l.findIdx? fun m=>decide (m.num=k)<;>rfl
theorem n43(m:Msg)(k:Int)(h:m.fields.length≤1048576):dE m k=some (Bo m.fields k):=by
 dsimp only[dE,qD,wg,lr,cs]
 rw[n74 _ _ h]
 rfl
theorem iL(m:Msg)(k:Int)(h:m.fields.length≤1048576):cY m k=some (Bo m.fields k):=by
 have c:=Et (B:=P9 m k) (N:=Ah) m.fields (fun f=>decide (f.num=k)) (fun i=>(m.fields.getD i default,true)) () (fun i x hx=>by
  have a:=Bs hx
  have d:=(Yb.1 hx).1
  have b:i+1<9223372036854775808:=by omega
  dsimp only[P9,gc,br,ix,vz,wg,vs,At,ln,Af,wa,Aj,br]
  simp only[a,b,hx,Yp,Yt,Ya,Yg,YM]
  cases decide (x.num=k)<;>simp) (by simp[P9,gc,br,ix,vz,wg,vs,At,ln,Af,wa,Aj,br]) (AP (by omega))
 dsimp only[cY,kl,ZzQ,Zzd,wg,lr,lc]
 unfold Bo
 rw[c,PF]
 cases m.fields.findIdx? fun f=>decide (f.num=k)<;>rfl
def CU{α:Type}(l:List α)(p:α→Bool):Int:=match l.findIdx? p with
 |some i=>(i:Int)
 |none=>-1
theorem ZD3{α:Type}(l:List α)(p:α→Bool):decide (0≤CU l p)=l.any p:=by
 unfold CU
 rw[←NS]
 cases l.findIdx? p with
 |none=>rfl
 |some i=>simp
theorem n70(l:List Slt)(f:Slt→Option Bool)(p:Slt→Bool)(d:∀x∈l,f x=some (p x))(h:l.length<4611686018427387904):Td l f=some (CU l p):=by
 have e:=Et (B:=Qd l f) (N:=Ah) l p (fun i=>(i:Int)) () (fun i x hx=>by
  have a:=Bs hx
  have g:=(Yb.1 hx).1
  have b:i+1<9223372036854775808:=by omega
  have c:=d x (Yj hx)
  dsimp only[Qd,Zu,br,ix,vs,At,ln,Af,cf,wa,br]
  simp only[a,b,c,hx,Yp,Yt,Ya]
  cases p x<;>simp) (by simp[Qd,Zu,br,ix,vs,At,ln,Af,cf,wa,br]) (AP h)
 dsimp only[Td,pT,pQ,pk,vz,lr,lc,Aj]
 rw[e]
 unfold CU
 cases l.findIdx? p<;>rfl
def BM(l:List Slt)(k:Int):Bool:=l.any fun x=>decide (x.num=k)
theorem n19(v:Val)(k:Int)(h:v.slots.length<4611686018427387904):di v k=some (BM v.slots k):=by
 dsimp only[di,vV,wg,lr,cl,yF,nX,lr,cs]
 rw[n70 v.slots (fun z=>SZ z k) (fun x=>decide (x.num=k)) (fun x _=>rfl) h]
 simp only[Ya]
 rw[ZD3]
 rfl
theorem ZTU{v:Val}{x:Raw}(h:AO v)(hx:x∈v.raws):x.data.size≤1048576:=by
 have a:=Cu (e:=Av) hx
 unfold AO at h
 conv at h=>unfold Ae
 simp only[An,bk,Av]at h a
 omega
theorem TT{F:List Fld}{k:Int}(h:(Bo F k).2=true):(AW F k).num=k:=by
 unfold AW Bo C3 at*
 cases e:F.find? fun f=>decide (f.num=k)with
 |none=>rw[e]at h;cases h
 |some f=>exact YZ (p:=f.num=k) (Ry (p:=fun f:Fld=>decide (f.num=k)) e)
abbrev V7:=Scm→Fld→Val→Int→Bool→Option Int
end Go.Proofs.YtbcmdieedjamgaaGreat
