import Derived.Test.YtopncadjpnkjhaaGreatDoorZj18
import Derived.Test.YtopncadjpnkjhaaGreatDoorZj00
namespace Go.Proofs.YtopncadjpnkjhaaGreatDoor
set_option linter.all false
open Go Go.Eng
theorem Wr(x:ByteArray):x.data.toList.length=x.size:=by rw[EU];rfl
theorem Bx{n:Nat}(h:n≤2097152):n<Ah:=by unfold Ah;omega
theorem p6(x:ByteArray)(h:x.size≤1048576):Ok Tr (Pp x):=by
 have q:Ok Ts (Ak (JY x) Ah 0):=by
  refine Bh (fun v:Int=>0≤v∧v≤x.size+4) (fun v:Int=>(x.size+4-v).toNat) ⟨by omega,by omega⟩ (Bx (by omega)) fun v a=>?_
  dsimp only[JY,br,vz,vs,Am,ln,Ai,cl,wi,AR,br]
  (repeat' (first|with_reducible (first|refine AC (fun _=>?_) fun _=>?_|refine AB ?_)|(with_reducible apply Ax;(exact pj _ _ a.1 BO h);intro _ _)|with_reducible refine AD ?_ ?_))<;>exact AK
 dsimp only[Pp,lr,lc]
 (repeat' (first|with_reducible (first|refine AC (fun _=>?_) fun _=>?_|refine AB ?_)|(with_reducible apply Bo;(exact q);all_goals(intro _ _;try dsimp only))|with_reducible refine AD ?_ ?_))<;>exact BO
theorem Zp(x:ByteArray)(h:x.size≤1048576):Ok Tr (JB x):=by
 dsimp only[JB,lr,cl]
 (repeat' (first|with_reducible (first|refine AC (fun _=>?_) fun _=>?_|refine AB ?_)|(with_reducible apply Ax;(exact p6 _ h);intro _ _)|with_reducible refine AD ?_ ?_))<;>exact BO
theorem OK(x:ByteArray)(h:x.size≤1048576):Ok Tr (UK x):=by
 have hl:=Wr x
 have q:Ok Ts (Ak (QN x) Ah 1):=by
  refine Bh (fun v:Nat=>v≤1048577) (fun v:Nat=>1048577-v) (by omega) (Bx (by omega)) fun v a=>?_
  dsimp only[QN,br,vz,vs,Am,ln,Ai,cl,Aw,wa,AR,br,ib,EQ]
  (repeat' (first|with_reducible (first|refine AC (fun _=>?_) fun _=>?_|refine AB ?_|refine Bu ?_ fun _ _ _=>?_)|(with_reducible apply Ax;(exact OX _);intro _ _)|(with_reducible apply Ax;(exact Pb _);intro _ _)|(with_reducible apply Bb;(exact fun _=>OX _);intro _)|(with_reducible apply Bb;(exact fun _=>Pb _);intro _)|with_reducible refine AD ?_ ?_))<;>exact AK
 dsimp only[UK,br,vz,vy,lr,lc,Aw,AR,br,EQ]
 (repeat' (first|with_reducible (first|refine AC (fun _=>?_) fun _=>?_|refine AB ?_)|(with_reducible apply Bo;(exact q);all_goals(intro _ _;try dsimp only))|(with_reducible apply Ax;(exact OX _);intro _ _)|(with_reducible apply Ax;(exact Pb _);intro _ _)|(with_reducible apply Bb;(exact fun _=>OX _);intro _)|(with_reducible apply Bb;(exact fun _=>Pb _);intro _)|with_reducible refine AD ?_ ?_))<;>exact BO
theorem pt(x:ByteArray)(h:x.size≤1048576):Ok Tr (UJ x):=by
 have hl:=Wr x
 have q:Ok (Sum.elim (fun b:ByteArray=>b.size≤1048576) Tr) (Ak (QD x) Ah (⟨#[]⟩,0)):=by
  refine Bh (fun v:ByteArray×Nat=>v.1.size≤v.2∧v.2≤x.size) (fun v:ByteArray×Nat=>x.size-v.2) ⟨by rw[mX];omega,by omega⟩ (Bx (by omega)) fun v a=>?_
  obtain⟨v,i⟩:=v
  obtain⟨a,hi⟩:=a
  dsimp only at a hi
  dsimp only[QD,br,vz,vs,v2,Am,ln,Ai,ad,cl,wa,ss,AR,br,ib]
  (repeat' (first|with_reducible (first|refine AC (fun _=>?_) fun _=>?_|refine AB ?_|refine Bu ?_ fun _ _ _=>?_)|(with_reducible apply Ax;(exact OK _ (by omega));intro _ _)|with_reducible (first|refine aV ?_ ?_|refine AD ?_ ?_)))<;>exact AK
 dsimp only[UJ,br,vz,lr,lc,cl,AR,br]
 (repeat' (first|with_reducible (first|refine AC (fun _=>?_) fun _=>?_|refine AB ?_)|(with_reducible apply Bo;(exact q);all_goals(intro _ _;try dsimp only))|(with_reducible apply Ax;(exact OK _ (by assumption));intro _ _)|with_reducible refine AD ?_ ?_))<;>exact BO
set_option maxRecDepth 20000 in
theorem p5(x:ByteArray)(h:x.size≤1048576):Ok (fun y=>y.1.size≤1048576∧y.2.size≤1048576) (Up x):=by
 have hl:=Wr x
 have q:Ok (Sum.elim Tr (fun y:ByteArray×ByteArray=>y.1.size≤1048576∧y.2.size≤1048576)) (Ak (Qw x) Ah ((x.size:Int)-1)):=by
  refine Bh (fun v:Int=>-1≤v∧v<x.size) (fun v:Int=>(v+1).toNat) ⟨by omega,by omega⟩ (Bx (by omega)) fun v hv=>?_
  dsimp only[Qw,br,vs,Am,ln,Ai,wi,ss,br,NB]
  (repeat' (first|with_reducible (first|refine AC (fun _=>?_) fun _=>?_|refine AB ?_|refine Bu ?_ fun _ _ _=>?_|refine aV ?_ ?_|refine AD ?_ ?_)))<;>exact AK
 dsimp only[Up,vz,vs,lr,lc,wi,AR]
 (repeat' (first|with_reducible (first|refine AC (fun _=>?_) fun _=>?_|refine AB ?_)|(with_reducible apply Bo;(exact q);all_goals(intro _ _;try dsimp only))|with_reducible refine AD ?_ ?_))<;>exact AK
set_option maxRecDepth 20000 in
theorem Zn(x:ByteArray)(h:x.size≤1048576):Ok Tr (UL x):=by
 have q:Ok Ts (Ak RI Ah (x,0)):=by
  refine Bh (fun v:ByteArray×Nat=>v.1.size≤1048576∧v.2≤120) (fun v:ByteArray×Nat=>120-v.2) ⟨h,by omega⟩ (Bx (by omega)) fun v hv=>?_
  obtain⟨v,i⟩:=v
  obtain⟨hv,hi⟩:=hv
  dsimp only at hv hi
  dsimp only[RI,br,vs,v2,Am,ln,Ai,cl,wa,br]
  (repeat' (first|with_reducible (first|refine AC (fun _=>?_) fun _=>?_|refine AB ?_)|(with_reducible apply Ax;(exact p5 _ hv);intro _ _)|(with_reducible apply Ax;(exact S7 _);intro _ _)|with_reducible refine AD ?_ ?_))<;>exact AK
 dsimp only[UL,br,lr,lc,cl,br]
 (repeat' (first|with_reducible (first|refine AC (fun _=>?_) fun _=>?_|refine AB ?_)|(with_reducible apply Bo;(exact q);all_goals(intro _ _;try dsimp only))|(with_reducible apply Ax;(exact pt _ h);intro _ _)|with_reducible refine AD ?_ ?_))<;>exact AK
set_option maxRecDepth 20000 in
theorem Ja(x:ByteArray)(h:x.size≤1048576):Ok Tr (Uh x):=by
 dsimp only[Uh,lr,cl,Aw]
 (repeat' (first|with_reducible (first|refine AC (fun _=>?_) fun _=>?_|refine AB ?_)|(with_reducible apply Ax;(exact OK _ h);intro _ _)|(with_reducible apply Ax;(exact S7 _);intro _ _)|(with_reducible apply Bb;(exact fun _=>OK _ h);intro _)|(with_reducible apply Bb;(exact fun _=>S7 _);intro _)|with_reducible refine AD ?_ ?_))<;>exact AK
theorem mO(l:List ByteArray)(x:ByteArray)(h:l.length≤1048576):Ok Tr (Ma l x):=by
 have q:Ok Ts (Ak (Kf l x) Ah 0):=by
  refine Bh (fun v:Nat=>v≤l.length) (fun v:Nat=>l.length-v) (by omega) (Bx (by omega)) fun v a=>?_
  dsimp only[Kf,br,ix,vz,vs,Am,ln,Ai,wa,Ag,br]
  (repeat' (first|with_reducible (first|refine AC (fun _=>?_) fun _=>?_|refine AB ?_|refine Bu ?_ fun _ _ _=>?_|refine AD ?_ ?_)))<;>exact AK
 dsimp only[Ma,lr,lc]
 (repeat' (first|with_reducible (first|refine AC (fun _=>?_) fun _=>?_|refine AB ?_)|(with_reducible apply Bo;(exact q);all_goals(intro _ _;try dsimp only))|with_reducible refine AD ?_ ?_))<;>exact AK
theorem Zo(l:List Spn)(x:Int)(h:l.length≤1048576):Ok Tr (UF l x):=by
 have q:Ok Ts (Ak (RM l x) Ah 0):=by
  refine Bh (fun v:Nat=>v≤l.length) (fun v:Nat=>l.length-v) (by omega) (Bx (by omega)) fun v a=>?_
  dsimp only[RM,br,ix,A8,vz,vs,Am,ln,Ai,wa,Ag,br]
  (repeat' (first|with_reducible (first|refine AC (fun _=>?_) fun _=>?_|refine AB ?_|refine Bu ?_ fun _ _ _=>?_|refine E1 ?_ fun _=>?_|refine AD ?_ ?_)))<;>exact AK
 dsimp only[UF,lr,lc]
 (repeat' (first|with_reducible (first|refine AC (fun _=>?_) fun _=>?_|refine AB ?_)|(with_reducible apply Bo;(exact q);all_goals(intro _ _;try dsimp only))|with_reducible refine AD ?_ ?_))<;>exact AK
theorem NC(s:Scm)(x:ByteArray)(h:SzS s):Ok (fun y:Int=>y<s.messages.length∧(0≤y→∃m∈s.messages,m.name=x)) (Ug s x):=by
 have hm:=h.ml
 have q:Ok (Sum.elim Tr fun y:Int=>y<s.messages.length∧(0≤y→∃m∈s.messages,m.name=x)) (Ak (Ru s x) Ah 0):=by
  refine Bh (fun v:Nat=>v≤s.messages.length) (fun v:Nat=>s.messages.length-v) (by omega) (Bx (by omega)) fun v a=>?_
  dsimp only[Ru,br,ix,vz,wg,vs,Am,ln,Ai,wa,Ag,br]
  (repeat' (first|with_reducible (first|refine AC (fun _=>?_) fun _=>?_|refine AB ?_|refine Bu ?_ fun _ _ _=>?_|refine AD ?_ ?_)))<;>first|exact⟨by omega,fun _=>⟨_,by assumption,Em (by assumption)⟩⟩|exact AK
 dsimp only[Ug,lr,lc]
 (repeat' (first|with_reducible (first|refine AC (fun _=>?_) fun _=>?_|refine AB ?_)|(with_reducible apply Bo;(exact q);all_goals(intro _ _;try dsimp only))|with_reducible refine AD ?_ ?_))<;>first|exact⟨by omega,fun h=>absurd h (by decide)⟩|exact AK
theorem T4(s:Scm)(x:ByteArray)(h:SzS s):Ok (fun y:Int=>y<s.enums.length∧(0≤y→∃m∈s.enums,m.name=x)) (UH s x):=by
 have hm:=h.el
 have q:Ok (Sum.elim Tr fun y:Int=>y<s.enums.length∧(0≤y→∃m∈s.enums,m.name=x)) (Ak (QG s x) Ah 0):=by
  refine Bh (fun v:Nat=>v≤s.enums.length) (fun v:Nat=>s.enums.length-v) (by omega) (Bx (by omega)) fun v a=>?_
  dsimp only[QG,br,ix,vz,wg,vs,Am,ln,Ai,wa,Ag,br]
  (repeat' (first|with_reducible (first|refine AC (fun _=>?_) fun _=>?_|refine AB ?_|refine Bu ?_ fun _ _ _=>?_|refine AD ?_ ?_)))<;>first|exact⟨by omega,fun _=>⟨_,by assumption,Em (by assumption)⟩⟩|exact AK
 dsimp only[UH,lr,lc]
 (repeat' (first|with_reducible (first|refine AC (fun _=>?_) fun _=>?_|refine AB ?_)|(with_reducible apply Bo;(exact q);all_goals(intro _ _;try dsimp only))|with_reducible refine AD ?_ ?_))<;>first|exact⟨by omega,fun h=>absurd h (by decide)⟩|exact AK
theorem OF(v w:Val)(h:SzV v)(k:SzV w):Ok Tr (Uf v w):=by
 obtain⟨_,_,_,_,_⟩:=h
 obtain⟨_,_,_,_,_⟩:=k
 dsimp only[Uf,vy,wg,vg,lr,wa,Ag]
 (repeat' (first|with_reducible (first|refine AC (fun _=>?_) fun _=>?_|refine AB ?_|refine AD ?_ ?_)))<;>exact AK
def Z4(v:Val):Prop:=v.list=[]∧v.pairs=[]∧v.slots=[]∧v.raws=[]∧(v.kind=7∨v.kind=8→v.bits=0)∧(¬(v.kind=7∨v.kind=8)→v.text=⟨#[]⟩)
def Lm(n:Int)(v:Val):Prop:=1≤n∧n≤9∧v.kind=n∧Z4 v
theorem oS{n:Int}{v:Val}(h:SzV v)(e:Hm n v=some true):Lm n v:=by
 obtain⟨p,q,r,s,t⟩:=h
 have k:v.list.length<4611686018427387904:=by omega
 have l:v.pairs.length<4611686018427387904:=by omega
 have m:v.slots.length<4611686018427387904:=by omega
 have o:v.raws.length<4611686018427387904:=by omega
 have hi:Ps n=some (decide (1≤n)&&decide (n≤9)):=rfl
 dsimp only[Hm,br,vz,vy,wg,lr,cl,Aw,AR,br,L9,vz,vy,wg,lr,Ag,L6,lr]at e
 rw[hi]at e
 unfold Lm Z4
 simp only[Yc]at e
 generalize JB v.text=w at e
 simp[k,l,m,o]at e
 split at e
 ·cases e
 ·rename_i c
  simp only[not_or,Decidable.not_not,Classical.not_imp,Int.not_lt]at c
  obtain⟨⟨⟨d,f⟩,b⟩,⟨⟨g,i⟩,j⟩,c6⟩:=c
  refine⟨d,f,b,g,i,j,c6,fun a=>?_,fun a=>?_⟩
  ·rw[b]at a
   simp only[a,Yv]at e
   split at e<;>simp_all
  ·rw[b]at a
   simp only[a,YL]at e
   split at e<;>simp_all
theorem Pa(n:Int)(v:Val)(h:SzV v):Ok (fun b=>b=true→Lm n v) (Hm n v):=by
 have a:=h.t
 have q:Ok Tr (Hm n v):=by
  have c:Ok Tr (Ps n):=⟨_,rfl,trivial⟩
  dsimp only[Hm,br,vz,vy,wg,lr,cl,Aw,AR,br]
  (repeat' (first|with_reducible (first|refine AC (fun _=>?_) fun _=>?_|refine AB ?_)|(with_reducible apply Ax;(exact c);intro _ _)|(with_reducible apply Ax;(exact cF _);intro _ _)|(with_reducible apply Ax;(exact cK _);intro _ _)|(with_reducible apply Ax;(exact Zp _ a);intro _ _)|(with_reducible apply Bb;(exact fun _=>c);intro _)|(with_reducible apply Bb;(exact fun _=>cF _);intro _)|(with_reducible apply Bb;(exact fun _=>cK _);intro _)|(with_reducible apply Bb;(exact fun _=>Zp _ a);intro _)|with_reducible refine AD ?_ ?_))<;>exact AK
 obtain⟨b,e,_⟩:=q
 exact⟨b,e,fun d=>oS h (d▸e)⟩
theorem dl(v:Val)(h:SzV v):Ok SzV (UC v):=by
 dsimp only[UC,br,wg,lr,Aw,br]
 (repeat' (first|with_reducible (first|refine AC (fun _=>?_) fun _=>?_|refine AB ?_)|(with_reducible apply Ax;(exact cV _);intro _ _)|(with_reducible apply Bb;(exact fun _=>cV _);intro _)|with_reducible refine AD ?_ ?_))<;>first|exact h|exact⟨h.t,h.l,h.p,h.s,h.r⟩
theorem qt(x:Nt)(h:SzN x):Ok Tr (Ux x):=by
 dsimp only[Ux,wg,lr,cl,Aw]
 (repeat' (first|with_reducible (first|refine AC (fun _=>?_) fun _=>?_|refine AB ?_)|(with_reducible apply Ax;(exact Tg _);intro _ _)|(with_reducible apply Ax;(exact Pa _ _ h.v);intro _ _)|(with_reducible apply Bb;(exact fun _=>Tg _);intro _)|(with_reducible apply Bb;(exact fun _=>Pa _ _ h.v);intro _)|with_reducible refine AD ?_ ?_))<;>exact AK
theorem qy(l:List Nt)(n:Int)(h:GQ l):Ok Tr (Uo l n):=by
 obtain⟨b,a⟩:=h
 have q:Ok Ts (Ak (QT l n) Ah 0):=by
  refine Bh (fun v:Nat=>v≤l.length) (fun v:Nat=>l.length-v) (by omega) (Bx (by omega)) fun v c=>?_
  dsimp only[QT,br,ix,A8,vz,vs,vg,Am,ln,Ai,cl,wa,wi,Ag,br]
  (repeat' (first|with_reducible (first|refine AC (fun _=>?_) fun _=>?_|refine AB ?_|refine Bu ?_ fun _ _ _=>?_)|(with_reducible apply Ax;(exact Tg _);intro _ _)|(with_reducible apply Ax;(exact pI _ _);intro _ _)|(with_reducible apply Ax;(exact qt _ (a _ (by assumption)));intro _ _)|with_reducible (first|refine E1 ?_ fun _=>?_|refine AD ?_ ?_)))<;>exact AK
 dsimp only[Uo,br,vz,lr,lc,Ag,br]
 (repeat' (first|with_reducible (first|refine AC (fun _=>?_) fun _=>?_|refine AB ?_)|(with_reducible apply Bo;(exact q);all_goals(intro _ _;try dsimp only))|with_reducible refine AD ?_ ?_))<;>exact AK
end Go.Proofs.YtopncadjpnkjhaaGreatDoor
namespace Go.Proofs.YtopncadjpnkjhaaGreatDoor
set_option linter.all false
open Go Go.Eng
theorem Dz(d:ByteArray)(l:List Prb)(b:Bool)(n e:Int)(h:l.length<549755813887):Ok (fun y=>l.length≤y.length∧y.length≤l.length+1∧(b=true→l.length+1≤y.length)) (Bc d l b n e):=by
 dsimp only[Bc,Xr,XZ,vz,vw,wg,lr,lc,ap,Jd,fl]
 (repeat' (first|with_reducible (first|refine AC (fun _=>?_) fun _=>?_|refine AB ?_|refine AD ?_ ?_)))<;>first|exact AK|simp_all
theorem H8(d:ByteArray)(l:List Prb)(x:List Nt)(t n:Int)(h:l.length<549755813887)(a:GQ x):Ok (fun y=>l.length≤y.length∧y.length≤l.length+1) (Gb d l x t n):=by
 dsimp only[Gb,XB,vz,lr,lc,cl,fl]
 (repeat' (first|with_reducible (first|refine AC (fun _=>?_) fun _=>?_|refine AB ?_)|(with_reducible apply Ax;(exact qy _ _ a);intro _ _)|(with_reducible apply Ax;(exact Dz _ _ _ _ _ h);intro _ _)|with_reducible refine AD ?_ ?_))<;>exact AK
theorem mT(d:ByteArray)(l:List Prb)(x:List Spn)(t n:Int)(h:l.length<500000000000)(f:x.length≤1048576):Ok (fun y=>l.length≤y.length∧y.length≤l.length+2*x.length) (L3 d l x t n):=by
 have q:Ok (Sum.elim (fun y:List Prb=>l.length≤y.length∧y.length≤l.length+2*x.length) No) (Ak (RD d x t n) Ah (0,l)):=by
  refine Bh (fun v:Nat×List Prb=>v.1≤x.length∧l.length≤v.2.length∧v.2.length≤l.length+2*v.1) (fun v:Nat×List Prb=>x.length-v.1) ⟨by omega,by simp,by simp⟩ (Bx (by omega)) fun v e=>?_
  obtain⟨i,r⟩:=v
  obtain⟨a,b,c⟩:=e
  dsimp only at a b c
  dsimp only[RD,X0,Xp,br,ix,A8,vz,vs,vg,ln,Ai,lc,wa,wi,fl,Ag,br]
  (repeat' (first|with_reducible (first|refine AC (fun _=>?_) fun _=>?_|refine AB ?_|refine Bu ?_ fun _ _ _=>?_)|(with_reducible apply Ax;(exact Dz _ _ _ _ _ (by omega));intro _ _)|with_reducible (first|refine E1 ?_ fun _=>?_|refine AD ?_ ?_)))<;>exact AK
 dsimp only[L3,XF,vz,lr,lc,fl]
 (repeat' (first|with_reducible (first|refine AC (fun _=>?_) fun _=>?_|refine AB ?_)|(with_reducible apply Bo;(exact q);all_goals(intro _ _;try dsimp only))|with_reducible refine AD ?_ ?_))<;>exact AK
theorem Zm(s:Scm)(w:Int)(h:SzS s):Ok (fun y=>y.length≤3145728) (Ut s w):=by
 have a:=h.ml
 have b:=h.el
 have j:=h.wl
 have e:Ok (Sum.elim (fun y:List ByteArray=>y.length≤1048576) No) (Ak (Q8 s w) Ah ([],0)):=by
  refine Bh (fun v:List ByteArray×Nat=>v.2≤s.messages.length∧v.1.length≤v.2) (fun v:List ByteArray×Nat=>s.messages.length-v.2) ⟨by omega,by simp⟩ (Bx (by omega)) fun v c=>?_
  obtain⟨r,i⟩:=v
  obtain⟨a,b⟩:=c
  dsimp only at a b
  dsimp only[Q8,br,ix,vz,vy,vw,wg,vs,v2,ln,Ai,ap,wa,fl,Ag,br]
  (repeat' (first|with_reducible (first|refine AC (fun _=>?_) fun _=>?_|refine AB ?_|refine Bu ?_ fun _ _ _=>?_|refine AD ?_ ?_)))<;>exact AK
 have f:∀r:List ByteArray,r.length≤1048576→Ok (Sum.elim (fun y:List ByteArray=>y.length≤2097152) No) (Ak (Q3 s w) Ah (r,0)):=by
  intro r d
  refine Bh (fun v:List ByteArray×Nat=>v.2≤s.enums.length∧v.1.length≤1048576+v.2) (fun v:List ByteArray×Nat=>s.enums.length-v.2) ⟨by omega,by simpa using d⟩ (Bx (by omega)) fun v c=>?_
  obtain⟨r,i⟩:=v
  obtain⟨a,b⟩:=c
  dsimp only at a b
  dsimp only[Q3,br,ix,vz,vy,vw,wg,vs,ln,Ai,ap,wa,fl,Ag,br]
  (repeat' (first|with_reducible (first|refine AC (fun _=>?_) fun _=>?_|refine AB ?_|refine Bu ?_ fun _ _ _=>?_|refine AD ?_ ?_)))<;>exact AK
 have g:∀r:List ByteArray,r.length≤2097152→Ok (Sum.elim (fun y:List ByteArray=>y.length≤3145728) No) (Ak (Q7 s w) Ah (r,0)):=by
  intro r d
  refine Bh (fun v:List ByteArray×Nat=>v.2≤s.services.length∧v.1.length≤2097152+v.2) (fun v:List ByteArray×Nat=>s.services.length-v.2) ⟨by omega,by simpa using d⟩ (Bx (by omega)) fun v c=>?_
  obtain⟨r,i⟩:=v
  obtain⟨a,b⟩:=c
  dsimp only at a b
  dsimp only[Q7,br,ix,vz,vy,vw,wg,vs,ln,Ai,ap,wa,fl,Ag,br]
  (repeat' (first|with_reducible (first|refine AC (fun _=>?_) fun _=>?_|refine AB ?_|refine Bu ?_ fun _ _ _=>?_|refine AD ?_ ?_)))<;>exact AK
 dsimp only[Ut,vz,vw,lr,lc,fl,fr]
 (repeat' (first|with_reducible (first|refine AC (fun _=>?_) fun _=>?_|refine AB ?_)|(with_reducible apply Bo;(exact e);all_goals(intro _ _;try dsimp only))|(with_reducible apply Bo;(exact f _ (by assumption));all_goals(intro _ _;try dsimp only))|(with_reducible apply Bo;(exact g _ (by assumption));all_goals(intro _ _;try dsimp only))|with_reducible refine AD ?_ ?_))<;>exact AK
theorem yP(l:List ByteArray)(h:l.length≤3145728):Ok Tr (Ue l):=by
 have q:Ok Ts (Ak (RK l) Ah 1):=by
  refine Bh (fun v:Nat=>1≤v∧v≤l.length+1) (fun v:Nat=>l.length+1-v) ⟨by omega,by omega⟩ (by unfold Ah;omega) fun v a=>?_
  dsimp only[RK,br,ix,CB,vz,vs,Am,ln,Ai,wa,wi,Ag,br]
  (repeat' (first|with_reducible (first|refine AC (fun _=>?_) fun _=>?_|refine AB ?_|refine Bu ?_ fun _ _ _=>?_|refine AD ?_ ?_)))<;>exact AK
 dsimp only[Ue,lr,lc]
 (repeat' (first|with_reducible (first|refine AC (fun _=>?_) fun _=>?_|refine AB ?_)|(with_reducible apply Bo;(exact q);all_goals(intro _ _;try dsimp only))|with_reducible refine AD ?_ ?_))<;>exact AK
theorem px(l:List ByteArray)(x:ByteArray)(h:l.length≤3145728):Ok Tr (Ma l x):=by
 have q:Ok Ts (Ak (Kf l x) Ah 0):=by
  refine Bh (fun v:Nat=>v≤l.length) (fun v:Nat=>l.length-v) (by omega) (by unfold Ah;omega) fun v a=>?_
  dsimp only[Kf,br,ix,vz,vs,Am,ln,Ai,wa,Ag,br]
  (repeat' (first|with_reducible (first|refine AC (fun _=>?_) fun _=>?_|refine AB ?_|refine Bu ?_ fun _ _ _=>?_|refine AD ?_ ?_)))<;>exact AK
 dsimp only[Ma,lr,lc]
 (repeat' (first|with_reducible (first|refine AC (fun _=>?_) fun _=>?_|refine AB ?_)|(with_reducible apply Bo;(exact q);all_goals(intro _ _;try dsimp only))|with_reducible refine AD ?_ ?_))<;>exact AK
theorem mM(l k:List ByteArray)(h:l.length≤3145728)(a:k.length≤3145728):Ok Tr (UD l k):=by
 have q:Ok Ts (Ak (Q4 l k) Ah 0):=by
  refine Bh (fun v:Nat=>v≤l.length) (fun v:Nat=>l.length-v) (by omega) (by unfold Ah;omega) fun v b=>?_
  dsimp only[Q4,br,ix,vz,vs,Am,ln,Ai,cl,wa,Ag,br]
  (repeat' (first|with_reducible (first|refine AC (fun _=>?_) fun _=>?_|refine AB ?_|refine Bu ?_ fun _ _ _=>?_)|(with_reducible apply Ax;(exact px _ _ a);intro _ _)|with_reducible refine AD ?_ ?_))<;>exact AK
 dsimp only[UD,lr,lc]
 (repeat' (first|with_reducible (first|refine AC (fun _=>?_) fun _=>?_|refine AB ?_)|(with_reducible apply Bo;(exact q);all_goals(intro _ _;try dsimp only))|with_reducible refine AD ?_ ?_))<;>exact AK
def Jm(s:Scm)(f:Fld):Prop:=(f.type.kind=9→∃m∈s.enums,m.name=f.type.name)∧(f.type.kind=10→(∃m∈s.messages,m.name=f.type.name)∧f.card≠3)∧1≤f.type.kind∧f.type.kind≤10
theorem mQ(s:Scm)(f:Fld)(h:SzS s):Ok (fun b=>b=true→Jm s f) (Ul s f):=by
 unfold Jm
 dsimp only[Ul,br,wg,lr,cl,br]
 (repeat' (first|with_reducible (first|refine AC (fun _=>?_) fun _=>?_|refine AB ?_)|(with_reducible apply Ax;(exact T4 _ _ h);intro _ _)|(with_reducible apply Ax;(exact NC _ _ h);intro _ _)|with_reducible refine AD ?_ ?_))
 ·intro a
  have d:f.type.kind=9:=Em (by assumption)
  have e:=(show _<_∧(_→∃m∈s.enums,m.name=f.type.name)by assumption).2 (Em a)
  exact⟨fun _=>e,fun k=>by omega,by omega,by omega⟩
 ·intro a
  have c:f.type.kind=10:=Em (by assumption)
  rw[Yb]at a
  have e:=(show _<_∧(_→∃m∈s.messages,m.name=f.type.name)by assumption).2 (Em a.1)
  exact⟨fun k=>by omega,fun _=>⟨e,by simpa using a.2⟩,by omega,by omega⟩
 ·intro a
  simp only[Yb,Yr]at a
  exact⟨fun k=>by omega,fun k=>by omega,by omega,by omega⟩
def Lp(f:Fld):Prop:=f.union≠⟨#[]⟩→f.card=2
theorem mR(m:Msg)(i:Nat)(h:SzM m)(hi:i<m.fields.length):Ok (fun b=>b=true→∀f,m.fields[i]?=some f→Lp f) (Us m i):=by
 have hl:=h.fl
 have q:∀e,Ok (Sum.elim (fun b:Bool=>b=true→0<i) Tr) (Ak (Rm m i e) Ah (false,0)):=by
  intro e
  refine Bh (fun v:Bool×Nat=>v.2≤m.fields.length∧(v.1=true→0<i)) (fun v:Bool×Nat=>m.fields.length-v.2) ⟨by omega,by simp⟩ (Bx (by omega)) fun v k=>?_
  obtain⟨b,j⟩:=v
  obtain⟨c,d⟩:=k
  dsimp only at c d
  dsimp only[Rm,br,ix,A8,vz,wg,vs,Am,ln,Ai,wa,Ag,br]
  (repeat' (first|with_reducible (first|refine AC (fun _=>?_) fun _=>?_|refine AB ?_|refine Bu ?_ fun _ _ _=>?_|refine E1 ?_ fun _=>?_|refine AD ?_ ?_)))<;>exact AK
 dsimp only[Us,br,CB,A8,wg,vg,lr,lc,Aw,wi,br]
 (repeat' (first|with_reducible (first|refine AC (fun _=>?_) fun _=>?_|refine AB ?_|refine Bu ?_ fun _ _ _=>?_)|(with_reducible apply Bo;(exact q _);all_goals(intro _ _;try dsimp only))|(with_reducible apply Ax;(exact Ja _ ((h.f _ (by assumption)).u));intro _ _)|(with_reducible apply Bb;(exact fun _=>Ja _ ((h.f _ (by assumption)).u));intro _)|with_reducible (first|refine E1 ?_ fun _=>?_|refine AD ?_ ?_)))<;>first|(intro h;cases h;done)|(have he:=‹m.fields[i]?=some _›;intro _ f a;rw[he]at a;cases a;intro g;first|exact absurd (Em (by assumption)) g|(simp only[Yt,YF,F8,Oc,Yr,YB]at*;omega)|grind)|exact AK
def G4(f:Fld):Prop:=f.hasDefault=true→Lm f.type.kind f.dflt∧f.card=2∧f.union=⟨#[]⟩
theorem mS(s:Scm)(f:Fld)(h:SzS s)(a:SzF f):Ok (fun b=>b=true→G4 f) (Uu s f):=by
 have g:SzV (.mk 0 0 ⟨#[]⟩ [] [] [] []):=by constructor<;>decide
 have he:∀y,y∈s.enums→y.items.length≤1048576:=fun y hy=>(h.e y hy).il
 have q:∀y:Int,0≤y→y<s.enums.length→Ok Ts (Ak (Rg s f y) Ah 0):=by
  intro y hy k
  refine Bh (fun v:Nat=>v≤1048576) (fun v:Nat=>1048576-v) (by omega) (Bx (by omega)) fun v l=>?_
  dsimp only[Rg,br,ix,CB,vz,wg,vs,Am,ln,Ai,wa,Ag,br]
  (repeat' (first|with_reducible (first|refine AC (fun _=>?_) fun _=>?_|refine AB ?_|refine Bu ?_ fun _ _ _=>?_|refine AD ?_ ?_)))<;>exact AK
 have key:∀(c d:Bool),((!((!decide (f.card=2))||(!decide (f.union=⟨#[]⟩))))=true→c=true→Lm f.type.kind f.dflt)→((((!decide (f.card=2))||(!decide (f.union=⟨#[]⟩)))||!c)||!d)=false→G4 f:=fun c d i j _=>by
  cases c<;>cases d<;>simp_all
 have e:(!f.hasDefault)=true→G4 f:=fun i j=>by simp_all
 dsimp only[Uu,br,wg,lr,lc,cl,Aw,br]
 (repeat' (first|with_reducible (first|refine AC (fun _=>?_) fun _=>?_|refine AB ?_)|(with_reducible apply Bo;(exact q _ BO BO);all_goals(intro _ _;try dsimp only))|(with_reducible apply Ax;(exact OF _ _ a.d g);intro _ _)|(with_reducible apply Ax;(exact Pa _ _ a.d);intro _ _)|(with_reducible apply Ax;(exact dl _ a.d);intro _ _)|(with_reducible apply Ax;(exact OF _ _ a.d (by solve_by_elim));intro _ _)|(with_reducible apply Ax;(exact T4 _ _ h);intro _ _)|(with_reducible apply Bb;(exact fun _=>OF _ _ a.d g);intro _)|(with_reducible apply Bb;(exact fun _=>Pa _ _ a.d);intro _)|(with_reducible apply Bb;(exact fun _=>dl _ a.d);intro _)|(with_reducible apply Bb;(exact fun _=>OF _ _ a.d (by solve_by_elim));intro _)|(with_reducible apply Bb;(exact fun _=>T4 _ _ h);intro _)|with_reducible refine AD ?_ ?_))<;>first|(intro _;exact key _ _ (by assumption) (by assumption))|(intro _;exact e (by assumption))|exact AK
theorem yT(s:Scm)(m:Msg)(l:List Bool)(h:SzS s)(hm:SzM m)(hl:l.length=s.messages.length):Ok Tr (Uy s m l):=by
 have a:=hm.fl
 have q:Ok Ts (Ak (Rf s m l) Ah 0):=by
  refine Bh (fun v:Nat=>v≤m.fields.length) (fun v:Nat=>m.fields.length-v) (by omega) (Bx (by omega)) fun v b=>?_
  dsimp only[Rf,br,ix,A8,vz,wg,vs,Am,ln,Ai,cl,wa,Ag,br]
  (repeat' (first|with_reducible (first|refine AC (fun _=>?_) fun _=>?_|refine AB ?_|refine Bu ?_ fun _ _ _=>?_)|(with_reducible apply Ax;(exact NC _ _ h);intro _ _)|with_reducible (first|refine E1 ?_ fun _=>?_|refine AD ?_ ?_)))<;>exact AK
 dsimp only[Uy,lr,lc]
 (repeat' (first|with_reducible (first|refine AC (fun _=>?_) fun _=>?_|refine AB ?_)|(with_reducible apply Bo;(exact q);all_goals(intro _ _;try dsimp only))|with_reducible refine AD ?_ ?_))<;>exact AK
theorem aN(s:Scm)(m:Msg)(l:List Bool)(h:SzS s)(hm:SzM m)(hl:l.length=s.messages.length):Ok Tr (Ph s m l):=by
 have a:=hm.fl
 have q:Ok Ts (Ak (Qn s m l) Ah 0):=by
  refine Bh (fun v:Nat=>v≤m.fields.length) (fun v:Nat=>m.fields.length-v) (by omega) (Bx (by omega)) fun v b=>?_
  dsimp only[Qn,br,ix,vz,wg,vs,vg,Am,ln,Ai,cl,wa,CM,RQ,fl,Ag,br,CM]
  (repeat' (first|with_reducible (first|refine AC (fun _=>?_) fun _=>?_|refine AB ?_|refine Bu ?_ fun _ _ _=>?_)|(with_reducible apply Ax;(exact NC _ _ h);intro _ _)|with_reducible refine AD ?_ ?_))<;>exact AK
 dsimp only[Ph,vz,lr,lc,fl]
 (repeat' (first|with_reducible (first|refine AC (fun _=>?_) fun _=>?_|refine AB ?_)|(with_reducible apply Bo;(exact q);all_goals(intro _ _;try dsimp only))|with_reducible refine AD ?_ ?_))<;>exact AK
theorem mN(s:Scm)(h:SzS s):Ok (fun y=>y.length=s.messages.length) (UM s):=by
 have g:=h.ml
 have q:∀(v:Nat) (r:List Bool),r.length=s.messages.length→Ok (Sum.elim (fun y:Bool×List Bool=>y.2.length=s.messages.length) No) (Ak (RF s v) Ah (false,0,r)):=by
  intro w r e
  refine Bh (fun v:Bool×Nat×List Bool=>v.2.1≤s.messages.length∧v.2.2.length=s.messages.length) (fun v:Bool×Nat×List Bool=>s.messages.length-v.2.1) ⟨by simp,e⟩ (Bx (by simp;omega)) fun v d=>?_
  obtain⟨b,i,r⟩:=v
  obtain⟨c,a⟩:=d
  dsimp only at c a
  dsimp only[RF,br,A8,vz,vw,wg,vs,v2,ln,Ai,DS,wa,ir,ca,st,rn,fl,Ag,br]
  (repeat' (first|with_reducible (first|refine AC (fun _=>?_) fun _=>?_|refine AB ?_|refine Bu ?_ fun _ _ _=>?_)|(with_reducible apply Ax;(exact aN _ _ _ h (h.m _ (by grind)) a);intro _ _)|(with_reducible apply Bb;(exact fun _=>aN _ _ _ h (h.m _ (by grind)) a);intro _)|with_reducible (first|refine E1 ?_ fun _=>?_|refine AD ?_ ?_)))<;>exact AK
 have f:Ok (Sum.elim (fun y:List Bool=>y.length=s.messages.length) No) (Ak (Rs s) Ah (true,0,List.replicate s.messages.length false)):=by
  refine Bh (fun v:Bool×Nat×List Bool=>v.2.1≤s.messages.length∧v.2.2.length=s.messages.length) (fun v:Bool×Nat×List Bool=>s.messages.length-v.2.1) ⟨by simp,by simp⟩ (Bx (by simp;omega)) fun v d=>?_
  obtain⟨b,i,r⟩:=v
  obtain⟨c,a⟩:=d
  dsimp only at c a
  dsimp only[Rs,br,vz,wg,vs,v2,ln,Ai,lc,wa,fl,Ag,br]
  (repeat' (first|with_reducible (first|refine AC (fun _=>?_) fun _=>?_|refine AB ?_)|(with_reducible apply Bo;(exact q _ _ a);all_goals(intro _ _;try dsimp only))|with_reducible refine AD ?_ ?_))<;>exact AK
 dsimp only[UM,vz,wg,lr,lc,ms,fl,fr,Ag]
 (repeat' (first|with_reducible (first|refine AC (fun _=>?_) fun _=>?_|refine AB ?_)|(with_reducible apply Bo;(exact f);all_goals(intro _ _;try dsimp only))|with_reducible refine AD ?_ ?_))<;>exact AK
def Du(l:List Fld)(n:Nat):Prop:=∀(i:Nat) (a b:Fld),i+1<n→l[i]?=some a→l[i+1]?=some b→a.num<b.num
theorem vG{l:List Fld}{v:Nat}{a b:Fld}(h:Du l v)(j:l[v]?=some a)(k:0<v→l[v-1]?=some b∧b.num<a.num):Du l (v+1):=by
 intro i x y hi c hy
 by_cases e:i+1<v
 ·exact h i x y e c hy
 ·have f:i+1=v:=by omega
  have g:v-1=i:=by omega
  rw[f]at hy
  obtain⟨d,m⟩:=k (by omega)
  rw[g]at d
  rw[j]at hy
  rw[d]at c
  cases c
  cases hy
  exact m
structure GdM0 (s:Scm) (m:Msg):Prop where
 asc:Du m.fields m.fields.length
 df:∀(j:Nat) (f:Fld),m.fields[j]?=some f→G4 f∧Je f∧Jm s f∧Lp f
def Jl(e:Enm):Prop:=∃x,e.items[0]?=some x∧x.num=0
structure GdM (s:Scm) (m:Msg):Prop where
 asc:Du m.fields m.fields.length
 df:∀(j:Nat) (f:Fld),m.fields[j]?=some f→G4 f∧Je f∧Jm s f∧Lp f
 en:∀(j:Nat) (e:Enm),s.enums[j]?=some e→Jl e
theorem o9(x:Msg):x.fields.length+x.reserved.length+x.gone.length≤An (Au x):=by
 have a:=Cc (e:=Ap) x.fields
 have b:=Cc (e:=B8) x.reserved
 have c:=Cc (e:=AQ) x.gone
 simp only[Au,An,bk]
 omega
theorem oX(x:Enm):x.items.length+x.reserved.length≤An (Bj x):=by
 have a:=Cc (e:=B7) x.items
 have b:=Cc (e:=B8) x.reserved
 simp only[Bj,An,bk]
 omega
theorem oF(x:Svc):x.methods.length≤An (CH x):=by
 have a:=Cc (e:=FW) x.methods
 simp only[CH,An,bk]
 omega
theorem dn(d:ByteArray)(b:Bool)(n e:Int):Ok (fun y=>y.length≤1) (Bc d [] b n e):=(Dz d [] b n e (by simp)).mono fun y h=>by simpa using h.2.1
theorem yQ(s:Scm)(m:Msg)(l:List Bool)(h:SzS s)(hm:SzM m)(hl:l.length=s.messages.length):Ok (fun y=>y.length≤20*(An (Au m)+1)∧(y.length=0→GdM0 s m)) (UI s m l):=by
 have g:=o9 m
 have H:=hm.fl
 have q:=hm.r
 have B:=hm.gl
 have F:∀(v:Nat) (r:List Prb) (e:Fld),v≤m.fields.length→Ok (Sum.elim Tr No) (Ak (Rp s m l v r e) Ah (false,0)):=by
  intro w r e J
  refine Bh (fun v:Bool×Nat=>v.2≤w) (fun v:Bool×Nat=>w-v.2) (by simp) (Bx (by omega)) fun v k=>?_
  obtain⟨b,i⟩:=v
  dsimp only at k
  dsimp only[Rp,br,ix,vz,wg,vs,ln,Ai,wa,fl,br]
  (repeat' (first|with_reducible (first|refine AC (fun _=>?_) fun _=>?_|refine AB ?_|refine Bu ?_ fun _ _ _=>?_|refine AD ?_ ?_)))<;>exact AK
 have E:∀a:List Prb,a.length≤9→Ok (Sum.elim (fun y:List Prb=>y.length≤9+10*m.fields.length∧(y.length=0→GdM0 s m)) No) (Ak (QX s m l) Ah (0,a)):=by
  intro a o
  refine Bh (fun v:Nat×List Prb=>v.1≤m.fields.length∧v.2.length≤9+10*v.1∧(v.2.length=0→Du m.fields v.1∧∀(j:Nat) (f:Fld),j<v.1→m.fields[j]?=some f→G4 f∧Je f∧Jm s f∧Lp f)) (fun v:Nat×List Prb=>m.fields.length-v.1) ⟨by simp,by simpa using o,fun _=>⟨fun i x y hi=>by simp at hi,fun j f n=>by simp at n⟩⟩ (Bx (by omega)) fun v k=>?_
  obtain⟨v,r⟩:=v
  obtain⟨t,u,c⟩:=k
  dsimp only at t u c
  dsimp only[QX,WW,Xm,WT,WY,WO,XN,XW,br,ix,A8,vz,wg,vs,vg,ln,Ai,lc,cl,Aw,wa,wi,fl,Ag,br]
  (repeat' (first|with_reducible (first|refine AC (fun _=>?_) fun _=>?_|refine AB ?_|refine Bu ?_ fun _ _ _=>?_)|(with_reducible apply Bo;(exact F _ _ _ (by omega));all_goals(intro _ _;try dsimp only))|(with_reducible apply Ax;(exact Dz _ _ _ _ _ (by omega));intro _ _)|(with_reducible apply Ax;(exact Ja _ (hm.f _ (by assumption)).n);intro _ _)|(with_reducible apply Ax;(exact Zo _ _ q);intro _ _)|(with_reducible apply Ax;(exact mO _ _ B);intro _ _)|(with_reducible apply Ax;(exact mP _);intro _ _)|(with_reducible apply Ax;(exact mQ _ _ h);intro _ _)|(with_reducible apply Ax;(exact mR _ _ hm BO);intro _ _)|(with_reducible apply Ax;(exact mS _ _ h (hm.f _ (by assumption)));intro _ _)|(with_reducible apply Ax;(exact H8 _ _ _ _ _ (by omega) (hm.f _ (by assumption)).o);intro _ _)|(with_reducible apply Bb;(exact fun _=>Dz _ _ _ _ _ (by omega));intro _)|(with_reducible apply Bb;(exact fun _=>Ja _ (hm.f _ (by assumption)).n);intro _)|(with_reducible apply Bb;(exact fun _=>Zo _ _ q);intro _)|(with_reducible apply Bb;(exact fun _=>mO _ _ B);intro _)|(with_reducible apply Bb;(exact fun _=>mP _);intro _)|(with_reducible apply Bb;(exact fun _=>mQ _ _ h);intro _)|(with_reducible apply Bb;(exact fun _=>mR _ _ hm BO);intro _)|(with_reducible apply Bb;(exact fun _=>mS _ _ h (hm.f _ (by assumption)));intro _)|(with_reducible apply Bb;(exact fun _=>H8 _ _ _ _ _ (by omega) (hm.f _ (by assumption)).o);intro _)|with_reducible (first|refine E1 ?_ fun _=>?_|refine AD ?_ ?_)))
  all_goals try exact BO
  have D:=‹decide (0<(v:Int))=true→m.fields[((v:Int)-1).toNat]?=some (m.fields.getD ((v:Int)-1).toNat Rw.z)∧_›
  have he:=‹m.fields[v]?=some _›
  dsimp only
  refine⟨⟨by exact BO,by omega,fun p=>⟨vG (b:=m.fields.getD ((v:Int)-1).toNat Rw.z) (c (by omega)).1 he fun k=>?_,fun j f n d=>?_⟩⟩,by exact BO⟩
  have ev:((v:Int)-1).toNat=v-1:=by omega
  refine⟨ev▸(D (Y6 (by omega))).1,?_⟩
  rcases Int.lt_or_le (m.fields.getD ((v:Int)-1).toNat Rw.z).num (Fld.num _)with A|z
  ·exact A
  ·exfalso
   have I:=Yb _ _▸And.intro (Y6 (show(0:Int)<v by omega)) (Y6 z)
   grind
  ·rcases Nat.lt_or_eq_of_le (Nat.le_of_lt_succ n)with n|rfl
   ·exact(c (by omega)).2 j f n d
   ·rw[he]at d
    cases d
    refine⟨(show _=true→G4 _ by assumption) (Lu fun g=>?_),(show _=true→Je _ by assumption) (Lu fun g=>?_),(show _=true→Jm s _ by assumption) (Lu fun g=>?_),(show _=true→∀f,m.fields[j]?=some f→Lp f by assumption) (Lu fun g=>?_) _ he⟩
    all_goals(
     rw[Bool.not_eq_true]at g
     subst g
     simp only[YW,Hi]at*
     omega)
  have C:v=m.fields.length:=by exact BO
  subst C
  exact⟨by exact BO,fun p=>⟨(c p).1,fun j f d=>(c p).2 j f (Yd.1 d).1 d⟩⟩
 have G:∀a:List Prb,a.length≤20000000→Ok (Sum.elim (fun y:List Prb=>a.length≤y.length∧y.length≤a.length+m.gone.length) No) (Ak (Q9 s m l) Ah (0,a)):=by
  intro a o
  refine Bh (fun v:Nat×List Prb=>v.1≤m.gone.length∧v.2.length≤a.length+v.1∧a.length≤v.2.length) (fun v:Nat×List Prb=>m.gone.length-v.1) ⟨by simp,by simp,by simp⟩ (Bx (by omega)) fun v k=>?_
  obtain⟨v,r⟩:=v
  obtain⟨t,u,c⟩:=k
  dsimp only at t u c
  dsimp only[Q9,br,ix,vz,wg,vs,ln,Ai,lc,cl,wa,fl,Ag,br]
  (repeat' (first|with_reducible (first|refine AC (fun _=>?_) fun _=>?_|refine AB ?_|refine Bu ?_ fun _ _ _=>?_)|(with_reducible apply Ax;(exact Dz _ _ _ _ _ (by omega));intro _ _)|(with_reducible apply Ax;(exact Zp _ (hm.g _ (by assumption)));intro _ _)|with_reducible refine AD ?_ ?_))<;>exact AK
 dsimp only[UI,vz,vy,vw,wg,lr,lc,cl,fl,fr,Ag]
 (repeat' (first|with_reducible (first|refine AC (fun _=>?_) fun _=>?_|refine AB ?_)|(with_reducible apply Bo;(exact E _ BO);all_goals(intro _ _;try dsimp only))|(with_reducible apply Bo;(exact G _ (by omega));all_goals(intro _ _;try dsimp only))|(with_reducible apply Ax;(exact Zn _ hm.n);intro _ _)|(with_reducible apply Ax;(exact dn _ _ _ _);intro _ _)|(with_reducible apply Ax;(exact Dz _ _ _ _ _ (by omega));intro _ _)|(with_reducible apply Ax;(exact H8 _ _ _ _ _ (by omega) hm.o);intro _ _)|(with_reducible apply Ax;(exact mT _ _ _ _ _ (by omega) q);intro _ _)|(with_reducible apply Ax;(exact yT _ _ _ h hm hl);intro _ _)|with_reducible refine AD ?_ ?_))<;>exact AK
theorem yR(e:Enm)(hm:SzE e):Ok (fun y=>y.length≤20*(An (Bj e)+1)∧(y.length=0→Jl e)) (UA e):=by
 have z:=oX e
 have u:=hm.il
 have g:=hm.r
 have q:∀(v:Nat) (r:List Prb) (x:Itm),v≤e.items.length→Ok (Sum.elim Tr No) (Ak (Rc e v r x) Ah (false,0)):=by
  intro w r x A
  refine Bh (fun v:Bool×Nat=>v.2≤w) (fun v:Bool×Nat=>w-v.2) (by simp) (Bx (by omega)) fun v f=>?_
  obtain⟨b,i⟩:=v
  dsimp only at f
  dsimp only[Rc,br,ix,vz,wg,vs,ln,Ai,wa,fl,br]
  (repeat' (first|with_reducible (first|refine AC (fun _=>?_) fun _=>?_|refine AB ?_|refine Bu ?_ fun _ _ _=>?_|refine AD ?_ ?_)))<;>exact AK
 have p:∀a:List Prb,a.length≤9→Ok (Sum.elim (fun y:List Prb=>a.length≤y.length∧y.length≤9+10*e.items.length) No) (Ak (RN e) Ah (0,a)):=by
  intro a d
  refine Bh (fun v:Nat×List Prb=>v.1≤e.items.length∧a.length≤v.2.length∧v.2.length≤9+10*v.1) (fun v:Nat×List Prb=>e.items.length-v.1) ⟨by simp,by simp,by simpa using d⟩ (Bx (by omega)) fun v f=>?_
  obtain⟨v,r⟩:=v
  obtain⟨m,o,n⟩:=f
  dsimp only at m n o
  dsimp only[RN,WU,Xa,Xz,br,ix,A8,vz,wg,vs,vg,ln,Ai,lc,cl,wa,wi,fl,Ag,br]
  (repeat' (first|with_reducible (first|refine AC (fun _=>?_) fun _=>?_|refine AB ?_|refine Bu ?_ fun _ _ _=>?_)|(with_reducible apply Bo;(exact q _ _ _ (by omega));all_goals(intro _ _;try dsimp only))|(with_reducible apply Ax;(exact Dz _ _ _ _ _ (by omega));intro _ _)|(with_reducible apply Ax;(exact Ja _ (hm.i _ (by assumption)).n);intro _ _)|(with_reducible apply Ax;(exact Zo _ _ g);intro _ _)|(with_reducible apply Ax;(exact H8 _ _ _ _ _ (by omega) (hm.i _ (by assumption)).o);intro _ _)|with_reducible (first|refine E1 ?_ fun _=>?_|refine AD ?_ ?_)))<;>exact AK
 dsimp only[UA,A8,vz,vy,vw,wg,lr,lc,cl,fl,fr,Ag]
 (repeat' (first|with_reducible (first|refine AC (fun _=>?_) fun _=>?_|refine AB ?_)|(with_reducible apply Bo;(exact p _ BO);all_goals(intro _ _;try dsimp only))|(with_reducible apply Ax;(exact Zn _ hm.n);intro _ _)|(with_reducible apply Ax;(exact Dz _ _ _ _ _ BO);intro _ _)|(with_reducible apply Ax;(exact H8 _ _ _ _ _ (by omega) hm.o);intro _ _)|(with_reducible apply Ax;(exact mT _ _ _ _ _ (by omega) g);intro _ _)|with_reducible (first|refine E1 ?_ fun _=>?_|refine AD ?_ ?_)))
 all_goals try exact AK
 rename_i B a0 C a1 D k x E a3 b a4 F a5 G s
 refine⟨by exact BO,fun t=>?_⟩
 have l:¬(e.items.length:Int)<1:=fun h=>by
  have:=k.2.2 (by simp only[h,Yq,Hh])
  omega
 have j:(0:Int)<e.items.length:=by omega
 refine⟨_,(x (Y6 j)).1,Decidable.not_not.1 fun c=>?_⟩
 have:=a3.2.2 (by simp only[j,c,Yq,YG,YW,Im])
 omega
theorem yS(s:Scm)(e:Svc)(h:SzS s)(hm:SzW e):Ok (fun y=>y.length≤20*(An (CH e)+1)) (UG s e):=by
 have j:=oF e
 have i:=hm.ml
 have g:∀b:List Prb,b.length≤9→Ok (Sum.elim (fun y:List Prb=>y.length≤9+10*e.methods.length) No) (Ak (QY s e) Ah (0,b)):=by
  intro b a
  refine Bh (fun v:Nat×List Prb=>v.1≤e.methods.length∧v.2.length≤9+10*v.1) (fun v:Nat×List Prb=>e.methods.length-v.1) ⟨by simp,by simpa using a⟩ (Bx (by omega)) fun v f=>?_
  obtain⟨v,r⟩:=v
  obtain⟨c,d⟩:=f
  dsimp only at c d
  dsimp only[QY,XO,br,ix,A8,vz,wg,vs,vg,ln,Ai,lc,cl,Aw,wa,wi,fl,Ag,br]
  (repeat' (first|with_reducible (first|refine AC (fun _=>?_) fun _=>?_|refine AB ?_|refine Bu ?_ fun _ _ _=>?_)|(with_reducible apply Ax;(exact Dz _ _ _ _ _ (by omega));intro _ _)|(with_reducible apply Ax;(exact NC _ _ h);intro _ _)|(with_reducible apply Ax;(exact Ja _ (hm.m _ (by assumption)).n);intro _ _)|(with_reducible apply Ax;(exact H8 _ _ _ _ _ (by omega) (hm.m _ (by assumption)).o);intro _ _)|(with_reducible apply Bb;(exact fun _=>Dz _ _ _ _ _ (by omega));intro _)|(with_reducible apply Bb;(exact fun _=>NC _ _ h);intro _)|(with_reducible apply Bb;(exact fun _=>Ja _ (hm.m _ (by assumption)).n);intro _)|(with_reducible apply Bb;(exact fun _=>H8 _ _ _ _ _ (by omega) (hm.m _ (by assumption)).o);intro _)|with_reducible (first|refine E1 ?_ fun _=>?_|refine AD ?_ ?_)))<;>exact AK
 dsimp only[UG,vz,vw,wg,lr,lc,cl,fl,fr,Ag]
 (repeat' (first|with_reducible (first|refine AC (fun _=>?_) fun _=>?_|refine AB ?_)|(with_reducible apply Bo;(exact g _ BO);all_goals(intro _ _;try dsimp only))|(with_reducible apply Ax;(exact Zn _ hm.n);intro _ _)|(with_reducible apply Ax;(exact dn _ _ _ _);intro _ _)|(with_reducible apply Ax;(exact Dz _ _ _ _ _ (by omega));intro _ _)|(with_reducible apply Ax;(exact H8 _ _ _ _ _ (by omega) hm.o);intro _ _)|with_reducible refine AD ?_ ?_))<;>exact AK
structure Few (s:Scm):Prop where
 m:s.messages.length≤150
 e:s.enums.length≤150
 w:s.services.length≤150
theorem yO{s:Scm}(hs:An (Al s)≤1048576):Ok (fun y=>y.length=0→(∀(i:Nat) (m:Msg),s.messages[i]?=some m→GdM0 s m)∧∀(i:Nat) (e:Enm),s.enums[i]?=some e→Jl e) (US s):=by
 have h:=DV hs
 have u:=h.ml
 have w:=h.el
 have x:=h.wl
 have t:Bp (s.messages.map Au)+Bp (s.enums.map Bj)+Bp (s.services.map CH)≤1048576:=by
  simp only[Al,An,bk]at hs
  omega
 have n:Ok (Sum.elim (fun y:List Prb=>y.length≤9) No) (Ak (Rz s) Ah (1,[])):=by
  refine Bh (fun v:Nat×List Prb=>1≤v.1∧v.1≤4∧v.2.length≤2*v.1) (fun v:Nat×List Prb=>4-v.1) ⟨by simp,by simp,by simp⟩ (Bx (by omega)) fun v g=>?_
  obtain⟨v,r⟩:=v
  obtain⟨c,d,f⟩:=g
  dsimp only at c d f
  dsimp only[Rz,br,vz,wg,vs,ln,Ai,lc,cl,wa,fl,Ag,br]
  (repeat' (first|with_reducible (first|refine AC (fun _=>?_) fun _=>?_|refine AB ?_)|(with_reducible apply Ax;(exact Zm _ _ h);intro _ _)|(with_reducible apply Ax;(exact Dz _ _ _ _ _ (by omega));intro _ _)|(with_reducible apply Ax;(exact yP _ (by assumption));intro _ _)|with_reducible refine AD ?_ ?_))<;>exact AK
 have o:∀(a:List Prb) (l:List Bool),a.length≤10→l.length=s.messages.length→Ok (Sum.elim (fun y:List Prb=>y.length≤20971540∧(y.length=0→∀(i:Nat) (m:Msg),s.messages[i]?=some m→GdM0 s m)) No) (Ak (QW s l) Ah (0,a)):=by
  intro a l b hl
  refine Bh (fun v:Nat×List Prb=>v.1≤s.messages.length∧v.2.length≤10+20*Bp ((s.messages.take v.1).map Au)∧(v.2.length=0→∀(i:Nat) (m:Msg),i<v.1→s.messages[i]?=some m→GdM0 s m)) (fun v:Nat×List Prb=>s.messages.length-v.1) ⟨by simp,ET b (Oe _ _),fun _ i m hi=>by simp at hi⟩ (Bx (by omega)) fun v g=>?_
  obtain⟨v,r⟩:=v
  obtain⟨c,d,f⟩:=g
  dsimp only at c d f
  have a1:=JP Au s.messages v
  have j:=JP Au s.messages (v+1)
  dsimp only[QW,X1,XD,br,ix,vz,wg,vs,ln,Ai,lc,aq,cl,wa,tw,fl,Ag,br]
  (repeat' (first|with_reducible (first|refine AC (fun _=>?_) fun _=>?_|refine AB ?_|refine Bu ?_ fun _ _ _=>?_)|(with_reducible apply Ax;(exact yQ _ _ _ h (h.m _ (by assumption)) hl);intro _ _)|with_reducible refine AD ?_ ?_))<;>first|(have a3:=VP Au ‹s.messages[v]?=some _›;exact AK)|exact AK
 have p:∀a:List Prb,a.length≤20971540→Ok (Sum.elim (fun y:List Prb=>a.length≤y.length∧y.length≤41943080∧(y.length=0→∀(i:Nat) (e:Enm),s.enums[i]?=some e→Jl e)) No) (Ak (Q5 s) Ah (0,a)):=by
  intro a b
  refine Bh (fun v:Nat×List Prb=>v.1≤s.enums.length∧v.2.length≤20971540+20*Bp ((s.enums.take v.1).map Bj)∧a.length≤v.2.length∧(v.2.length=0→∀(i:Nat) (e:Enm),i<v.1→s.enums[i]?=some e→Jl e)) (fun v:Nat×List Prb=>s.enums.length-v.1) ⟨by simp,ET b (Oe _ _),by simp,fun _ i e hi=>by simp at hi⟩ (Bx (by omega)) fun v g=>?_
  obtain⟨v,r⟩:=v
  obtain⟨c,d,f,k⟩:=g
  dsimp only at c d f k
  have a1:=JP Bj s.enums v
  have j:=JP Bj s.enums (v+1)
  dsimp only[Q5,Xd,W4,br,ix,vz,wg,vs,ln,Ai,lc,aq,cl,wa,tw,fl,Ag,br]
  (repeat' (first|with_reducible (first|refine AC (fun _=>?_) fun _=>?_|refine AB ?_|refine Bu ?_ fun _ _ _=>?_)|(with_reducible apply Ax;(exact yR _ (h.e _ (by assumption)));intro _ _)|with_reducible refine AD ?_ ?_))<;>first|(have a3:=VP Bj ‹s.enums[v]?=some _›;exact AK)|exact AK
 have q:∀a:List Prb,a.length≤41943080→Ok (Sum.elim (fun y:List Prb=>a.length≤y.length) No) (Ak (Q1 s) Ah (0,a)):=by
  intro a b
  refine Bh (fun v:Nat×List Prb=>v.1≤s.services.length∧v.2.length≤41943080+20*Bp ((s.services.take v.1).map CH)∧a.length≤v.2.length) (fun v:Nat×List Prb=>s.services.length-v.1) ⟨by simp,ET b (Oe _ _),by simp⟩ (Bx (by omega)) fun v g=>?_
  obtain⟨v,r⟩:=v
  obtain⟨c,d,f⟩:=g
  dsimp only at c d f
  have a1:=JP CH s.services v
  have j:=JP CH s.services (v+1)
  dsimp only[Q1,W8,Xj,br,ix,vz,wg,vs,ln,Ai,lc,aq,cl,wa,tw,fl,Ag,br]
  (repeat' (first|with_reducible (first|refine AC (fun _=>?_) fun _=>?_|refine AB ?_|refine Bu ?_ fun _ _ _=>?_)|(with_reducible apply Ax;(exact yS _ _ h (h.w _ (by assumption)));intro _ _)|with_reducible refine AD ?_ ?_))<;>first|(have a3:=VP CH ‹s.services[v]?=some _›;exact AK)|exact AK
 dsimp only[US,vz,vw,wg,lr,lc,cl,Aw,fl,fr]
 (repeat' (first|with_reducible (first|refine AC (fun _=>?_) fun _=>?_|refine AB ?_)|(with_reducible apply Bo;(exact n);all_goals(intro _ _;try dsimp only))|(with_reducible apply Bo;(exact o _ _ (by omega) (by assumption));all_goals(intro _ _;try dsimp only))|(with_reducible apply Bo;(exact p _ (by omega));all_goals(intro _ _;try dsimp only))|(with_reducible apply Bo;(exact q _ (by omega));all_goals(intro _ _;try dsimp only))|(with_reducible apply Ax;(exact Zm _ _ h);intro _ _)|(with_reducible apply Ax;(exact mM _ _ (by assumption) (by assumption));intro _ _)|(with_reducible apply Ax;(exact mN _ h);intro _ _)|(with_reducible apply Ax;(exact Dz _ _ _ _ _ (by omega));intro _ _)|(with_reducible apply Bb;(exact fun _=>Zm _ _ h);intro _)|(with_reducible apply Bb;(exact fun _=>mM _ _ (by assumption) (by assumption));intro _)|(with_reducible apply Bb;(exact fun _=>mN _ h);intro _)|(with_reducible apply Bb;(exact fun _=>Dz _ _ _ _ _ (by omega));intro _)|with_reducible refine AD ?_ ?_))<;>exact AK
theorem yN{s:Scm}(hs:An (Al s)≤1048576):Ok (fun b=>b=true→∀(i:Nat) (m:Msg),s.messages[i]?=some m→GdM s m) (Pi s):=by
 have k:Ok (fun b=>b=true→(∀(i:Nat) (m:Msg),s.messages[i]?=some m→GdM0 s m)∧∀(i:Nat) (e:Enm),s.enums[i]?=some e→Jl e) (Pi s):=by
  dsimp only[Pi,vz,wg,lr,cl,Ag]
  (repeat' (first|with_reducible (first|refine AC (fun _=>?_) fun _=>?_|refine AB ?_)|(with_reducible apply Ax;(exact yO hs);intro _ _)|with_reducible refine AD ?_ ?_))<;>exact AK
 exact k.mono fun b h a i m hm=>⟨((h a).1 i m hm).asc,((h a).1 i m hm).df,(h a).2⟩
abbrev AZ(v:Val):Prop:=An (Af v)≤1048576
theorem Rx{v x:Val}(h:AZ v)(b:x∈v.list):AZ x:=by
 have a:=Cu (e:=AF) b
 rw[Gi]at a
 unfold AZ at*
 conv at h=>unfold Af
 simp only[An,bk]at h
 omega
theorem MW{v:Val}{x:Pr}(h:AZ v)(b:x∈v.pairs):AZ x.key∧AZ x.val:=by
 have a:=Cu (e:=Ay) b
 have e:Ay x=Af x.key++Af x.val:=by rw[J5];rfl
 rw[e,Ms]at a
 unfold AZ at*
 conv at h=>unfold Af
 simp only[An,bk]at h
 omega
theorem Rn{v:Val}{x:Slt}(h:AZ v)(b:x∈v.slots):AZ x.val:=by
 have a:=Cu (e:=At) b
 have e:At x=D.int .i64 x.num::Af x.val:=by rw[JT];rfl
 rw[e,An]at a
 unfold AZ at*
 conv at h=>unfold Af
 simp only[An,bk]at h
 omega
theorem Wb{α:Type}(p:α→Bool):∀l:List α,l.find? p=(l.findIdx? p).bind fun i=>l[i]?
 |[]=>rfl
 |x::l=>by
  rw[List.find?_cons,List.findIdx?_cons]
  cases h:p x with
  |true=>simp
  |false=>
   rw[Wb p l]
   cases List.findIdx? p l<;>simp
def CA{α:Type}[Inhabited α](l:List α)(z:α)(p:α→Bool):α×Bool:=(l.find? p).elim (z,false) fun x=>(x,true)
theorem JU{α:Type}[Inhabited α](l:List α)(z:α)(p:α→Bool):CA l z p=match l.findIdx? p with|some i=>(l.getD i default,true)|none=>(z,false):=by
 unfold CA
 rw[Wb]
 cases h:l.findIdx? p with
 |none=>rfl
 |some i=>
  have:=(N2.1 h).1
  simp[this]
def zM:Msg:=.mk ⟨#[]⟩ [] [] [] []
def zF:Fld:=.mk 0 ⟨#[]⟩ 0 0 (.mk 0 ⟨#[]⟩) ⟨#[]⟩ false (.mk 0 0 ⟨#[]⟩ [] [] [] []) []
theorem mG(s:Scm)(n:ByteArray)(h:s.messages.length≤1048576):L4 s n=some (CA s.messages zM fun m=>decide (m.name=n)):=by
 have d:=DG (B:=Nf s n) (N:=Ah) s.messages (fun m=>decide (m.name=n)) (fun i=>(s.messages.getD i default,true)) () (fun i x a=>by
  have b:=BF a
  have e:=(Yd.1 a).1
  have c:i+1<9223372036854775808:=by omega
  dsimp only[Nf,br,ix,vz,wg,vs,Am,ln,Ai,wa,Ag,br]
  simp only[b,c,a,Yq,Yv,Yc,Yu,YE]
  cases decide (x.name=n)<;>simp) (by simp[Nf,br,ix,vz,wg,vs,Am,ln,Ai,wa,Ag,br]) (A9 (by omega))
 dsimp only[L4,wg,lr,lc]
 rw[d,JU]
 cases s.messages.findIdx? fun m=>decide (m.name=n)<;>rfl
theorem yK(l:List Msg)(n:ByteArray)(h:l.length≤1048576):Pq l (fun z=>JG z n)=some (CA l zM fun m=>decide (m.name=n)):=by
 have d:=DG (B:=MZ l fun z=>JG z n) (N:=Ah) l (fun m=>decide (m.name=n)) (fun i=>(l.getD i default,true)) () (fun i x a=>by
  have b:=BF a
  have f:=(Yd.1 a).1
  have c:i+1<9223372036854775808:=by omega
  have e:JG x n=some (decide (x.name=n)):=rfl
  dsimp only[MZ,br,ix,wg,vs,Am,ln,Ai,cf,wa,br]
  simp only[b,c,a,e,Yq,Yv,Yc,Yu,YE]
  cases decide (x.name=n)<;>simp) (by simp[MZ,br,ix,wg,vs,Am,ln,Ai,cf,wa,br]) (A9 (by omega))
 dsimp only[Pq,vz,wg,lr,lc,Ag]
 rw[d,JU]
 cases l.findIdx? fun m=>decide (m.name=n)<;>rfl
theorem Qq{s:Scm}(h:SzS s)(n:ByteArray):(CA s.messages zM fun m=>decide (m.name=n)).1.fields.length≤1048576:=by
 unfold CA
 cases e:s.messages.find? fun m=>decide (m.name=n)with
 |none=>simp[zM]
 |some m=>exact(h.m _ (Jv e)).fl
theorem bn{v x:Val}(b:x∈v.list):An (Af x)<An (Af v):=by
 have a:=Cu (e:=AF) b
 rw[Gi]at a
 conv=>rhs;unfold Af
 simp only[An,bk]
 omega
theorem Xx{v:Val}{x:Pr}(c:x∈v.pairs):An (Af x.key)<An (Af v)∧An (Af x.val)<An (Af v):=by
 have b:=Cu (e:=Ay) c
 have e:Ay x=Af x.key++Af x.val:=by rw[J5];rfl
 rw[e,Ms]at b
 have a:An (Af v)=An [.int .i64 v.kind,.int .u64 v.bits,.str v.text,.list (v.list.map AF),.list (v.pairs.map Ay),.list (v.slots.map At),.list (v.raws.map A5)]:=rfl
 rw[a]
 simp only[An,bk]
 omega
theorem cB{v:Val}{x:Slt}(c:x∈v.slots):An (Af x.val)<An (Af v):=by
 have a:=Cu (e:=At) c
 have e:At x=D.int .i64 x.num::Af x.val:=by rw[JT];rfl
 rw[e,An]at a
 have b:An (Af v)=An [.int .i64 v.kind,.int .u64 v.bits,.str v.text,.list (v.list.map AF),.list (v.pairs.map Ay),.list (v.slots.map At),.list (v.raws.map A5)]:=rfl
 rw[b]
 simp only[An,bk]at a⊢
 omega
def BI(F:List Fld)(k:Int):Fld×Bool:=CA F zF fun f=>decide (f.num=k)
def A3(F:List Fld)(k:Int):Fld:=(BI F k).1
def GZ(s:Scm)(n:ByteArray):List Fld:=(CA s.messages zM fun m=>decide (m.name=n)).1.fields
theorem mL(s:Scm)(n:ByteArray)(h:s.messages.length≤1048576):Mh s n=some (CA s.messages zM fun m=>decide (m.name=n)):=by
 dsimp only[Mh,wg,lr,cs]
 rw[yK _ _ h]
 rfl
theorem yM(l:List Fld)(k:Int)(h:l.length≤1048576):Pj l (fun z=>JE z k)=some (BI l k):=by
 have d:=DG (B:=M5 l fun z=>JE z k) (N:=Ah) l (fun f=>decide (f.num=k)) (fun i=>(l.getD i default,true)) () (fun i x a=>by
  have b:=BF a
  have g:=(Yd.1 a).1
  have c:i+1<9223372036854775808:=by omega
  have e:JE x k=some (decide (x.num=k)):=rfl
  dsimp only[M5,br,ix,wg,vs,Am,ln,Ai,cf,wa,br]
  simp only[b,c,a,e,Yq,Yv,Yc,Yu,YE]
  cases decide (x.num=k)<;>simp) (by simp[M5,br,ix,wg,vs,Am,ln,Ai,cf,wa,br]) (A9 (by omega))
 dsimp only[Pj,vz,wg,lr,lc,Ag]
 unfold BI
 rw[d,JU]
 cases l.findIdx? fun m=>decide (m.num=k)<;>rfl
theorem mH(m:Msg)(k:Int)(h:m.fields.length≤1048576):U8 m k=some (BI m.fields k):=by
 dsimp only[U8,wg,lr,cs]
 rw[yM _ _ h]
 rfl
theorem Zj(m:Msg)(k:Int)(h:m.fields.length≤1048576):Uv m k=some (BI m.fields k):=by
 have d:=DG (B:=Nd m k) (N:=Ah) m.fields (fun f=>decide (f.num=k)) (fun i=>(m.fields.getD i default,true)) () (fun i x a=>by
  have b:=BF a
  have e:=(Yd.1 a).1
  have c:i+1<9223372036854775808:=by omega
  dsimp only[Nd,br,ix,vz,wg,vs,Am,ln,Ai,wa,Ag,br]
  simp only[b,c,a,Yq,Yv,Yc,Yu,YE]
  cases decide (x.num=k)<;>simp) (by simp[Nd,br,ix,vz,wg,vs,Am,ln,Ai,wa,Ag,br]) (A9 (by omega))
 dsimp only[Uv,wg,lr,lc]
 unfold BI
 rw[d,JU]
 cases m.fields.findIdx? fun f=>decide (f.num=k)<;>rfl
def F1{α:Type}(l:List α)(p:α→Bool):Int:=match l.findIdx? p with
 |some i=>(i:Int)
 |none=>-1
theorem xA{α:Type}(l:List α)(p:α→Bool):decide (0≤F1 l p)=l.any p:=by
 unfold F1
 rw[←Js]
 cases l.findIdx? p with
 |none=>rfl
 |some i=>simp
theorem yL(l:List Slt)(f:Slt→Option Bool)(p:Slt→Bool)(e:∀x∈l,f x=some (p x))(h:l.length<4611686018427387904):PD l f=some (F1 l p):=by
 have g:=DG (B:=MI l f) (N:=Ah) l p (fun i=>(i:Int)) () (fun i x a=>by
  have b:=BF a
  have j:=(Yd.1 a).1
  have c:i+1<9223372036854775808:=by omega
  have d:=e x (Yn a)
  dsimp only[MI,br,ix,vs,Am,ln,Ai,cf,wa,br]
  simp only[b,c,d,a,Yq,Yv,Yc]
  cases p x<;>simp) (by simp[MI,br,ix,vs,Am,ln,Ai,cf,wa,br]) (A9 h)
 dsimp only[PD,vz,lr,lc,Ag]
 rw[g]
 unfold F1
 cases l.findIdx? p<;>rfl
def CI(l:List Slt)(k:Int):Bool:=l.any fun x=>decide (x.num=k)
theorem cm{v:Val}{x:Raw}(h:AZ v)(b:x∈v.raws):x.data.size≤1048576:=by
 have a:=Cu (e:=A5) b
 unfold AZ at h
 conv at h=>unfold Af
 simp only[An,bk,A5]at h a
 omega
theorem Wn{F:List Fld}{k:Int}(h:(BI F k).2=true):(A3 F k).num=k:=by
 unfold A3 BI CA at*
 cases e:F.find? fun f=>decide (f.num=k)with
 |none=>rw[e]at h;cases h
 |some f=>exact Em (p:=f.num=k) (List.find?_some (p:=fun f:Fld=>decide (f.num=k)) e)
abbrev RE:=Scm→Fld→Val→Int→Bool→Option Int
def B2{α:Type}(f:Nat→α→Int):List α→Nat→Int
 |[],_=>0
 |x::l,i=>if f i x=0 then B2 f l (i+1)else f i x
theorem Fx{α ξ ρ:Type}{B:Nat→Option (Lv Nat ξ ρ)}{N:Nat}(l:List α)(f:Nat→α→Int)(r:Int→ρ)(e:ξ)
  (hs:∀(i:Nat) (x:α),l[i]?=some x→(∀(j:Nat) (y:α),j<i→l[j]?=some y→f j y=0)→B i=some (if f i x=0 then .nx (i+1)else .rt (r (f i x))))
  (he:B l.length=some (.ex e)) (hN:l.length<N):Ak B N 0=some (if B2 f l 0=0 then .inl e else .inr (r (B2 f l 0))):=by
 suffices H:∀k i N,i+k=l.length→(∀(j:Nat) (y:α),j<i→l[j]?=some y→f j y=0)→k<N→Ak B N i=some (if B2 f (l.drop i) i=0 then .inl e else .inr (r (B2 f (l.drop i) i)))by
  have:=H l.length 0 N (by omega) (fun j y c=>absurd c (by omega)) hN
  rwa [He]at this
 intro k
 induction k with
 |zero=>
  intro i N hi _ hN
  obtain⟨N,rfl⟩:∃m,N=m+1:=⟨N-1,by omega⟩
  have:i=l.length:=by omega
  subst this
  rw[Ak,he,SF]
  rfl
 |succ k d=>
  intro i N hi b hN
  obtain⟨N,rfl⟩:∃m,N=m+1:=⟨N-1,by omega⟩
  have a:i<l.length:=by omega
  rw[Ak,hs i l[i] (Ye a) b,In a,B2]
  by_cases h:f i l[i]=0
  ·rw[Yi h,Yi h]
   refine d (i+1) N (by omega) (fun j y c hy=>?_) (by omega)
   by_cases e:j=i
   ·subst e
    rw[Ye a]at hy
    cases hy
    exact h
   ·exact b j y (by omega) hy
  ·rw[Yj h,Yj h,Yj h]
def Bw(v:Val):Bool:=decide ((v.kind≠11∧0<v.list.length)∨(v.kind≠12∧0<v.pairs.length)∨(v.kind≠10∧(0<v.slots.length∨0<v.raws.length))∨(v.text≠⟨#[]⟩∧¬(v.kind=7∨v.kind=8))∨(v.bits≠0∧(v.kind=7∨v.kind=8∨v.kind=10∨v.kind=11∨v.kind=12)))
def BX(x:ByteArray)(p:Nat)(lo hi:Nat):Bool:=decide (p<x.size)&&decide (lo≤(x.get! p).toNat)&&decide ((x.get! p).toNat≤hi)
def Bt(x:ByteArray)(p:Nat):Nat:=
 let b:=(x.get! p).toNat
 if b<0x80 then 1
 else if 0xc2≤b∧b≤0xdf∧BX x (p+1) 0x80 0xbf=true then 2
 else if b=0xe0∧BX x (p+1) 0xa0 0xbf=true∧BX x (p+2) 0x80 0xbf=true then 3
 else if b=0xed∧BX x (p+1) 0x80 0x9f=true∧BX x (p+2) 0x80 0xbf=true then 3
 else if 0xe1≤b∧b≤0xef∧b≠0xed∧BX x (p+1) 0x80 0xbf=true∧BX x (p+2) 0x80 0xbf=true then 3
 else if b=0xf0∧BX x (p+1) 0x90 0xbf=true∧BX x (p+2) 0x80 0xbf=true∧BX x (p+3) 0x80 0xbf=true then 4
 else if 0xf1≤b∧b≤0xf3∧BX x (p+1) 0x80 0xbf=true∧BX x (p+2) 0x80 0xbf=true∧BX x (p+3) 0x80 0xbf=true then 4
 else if b=0xf4∧BX x (p+1) 0x80 0x8f=true∧BX x (p+2) 0x80 0xbf=true∧BX x (p+3) 0x80 0xbf=true then 4
 else 0
def EF(x:ByteArray):Nat→Nat→Bool
 |0,_=>true
 |n+1,p=>if p<x.size then(if Bt x p=0 then false else EF x n (p+Bt x p))else true
def Ds(x:ByteArray):Bool:=EF x (x.size+1) 0
def GF(n b:Int):Bool:=if n=1 then decide (b≤1)else if n=2 then decide (-2147483648≤IntKind.i64.wrap b∧IntKind.i64.wrap b≤2147483647)else if n=4 then decide (b≤4294967295)else if n=9 then decide (b≤2147483647)else true
def Fl(v:Val):Bool:=decide (v.list.length=0∧v.pairs.length=0∧v.slots.length=0∧v.raws.length=0)
def CT(n:Int):Bool:=decide (n=7∨n=8)
def Eb(n:Int)(v:Val):Bool:=decide (1≤n∧n≤9∧v.kind=n)&&Fl v&&(if CT n then decide (v.bits=0∧v.text.size≤4096)&&(decide (n=8)||Ds v.text)else decide (v.text=⟨#[]⟩)&&GF n v.bits)
def Ce(n:Int)(v:Val):Int:=if v.kind≠n∨Bw v=true then 12 else if 4096<v.text.size then 3 else if Eb n v=true then 0 else if n=7 then 7 else 12
def zE:Enm:=.mk ⟨#[]⟩ false [] [] []
def BW(s:Scm)(n:ByteArray):Msg×Bool:=CA s.messages zM fun m=>decide (m.name=n)
def Bz(s:Scm)(n:ByteArray):Enm×Bool:=CA s.enums zE fun e=>decide (e.name=n)
def ER(e:Enm)(b:Int):Bool:=e.items.any fun x=>decide (IntKind.u64.wrap x.num=b)
def BH(R:Msg→Val→Int)(s:Scm)(t:Typ)(v:Val):Int:=
 if t.kind=10 then(if(BW s t.name).2=true then R (BW s t.name).1 v else 10)
 else if t.kind<1∨9<t.kind then 12
 else if Ce t.kind v≠0∨t.kind≠9 then Ce t.kind v
 else if(Bz s t.name).2=false then 10
 else if(Bz s t.name).1.opn=false∧ER (Bz s t.name).1 v.bits=false then 16 else 0
def GU(a b:Val):Bool:=decide (a.bits=b.bits)&&decide (a.text=b.text)
def GJ(E:Val→Int)(key:Int)(k:Bool)(l:List Pr)(i:Nat)(p:Pr):Int:=
 if Ce key p.key≠0 then Ce key p.key else if k=true∧((l.take i).any fun q=>GU q.key p.key)=true then 9 else E p.val
def Cr(R:Msg→Val→Int)(s:Scm)(k:Bool)(f:Fld)(v:Val):Int:=
 if f.card=4 then(if v.kind≠11∨Bw v=true then 12 else B2 (fun _ x=>BH R s f.type x) v.list 0)
 else if f.card=5 then(if v.kind≠12∨Bw v=true then 12 else B2 (GJ (BH R s f.type) f.key k v.pairs) v.pairs 0)
 else BH R s f.type v
def HD(F:List Fld)(l:List Slt)(u:ByteArray):Bool:=!decide (u=⟨#[]⟩)&&l.any fun y=>decide ((A3 F y.num).union=u)
def EG(R:Fld→Val→Int)(F:List Fld)(l:List Slt)(i:Nat)(x:Slt):Int:=
 if(BI F x.num).2=false then 8 else if CI (l.take i) x.num=true then 9 else if HD F (l.take i) (A3 F x.num).union=true then 15 else R (A3 F x.num) x.val
def HN(l:List Slt)(f:Fld):Int:=if f.card=1∧CI l f.num=false then 14 else 0
def M0(s:Scm)(f:Fld)(x:Raw):Bool:=decide (f.type.kind=9)&&(Bz s f.type.name).2&&!(Bz s f.type.name).1.opn&&!decide (f.card=5)&&decide (x.wire=0)&&decide (x.bits<2147483648)&&!ER (Bz s f.type.name).1 x.bits
def EO(s:Scm)(F:List Fld)(x:Raw):Int:=
 if x.num<1∨65535<x.num∨x.wire<0∨6<x.wire∨(x.wire≤2∧x.data≠⟨#[]⟩)∨(2<x.wire∧x.bits≠0)then 1
 else if(BI F x.num).2=true∧M0 s (A3 F x.num) x=false then 1
 else if(x.wire=3∧4096<x.data.size)∨65536<x.data.size then 3 else 0
def AN(s:Scm)(k:Bool):Nat→Msg→Val→Int
 |0,_,v=>if v.kind≠10∨Bw v=true then 12 else 17
 |d+1,m,v=>
  if v.kind≠10∨Bw v=true then 12
  else if B2 (EG (Cr (AN s k d) s k) m.fields v.slots) v.slots 0≠0 then B2 (EG (Cr (AN s k d) s k) m.fields v.slots) v.slots 0
  else if B2 (fun _ f=>HN v.slots f) m.fields 0≠0 then B2 (fun _ f=>HN v.slots f) m.fields 0
  else B2 (fun _ x=>EO s m.fields x) v.raws 0
mutual
def cnt:Val→Nat
 |.mk _ _ _ l p s r=>1+r.length+AM l+Bf p+BA s
def AM:List Val→Nat
 |[]=>0
 |v::l=>cnt v+AM l
def Km:Pr→Nat
 |.mk k v=>cnt k+cnt v
def Bf:List Pr→Nat
 |[]=>0
 |p::l=>Km p+Bf l
def Kd:Slt→Nat
 |.mk _ v=>cnt v
def BA:List Slt→Nat
 |[]=>0
 |x::l=>Kd x+BA l
end
def Ky(s:Scm)(k:Bool)(n:ByteArray)(v:Val):Int:=
 if(BW s n).2=false then 10 else if AN s k 16 (BW s n).1 v≠0 then AN s k 16 (BW s n).1 v else if 4096<cnt v then 3 else 0
end Go.Proofs.YtopncadjpnkjhaaGreatDoor
