import Derived.Test.YtopncadjpnkjhaaGreatDoorZk18
import Derived.Test.YtopncadjpnkjhaaGreatDoorZk17
import Derived.Test.YtopncadjpnkjhaaGreatDoorZk00
namespace Go.Proofs.YtopncadjpnkjhaaGreatDoor
set_option linter.all false
open Go Go.Eng
theorem Dk(d:ByteArray)(l:List Prb)(b:Bool)(n e:Int)(h:l.length<549755813887):Ok (fun y=>l.length≤y.length∧y.length≤l.length+1∧(b=true→l.length+1≤y.length)) (A7 d l b n e):=by
 dsimp only[A7,Wl,We,vz,vw,wg,lr,lc,ap,ID,fl]
 (repeat' (first|with_reducible (first|refine Az (fun _=>?_) fun _=>?_|refine Ay ?_|refine AB ?_ ?_)))<;>first|exact AK|simp_all
theorem Hx(d:ByteArray)(l:List Prb)(x:List Nt)(t n:Int)(h:l.length<549755813887)(a:Gm x):Ok (fun y=>l.length≤y.length∧y.length≤l.length+1) (FM d l x t n):=by
 dsimp only[FM,WD,vz,lr,lc,cl,fl]
 (repeat' (first|with_reducible (first|refine Az (fun _=>?_) fun _=>?_|refine Ay ?_)|(with_reducible apply Aw;(exact nQ _ _ a);intro _ _)|(with_reducible apply Aw;(exact Dk _ _ _ _ _ h);intro _ _)|with_reducible refine AB ?_ ?_))<;>exact AK
theorem kH(d:ByteArray)(l:List Prb)(x:List Spn)(t n:Int)(h:l.length<500000000000)(f:x.length≤1048576):Ok (fun y=>l.length≤y.length∧y.length≤l.length+2*x.length) (K9 d l x t n):=by
 have q:Ok (Sum.elim (fun y:List Prb=>l.length≤y.length∧y.length≤l.length+2*x.length) No) (Ak (Qq d x t n) Aj (0,l)):=by
  refine Bf (fun v:Nat×List Prb=>v.1≤x.length∧l.length≤v.2.length∧v.2.length≤l.length+2*v.1) (fun v:Nat×List Prb=>x.length-v.1) ⟨by omega,by simp,by simp⟩ (Bu (by omega)) fun v e=>?_
  obtain⟨i,r⟩:=v
  obtain⟨a,b,c⟩:=e
  dsimp only at a b c
  dsimp only[Qq,Wj,Wh,br,ix,Bv,vz,vs,vg,ln,Ah,lc,wa,wi,fl,Ag,br]
  (repeat' (first|with_reducible (first|refine Az (fun _=>?_) fun _=>?_|refine Ay ?_|refine Bq ?_ fun _ _ _=>?_)|(with_reducible apply Aw;(exact Dk _ _ _ _ _ (by omega));intro _ _)|with_reducible (first|refine EC ?_ fun _=>?_|refine AB ?_ ?_)))<;>exact AK
 dsimp only[K9,Wq,vz,lr,lc,fl]
 (repeat' (first|with_reducible (first|refine Az (fun _=>?_) fun _=>?_|refine Ay ?_)|(with_reducible apply Bj;(exact q);all_goals(intro _ _;try dsimp only))|with_reducible refine AB ?_ ?_))<;>exact AK
theorem W0(s:Scm)(w:Int)(h:SzS s):Ok (fun y=>y.length≤3145728) (TE s w):=by
 have a:=h.ml
 have b:=h.el
 have j:=h.wl
 have e:Ok (Sum.elim (fun y:List ByteArray=>y.length≤1048576) No) (Ak (Qt s w) Aj ([],0)):=by
  refine Bf (fun v:List ByteArray×Nat=>v.2≤s.messages.length∧v.1.length≤v.2) (fun v:List ByteArray×Nat=>s.messages.length-v.2) ⟨by omega,by simp⟩ (Bu (by omega)) fun v c=>?_
  obtain⟨r,i⟩:=v
  obtain⟨a,b⟩:=c
  dsimp only at a b
  dsimp only[Qt,br,ix,vz,vy,vw,wg,vs,v2,ln,Ah,ap,wa,fl,Ag,br]
  (repeat' (first|with_reducible (first|refine Az (fun _=>?_) fun _=>?_|refine Ay ?_|refine Bq ?_ fun _ _ _=>?_|refine AB ?_ ?_)))<;>exact AK
 have f:∀r:List ByteArray,r.length≤1048576→Ok (Sum.elim (fun y:List ByteArray=>y.length≤2097152) No) (Ak (QB s w) Aj (r,0)):=by
  intro r d
  refine Bf (fun v:List ByteArray×Nat=>v.2≤s.enums.length∧v.1.length≤1048576+v.2) (fun v:List ByteArray×Nat=>s.enums.length-v.2) ⟨by omega,by simpa using d⟩ (Bu (by omega)) fun v c=>?_
  obtain⟨r,i⟩:=v
  obtain⟨a,b⟩:=c
  dsimp only at a b
  dsimp only[QB,br,ix,vz,vy,vw,wg,vs,ln,Ah,ap,wa,fl,Ag,br]
  (repeat' (first|with_reducible (first|refine Az (fun _=>?_) fun _=>?_|refine Ay ?_|refine Bq ?_ fun _ _ _=>?_|refine AB ?_ ?_)))<;>exact AK
 have g:∀r:List ByteArray,r.length≤2097152→Ok (Sum.elim (fun y:List ByteArray=>y.length≤3145728) No) (Ak (P3 s w) Aj (r,0)):=by
  intro r d
  refine Bf (fun v:List ByteArray×Nat=>v.2≤s.services.length∧v.1.length≤2097152+v.2) (fun v:List ByteArray×Nat=>s.services.length-v.2) ⟨by omega,by simpa using d⟩ (Bu (by omega)) fun v c=>?_
  obtain⟨r,i⟩:=v
  obtain⟨a,b⟩:=c
  dsimp only at a b
  dsimp only[P3,br,ix,vz,vy,vw,wg,vs,ln,Ah,ap,wa,fl,Ag,br]
  (repeat' (first|with_reducible (first|refine Az (fun _=>?_) fun _=>?_|refine Ay ?_|refine Bq ?_ fun _ _ _=>?_|refine AB ?_ ?_)))<;>exact AK
 dsimp only[TE,vz,vw,lr,lc,fl,fr]
 (repeat' (first|with_reducible (first|refine Az (fun _=>?_) fun _=>?_|refine Ay ?_)|(with_reducible apply Bj;(exact e);all_goals(intro _ _;try dsimp only))|(with_reducible apply Bj;(exact f _ (by assumption));all_goals(intro _ _;try dsimp only))|(with_reducible apply Bj;(exact g _ (by assumption));all_goals(intro _ _;try dsimp only))|with_reducible refine AB ?_ ?_))<;>exact AK
theorem wK(l:List ByteArray)(h:l.length≤3145728):Ok Tr (Tc l):=by
 have q:Ok Ts (Ak (PW l) Aj 1):=by
  refine Bf (fun v:Nat=>1≤v∧v≤l.length+1) (fun v:Nat=>l.length+1-v) ⟨by omega,by omega⟩ (by unfold Aj;omega) fun v a=>?_
  dsimp only[PW,br,ix,CZ,vz,vs,Ap,ln,Ah,wa,wi,Ag,br]
  (repeat' (first|with_reducible (first|refine Az (fun _=>?_) fun _=>?_|refine Ay ?_|refine Bq ?_ fun _ _ _=>?_|refine AB ?_ ?_)))<;>exact AK
 dsimp only[Tc,lr,lc]
 (repeat' (first|with_reducible (first|refine Az (fun _=>?_) fun _=>?_|refine Ay ?_)|(with_reducible apply Bj;(exact q);all_goals(intro _ _;try dsimp only))|with_reducible refine AB ?_ ?_))<;>exact AK
theorem n7(l:List ByteArray)(x:ByteArray)(h:l.length≤3145728):Ok Tr (K7 l x):=by
 have q:Ok Ts (Ak (Jz l x) Aj 0):=by
  refine Bf (fun v:Nat=>v≤l.length) (fun v:Nat=>l.length-v) (by omega) (by unfold Aj;omega) fun v a=>?_
  dsimp only[Jz,br,ix,vz,vs,Ap,ln,Ah,wa,Ag,br]
  (repeat' (first|with_reducible (first|refine Az (fun _=>?_) fun _=>?_|refine Ay ?_|refine Bq ?_ fun _ _ _=>?_|refine AB ?_ ?_)))<;>exact AK
 dsimp only[K7,lr,lc]
 (repeat' (first|with_reducible (first|refine Az (fun _=>?_) fun _=>?_|refine Ay ?_)|(with_reducible apply Bj;(exact q);all_goals(intro _ _;try dsimp only))|with_reducible refine AB ?_ ?_))<;>exact AK
theorem kz(l k:List ByteArray)(h:l.length≤3145728)(a:k.length≤3145728):Ok Tr (Tj l k):=by
 have q:Ok Ts (Ak (Qm l k) Aj 0):=by
  refine Bf (fun v:Nat=>v≤l.length) (fun v:Nat=>l.length-v) (by omega) (by unfold Aj;omega) fun v b=>?_
  dsimp only[Qm,br,ix,vz,vs,Ap,ln,Ah,cl,wa,Ag,br]
  (repeat' (first|with_reducible (first|refine Az (fun _=>?_) fun _=>?_|refine Ay ?_|refine Bq ?_ fun _ _ _=>?_)|(with_reducible apply Aw;(exact n7 _ _ a);intro _ _)|with_reducible refine AB ?_ ?_))<;>exact AK
 dsimp only[Tj,lr,lc]
 (repeat' (first|with_reducible (first|refine Az (fun _=>?_) fun _=>?_|refine Ay ?_)|(with_reducible apply Bj;(exact q);all_goals(intro _ _;try dsimp only))|with_reducible refine AB ?_ ?_))<;>exact AK
def IL(s:Scm)(f:Fld):Prop:=(f.type.kind=9→∃m∈s.enums,m.name=f.type.name)∧(f.type.kind=10→(∃m∈s.messages,m.name=f.type.name)∧f.card≠3)∧1≤f.type.kind∧f.type.kind≤10
theorem kE(s:Scm)(f:Fld)(h:SzS s):Ok (fun b=>b=true→IL s f) (Tt s f):=by
 unfold IL
 dsimp only[Tt,br,wg,lr,cl,br]
 (repeat' (first|with_reducible (first|refine Az (fun _=>?_) fun _=>?_|refine Ay ?_)|(with_reducible apply Aw;(exact Sk _ _ h);intro _ _)|(with_reducible apply Aw;(exact MG _ _ h);intro _ _)|with_reducible refine AB ?_ ?_))
 ·intro a
  have d:f.type.kind=9:=Y4 (by assumption)
  have e:=(show _<_∧(_→∃m∈s.enums,m.name=f.type.name)by assumption).2 (Y4 a)
  exact⟨fun _=>e,fun k=>by omega,by omega,by omega⟩
 ·intro a
  have c:f.type.kind=10:=Y4 (by assumption)
  rw[Yb]at a
  have e:=(show _<_∧(_→∃m∈s.messages,m.name=f.type.name)by assumption).2 (Y4 a.1)
  exact⟨fun k=>by omega,fun _=>⟨e,by simpa using a.2⟩,by omega,by omega⟩
 ·intro a
  simp only[Yb,YO]at a
  exact⟨fun k=>by omega,fun k=>by omega,by omega,by omega⟩
def Kz(f:Fld):Prop:=f.union≠⟨#[]⟩→f.card=2
theorem kF(m:Msg)(i:Nat)(h:SzM m)(hi:i<m.fields.length):Ok (fun b=>b=true→∀f,m.fields[i]?=some f→Kz f) (TC m i):=by
 have hl:=h.fl
 have q:∀e,Ok (Sum.elim (fun b:Bool=>b=true→0<i) Tr) (Ak (Qg m i e) Aj (false,0)):=by
  intro e
  refine Bf (fun v:Bool×Nat=>v.2≤m.fields.length∧(v.1=true→0<i)) (fun v:Bool×Nat=>m.fields.length-v.2) ⟨by omega,by simp⟩ (Bu (by omega)) fun v k=>?_
  obtain⟨b,j⟩:=v
  obtain⟨c,d⟩:=k
  dsimp only at c d
  dsimp only[Qg,br,ix,Bv,vz,wg,vs,Ap,ln,Ah,wa,Ag,br]
  (repeat' (first|with_reducible (first|refine Az (fun _=>?_) fun _=>?_|refine Ay ?_|refine Bq ?_ fun _ _ _=>?_|refine EC ?_ fun _=>?_|refine AB ?_ ?_)))<;>exact AK
 dsimp only[TC,br,CZ,Bv,wg,vg,lr,lc,AA,wi,br]
 (repeat' (first|with_reducible (first|refine Az (fun _=>?_) fun _=>?_|refine Ay ?_|refine Bq ?_ fun _ _ _=>?_)|(with_reducible apply Bj;(exact q _);all_goals(intro _ _;try dsimp only))|(with_reducible apply Aw;(exact IA _ ((h.f _ (by assumption)).u));intro _ _)|(with_reducible apply A6;(exact fun _=>IA _ ((h.f _ (by assumption)).u));intro _)|with_reducible (first|refine EC ?_ fun _=>?_|refine AB ?_ ?_)))<;>first|(intro h;cases h;done)|(have he:=‹m.fields[i]?=some _›;intro _ f a;rw[he]at a;cases a;intro g;first|exact absurd (Y4 (by assumption)) g|(simp only[Yu,YN,IN,RD,YO,YI]at*;omega)|grind)|exact AK
def Gy(f:Fld):Prop:=f.hasDefault=true→Kx f.type.kind f.dflt∧f.card=2∧f.union=⟨#[]⟩
theorem kG(s:Scm)(f:Fld)(h:SzS s)(a:SzF f):Ok (fun b=>b=true→Gy f) (TD s f):=by
 have g:SzV (.mk 0 0 ⟨#[]⟩ [] [] [] []):=by constructor<;>decide
 have he:∀y,y∈s.enums→y.items.length≤1048576:=fun y hy=>(h.e y hy).il
 have q:∀y:Int,0≤y→y<s.enums.length→Ok Ts (Ak (Qc s f y) Aj 0):=by
  intro y hy k
  refine Bf (fun v:Nat=>v≤1048576) (fun v:Nat=>1048576-v) (by omega) (Bu (by omega)) fun v l=>?_
  dsimp only[Qc,br,ix,CZ,vz,wg,vs,Ap,ln,Ah,wa,Ag,br]
  (repeat' (first|with_reducible (first|refine Az (fun _=>?_) fun _=>?_|refine Ay ?_|refine Bq ?_ fun _ _ _=>?_|refine AB ?_ ?_)))<;>exact AK
 have key:∀(c d:Bool),((!((!decide (f.card=2))||(!decide (f.union=⟨#[]⟩))))=true→c=true→Kx f.type.kind f.dflt)→((((!decide (f.card=2))||(!decide (f.union=⟨#[]⟩)))||!c)||!d)=false→Gy f:=fun c d i j _=>by
  cases c<;>cases d<;>simp_all
 have e:(!f.hasDefault)=true→Gy f:=fun i j=>by simp_all
 dsimp only[TD,br,wg,lr,lc,cl,AA,br]
 (repeat' (first|with_reducible (first|refine Az (fun _=>?_) fun _=>?_|refine Ay ?_)|(with_reducible apply Bj;(exact q _ BI BI);all_goals(intro _ _;try dsimp only))|(with_reducible apply Aw;(exact Nw _ _ a.d g);intro _ _)|(with_reducible apply Aw;(exact NG _ _ a.d);intro _ _)|(with_reducible apply Aw;(exact ZU _ a.d);intro _ _)|(with_reducible apply Aw;(exact Nw _ _ a.d (by solve_by_elim));intro _ _)|(with_reducible apply Aw;(exact Sk _ _ h);intro _ _)|(with_reducible apply A6;(exact fun _=>Nw _ _ a.d g);intro _)|(with_reducible apply A6;(exact fun _=>NG _ _ a.d);intro _)|(with_reducible apply A6;(exact fun _=>ZU _ a.d);intro _)|(with_reducible apply A6;(exact fun _=>Nw _ _ a.d (by solve_by_elim));intro _)|(with_reducible apply A6;(exact fun _=>Sk _ _ h);intro _)|with_reducible refine AB ?_ ?_))<;>first|(intro _;exact key _ _ (by assumption) (by assumption))|(intro _;exact e (by assumption))|exact AK
theorem wO(s:Scm)(m:Msg)(l:List Bool)(h:SzS s)(hm:SzM m)(hl:l.length=s.messages.length):Ok Tr (TB s m l):=by
 have a:=hm.fl
 have q:Ok Ts (Ak (Ql s m l) Aj 0):=by
  refine Bf (fun v:Nat=>v≤m.fields.length) (fun v:Nat=>m.fields.length-v) (by omega) (Bu (by omega)) fun v b=>?_
  dsimp only[Ql,br,ix,Bv,vz,wg,vs,Ap,ln,Ah,cl,wa,Ag,br]
  (repeat' (first|with_reducible (first|refine Az (fun _=>?_) fun _=>?_|refine Ay ?_|refine Bq ?_ fun _ _ _=>?_)|(with_reducible apply Aw;(exact MG _ _ h);intro _ _)|with_reducible (first|refine EC ?_ fun _=>?_|refine AB ?_ ?_)))<;>exact AK
 dsimp only[TB,lr,lc]
 (repeat' (first|with_reducible (first|refine Az (fun _=>?_) fun _=>?_|refine Ay ?_)|(with_reducible apply Bj;(exact q);all_goals(intro _ _;try dsimp only))|with_reducible refine AB ?_ ?_))<;>exact AK
theorem i2(s:Scm)(m:Msg)(l:List Bool)(h:SzS s)(hm:SzM m)(hl:l.length=s.messages.length):Ok Tr (Od s m l):=by
 have a:=hm.fl
 have q:Ok Ts (Ak (Pf s m l) Aj 0):=by
  refine Bf (fun v:Nat=>v≤m.fields.length) (fun v:Nat=>m.fields.length-v) (by omega) (Bu (by omega)) fun v b=>?_
  dsimp only[Pf,br,ix,vz,wg,vs,vg,Ap,ln,Ah,cl,wa,CC,QD,fl,Ag,br,CC]
  (repeat' (first|with_reducible (first|refine Az (fun _=>?_) fun _=>?_|refine Ay ?_|refine Bq ?_ fun _ _ _=>?_)|(with_reducible apply Aw;(exact MG _ _ h);intro _ _)|with_reducible refine AB ?_ ?_))<;>exact AK
 dsimp only[Od,vz,lr,lc,fl]
 (repeat' (first|with_reducible (first|refine Az (fun _=>?_) fun _=>?_|refine Ay ?_)|(with_reducible apply Bj;(exact q);all_goals(intro _ _;try dsimp only))|with_reducible refine AB ?_ ?_))<;>exact AK
theorem kA(s:Scm)(h:SzS s):Ok (fun y=>y.length=s.messages.length) (Tv s):=by
 have g:=h.ml
 have q:∀(v:Nat) (r:List Bool),r.length=s.messages.length→Ok (Sum.elim (fun y:Bool×List Bool=>y.2.length=s.messages.length) No) (Ak (PX s v) Aj (false,0,r)):=by
  intro w r e
  refine Bf (fun v:Bool×Nat×List Bool=>v.2.1≤s.messages.length∧v.2.2.length=s.messages.length) (fun v:Bool×Nat×List Bool=>s.messages.length-v.2.1) ⟨by simp,e⟩ (Bu (by simp;omega)) fun v d=>?_
  obtain⟨b,i,r⟩:=v
  obtain⟨c,a⟩:=d
  dsimp only at c a
  dsimp only[PX,br,Bv,vz,vw,wg,vs,v2,ln,Ah,DH,wa,ir,ca,st,rn,fl,Ag,br]
  (repeat' (first|with_reducible (first|refine Az (fun _=>?_) fun _=>?_|refine Ay ?_|refine Bq ?_ fun _ _ _=>?_)|(with_reducible apply Aw;(exact i2 _ _ _ h (h.m _ (by grind)) a);intro _ _)|(with_reducible apply A6;(exact fun _=>i2 _ _ _ h (h.m _ (by grind)) a);intro _)|with_reducible (first|refine EC ?_ fun _=>?_|refine AB ?_ ?_)))<;>exact AK
 have f:Ok (Sum.elim (fun y:List Bool=>y.length=s.messages.length) No) (Ak (Qn s) Aj (true,0,List.replicate s.messages.length false)):=by
  refine Bf (fun v:Bool×Nat×List Bool=>v.2.1≤s.messages.length∧v.2.2.length=s.messages.length) (fun v:Bool×Nat×List Bool=>s.messages.length-v.2.1) ⟨by simp,by simp⟩ (Bu (by simp;omega)) fun v d=>?_
  obtain⟨b,i,r⟩:=v
  obtain⟨c,a⟩:=d
  dsimp only at c a
  dsimp only[Qn,br,vz,wg,vs,v2,ln,Ah,lc,wa,fl,Ag,br]
  (repeat' (first|with_reducible (first|refine Az (fun _=>?_) fun _=>?_|refine Ay ?_)|(with_reducible apply Bj;(exact q _ _ a);all_goals(intro _ _;try dsimp only))|with_reducible refine AB ?_ ?_))<;>exact AK
 dsimp only[Tv,vz,wg,lr,lc,ms,fl,fr,Ag]
 (repeat' (first|with_reducible (first|refine Az (fun _=>?_) fun _=>?_|refine Ay ?_)|(with_reducible apply Bj;(exact f);all_goals(intro _ _;try dsimp only))|with_reducible refine AB ?_ ?_))<;>exact AK
end Go.Proofs.YtopncadjpnkjhaaGreatDoor
namespace Go.Proofs.YtopncadjpnkjhaaGreatDoor
set_option linter.all false
open Go Go.Eng
def Dd(l:List Fld)(n:Nat):Prop:=∀(i:Nat) (a b:Fld),i+1<n→l[i]?=some a→l[i+1]?=some b→a.num<b.num
theorem r3{l:List Fld}{v:Nat}{a b:Fld}(h:Dd l v)(j:l[v]?=some a)(k:0<v→l[v-1]?=some b∧b.num<a.num):Dd l (v+1):=by
 intro i x y hi c hy
 by_cases e:i+1<v
 ·exact h i x y e c hy
 ·have f:i+1=v:=by omega
  have g:v-1=i:=by omega
  rw[f]at hy
  obtain⟨d,m⟩:=k (by omega)
  rw[g]at d
  rw[j]at hy
  rw[d]at c
  cases c
  cases hy
  exact m
structure GdM0 (s:Scm) (m:Msg):Prop where
 asc:Dd m.fields m.fields.length
 df:∀(j:Nat) (f:Fld),m.fields[j]?=some f→Gy f∧IE f∧IL s f∧Kz f
def IJ(e:Enm):Prop:=∃x,e.items[0]?=some x∧x.num=0
structure GdM (s:Scm) (m:Msg):Prop where
 asc:Dd m.fields m.fields.length
 df:∀(j:Nat) (f:Fld),m.fields[j]?=some f→Gy f∧IE f∧IL s f∧Kz f
 en:∀(j:Nat) (e:Enm),s.enums[j]?=some e→IJ e
theorem la(x:Msg):x.fields.length+x.reserved.length+x.gone.length≤Ao (AG x):=by
 have a:=B1 (e:=Am) x.fields
 have b:=B1 (e:=BY) x.reserved
 have c:=B1 (e:=AO) x.gone
 simp only[AG,Ao,bk]
 omega
theorem lE(x:Enm):x.items.length+x.reserved.length≤Ao (Bs x):=by
 have a:=B1 (e:=Cc) x.items
 have b:=B1 (e:=BY) x.reserved
 simp only[Bs,Ao,bk]
 omega
theorem mH(x:Svc):x.methods.length≤Ao (CA x):=by
 have a:=B1 (e:=Fk) x.methods
 simp only[CA,Ao,bk]
 omega
theorem bb(d:ByteArray)(b:Bool)(n e:Int):Ok (fun y=>y.length≤1) (A7 d [] b n e):=(Dk d [] b n e (by simp)).mono fun y h=>by simpa using h.2.1
theorem wL(s:Scm)(m:Msg)(l:List Bool)(h:SzS s)(hm:SzM m)(hl:l.length=s.messages.length):Ok (fun y=>y.length≤20*(Ao (AG m)+1)∧(y.length=0→GdM0 s m)) (S7 s m l):=by
 have g:=la m
 have H:=hm.fl
 have q:=hm.r
 have B:=hm.gl
 have F:∀(v:Nat) (r:List Prb) (e:Fld),v≤m.fields.length→Ok (Sum.elim Tr No) (Ak (Qu s m l v r e) Aj (false,0)):=by
  intro w r e J
  refine Bf (fun v:Bool×Nat=>v.2≤w) (fun v:Bool×Nat=>w-v.2) (by simp) (Bu (by omega)) fun v k=>?_
  obtain⟨b,i⟩:=v
  dsimp only at k
  dsimp only[Qu,br,ix,vz,wg,vs,ln,Ah,wa,fl,br]
  (repeat' (first|with_reducible (first|refine Az (fun _=>?_) fun _=>?_|refine Ay ?_|refine Bq ?_ fun _ _ _=>?_|refine AB ?_ ?_)))<;>exact AK
 have E:∀a:List Prb,a.length≤9→Ok (Sum.elim (fun y:List Prb=>y.length≤9+10*m.fields.length∧(y.length=0→GdM0 s m)) No) (Ak (Qx s m l) Aj (0,a)):=by
  intro a o
  refine Bf (fun v:Nat×List Prb=>v.1≤m.fields.length∧v.2.length≤9+10*v.1∧(v.2.length=0→Dd m.fields v.1∧∀(j:Nat) (f:Fld),j<v.1→m.fields[j]?=some f→Gy f∧IE f∧IL s f∧Kz f)) (fun v:Nat×List Prb=>m.fields.length-v.1) ⟨by simp,by simpa using o,fun _=>⟨fun i x y hi=>by simp at hi,fun j f n=>by simp at n⟩⟩ (Bu (by omega)) fun v k=>?_
  obtain⟨v,r⟩:=v
  obtain⟨t,u,c⟩:=k
  dsimp only at t u c
  dsimp only[Qx,Vv,V0,Vu,V5,VG,Wt,Wv,br,ix,Bv,vz,wg,vs,vg,ln,Ah,lc,cl,AA,wa,wi,fl,Ag,br]
  (repeat' (first|with_reducible (first|refine Az (fun _=>?_) fun _=>?_|refine Ay ?_|refine Bq ?_ fun _ _ _=>?_)|(with_reducible apply Bj;(exact F _ _ _ (by omega));all_goals(intro _ _;try dsimp only))|(with_reducible apply Aw;(exact Dk _ _ _ _ _ (by omega));intro _ _)|(with_reducible apply Aw;(exact IA _ (hm.f _ (by assumption)).n);intro _ _)|(with_reducible apply Aw;(exact W5 _ _ q);intro _ _)|(with_reducible apply Aw;(exact kB _ _ B);intro _ _)|(with_reducible apply Aw;(exact kD _);intro _ _)|(with_reducible apply Aw;(exact kE _ _ h);intro _ _)|(with_reducible apply Aw;(exact kF _ _ hm BI);intro _ _)|(with_reducible apply Aw;(exact kG _ _ h (hm.f _ (by assumption)));intro _ _)|(with_reducible apply Aw;(exact Hx _ _ _ _ _ (by omega) (hm.f _ (by assumption)).o);intro _ _)|(with_reducible apply A6;(exact fun _=>Dk _ _ _ _ _ (by omega));intro _)|(with_reducible apply A6;(exact fun _=>IA _ (hm.f _ (by assumption)).n);intro _)|(with_reducible apply A6;(exact fun _=>W5 _ _ q);intro _)|(with_reducible apply A6;(exact fun _=>kB _ _ B);intro _)|(with_reducible apply A6;(exact fun _=>kD _);intro _)|(with_reducible apply A6;(exact fun _=>kE _ _ h);intro _)|(with_reducible apply A6;(exact fun _=>kF _ _ hm BI);intro _)|(with_reducible apply A6;(exact fun _=>kG _ _ h (hm.f _ (by assumption)));intro _)|(with_reducible apply A6;(exact fun _=>Hx _ _ _ _ _ (by omega) (hm.f _ (by assumption)).o);intro _)|with_reducible (first|refine EC ?_ fun _=>?_|refine AB ?_ ?_)))
  all_goals try exact BI
  have D:=‹decide (0<(v:Int))=true→m.fields[((v:Int)-1).toNat]?=some (m.fields.getD ((v:Int)-1).toNat Rw.z)∧_›
  have he:=‹m.fields[v]?=some _›
  dsimp only
  refine⟨⟨by exact BI,by omega,fun p=>⟨r3 (b:=m.fields.getD ((v:Int)-1).toNat Rw.z) (c (by omega)).1 he fun k=>?_,fun j f n d=>?_⟩⟩,by exact BI⟩
  have ev:((v:Int)-1).toNat=v-1:=by omega
  refine⟨ev▸(D (Y3 (by omega))).1,?_⟩
  rcases Int.lt_or_le (m.fields.getD ((v:Int)-1).toNat Rw.z).num (Fld.num _)with A|z
  ·exact A
  ·exfalso
   have I:=Yb _ _▸And.intro (Y3 (show(0:Int)<v by omega)) (Y3 z)
   grind
  ·rcases Nat.lt_or_eq_of_le (Nat.le_of_lt_succ n)with n|rfl
   ·exact(c (by omega)).2 j f n d
   ·rw[he]at d
    cases d
    refine⟨(show _=true→Gy _ by assumption) (KU fun g=>?_),(show _=true→IE _ by assumption) (KU fun g=>?_),(show _=true→IL s _ by assumption) (KU fun g=>?_),(show _=true→∀f,m.fields[j]?=some f→Kz f by assumption) (KU fun g=>?_) _ he⟩
    all_goals(
     rw[Bool.not_eq_true]at g
     subst g
     simp only[DN,K1]at*
     omega)
  have C:v=m.fields.length:=by exact BI
  subst C
  exact⟨by exact BI,fun p=>⟨(c p).1,fun j f d=>(c p).2 j f (Ye.1 d).1 d⟩⟩
 have G:∀a:List Prb,a.length≤20000000→Ok (Sum.elim (fun y:List Prb=>a.length≤y.length∧y.length≤a.length+m.gone.length) No) (Ak (PU s m l) Aj (0,a)):=by
  intro a o
  refine Bf (fun v:Nat×List Prb=>v.1≤m.gone.length∧v.2.length≤a.length+v.1∧a.length≤v.2.length) (fun v:Nat×List Prb=>m.gone.length-v.1) ⟨by simp,by simp,by simp⟩ (Bu (by omega)) fun v k=>?_
  obtain⟨v,r⟩:=v
  obtain⟨t,u,c⟩:=k
  dsimp only at t u c
  dsimp only[PU,br,ix,vz,wg,vs,ln,Ah,lc,cl,wa,fl,Ag,br]
  (repeat' (first|with_reducible (first|refine Az (fun _=>?_) fun _=>?_|refine Ay ?_|refine Bq ?_ fun _ _ _=>?_)|(with_reducible apply Aw;(exact Dk _ _ _ _ _ (by omega));intro _ _)|(with_reducible apply Aw;(exact W6 _ (hm.g _ (by assumption)));intro _ _)|with_reducible refine AB ?_ ?_))<;>exact AK
 dsimp only[S7,vz,vy,vw,wg,lr,lc,cl,fl,fr,Ag]
 (repeat' (first|with_reducible (first|refine Az (fun _=>?_) fun _=>?_|refine Ay ?_)|(with_reducible apply Bj;(exact E _ BI);all_goals(intro _ _;try dsimp only))|(with_reducible apply Bj;(exact G _ (by omega));all_goals(intro _ _;try dsimp only))|(with_reducible apply Aw;(exact W4 _ hm.n);intro _ _)|(with_reducible apply Aw;(exact bb _ _ _ _);intro _ _)|(with_reducible apply Aw;(exact Dk _ _ _ _ _ (by omega));intro _ _)|(with_reducible apply Aw;(exact Hx _ _ _ _ _ (by omega) hm.o);intro _ _)|(with_reducible apply Aw;(exact kH _ _ _ _ _ (by omega) q);intro _ _)|(with_reducible apply Aw;(exact wO _ _ _ h hm hl);intro _ _)|with_reducible refine AB ?_ ?_))<;>exact AK
theorem wM(e:Enm)(hm:SzE e):Ok (fun y=>y.length≤20*(Ao (Bs e)+1)∧(y.length=0→IJ e)) (Tp e):=by
 have z:=lE e
 have u:=hm.il
 have g:=hm.r
 have q:∀(v:Nat) (r:List Prb) (x:Itm),v≤e.items.length→Ok (Sum.elim Tr No) (Ak (PY e v r x) Aj (false,0)):=by
  intro w r x A
  refine Bf (fun v:Bool×Nat=>v.2≤w) (fun v:Bool×Nat=>w-v.2) (by simp) (Bu (by omega)) fun v f=>?_
  obtain⟨b,i⟩:=v
  dsimp only at f
  dsimp only[PY,br,ix,vz,wg,vs,ln,Ah,wa,fl,br]
  (repeat' (first|with_reducible (first|refine Az (fun _=>?_) fun _=>?_|refine Ay ?_|refine Bq ?_ fun _ _ _=>?_|refine AB ?_ ?_)))<;>exact AK
 have p:∀a:List Prb,a.length≤9→Ok (Sum.elim (fun y:List Prb=>a.length≤y.length∧y.length≤9+10*e.items.length) No) (Ak (Qj e) Aj (0,a)):=by
  intro a d
  refine Bf (fun v:Nat×List Prb=>v.1≤e.items.length∧a.length≤v.2.length∧v.2.length≤9+10*v.1) (fun v:Nat×List Prb=>e.items.length-v.1) ⟨by simp,by simp,by simpa using d⟩ (Bu (by omega)) fun v f=>?_
  obtain⟨v,r⟩:=v
  obtain⟨m,o,n⟩:=f
  dsimp only at m n o
  dsimp only[Qj,Vz,VM,Wr,br,ix,Bv,vz,wg,vs,vg,ln,Ah,lc,cl,wa,wi,fl,Ag,br]
  (repeat' (first|with_reducible (first|refine Az (fun _=>?_) fun _=>?_|refine Ay ?_|refine Bq ?_ fun _ _ _=>?_)|(with_reducible apply Bj;(exact q _ _ _ (by omega));all_goals(intro _ _;try dsimp only))|(with_reducible apply Aw;(exact Dk _ _ _ _ _ (by omega));intro _ _)|(with_reducible apply Aw;(exact IA _ (hm.i _ (by assumption)).n);intro _ _)|(with_reducible apply Aw;(exact W5 _ _ g);intro _ _)|(with_reducible apply Aw;(exact Hx _ _ _ _ _ (by omega) (hm.i _ (by assumption)).o);intro _ _)|with_reducible (first|refine EC ?_ fun _=>?_|refine AB ?_ ?_)))<;>exact AK
 dsimp only[Tp,Bv,vz,vy,vw,wg,lr,lc,cl,fl,fr,Ag]
 (repeat' (first|with_reducible (first|refine Az (fun _=>?_) fun _=>?_|refine Ay ?_)|(with_reducible apply Bj;(exact p _ BI);all_goals(intro _ _;try dsimp only))|(with_reducible apply Aw;(exact W4 _ hm.n);intro _ _)|(with_reducible apply Aw;(exact Dk _ _ _ _ _ BI);intro _ _)|(with_reducible apply Aw;(exact Hx _ _ _ _ _ (by omega) hm.o);intro _ _)|(with_reducible apply Aw;(exact kH _ _ _ _ _ (by omega) g);intro _ _)|with_reducible (first|refine EC ?_ fun _=>?_|refine AB ?_ ?_)))
 all_goals try exact AK
 rename_i B a0 C a1 D k x E a3 b a4 F a5 G s
 refine⟨by exact BI,fun t=>?_⟩
 have l:¬(e.items.length:Int)<1:=fun h=>by
  have:=k.2.2 (by simp only[h,YB,IW])
  omega
 have j:(0:Int)<e.items.length:=by omega
 refine⟨_,(x (Y3 j)).1,Decidable.not_not.1 fun c=>?_⟩
 have:=a3.2.2 (by simp only[j,c,YB,YZ,DN,KX])
 omega
theorem wN(s:Scm)(e:Svc)(h:SzS s)(hm:SzW e):Ok (fun y=>y.length≤20*(Ao (CA e)+1)) (S5 s e):=by
 have j:=mH e
 have i:=hm.ml
 have g:∀b:List Prb,b.length≤9→Ok (Sum.elim (fun y:List Prb=>y.length≤9+10*e.methods.length) No) (Ak (Qr s e) Aj (0,b)):=by
  intro b a
  refine Bf (fun v:Nat×List Prb=>v.1≤e.methods.length∧v.2.length≤9+10*v.1) (fun v:Nat×List Prb=>e.methods.length-v.1) ⟨by simp,by simpa using a⟩ (Bu (by omega)) fun v f=>?_
  obtain⟨v,r⟩:=v
  obtain⟨c,d⟩:=f
  dsimp only at c d
  dsimp only[Qr,WC,br,ix,Bv,vz,wg,vs,vg,ln,Ah,lc,cl,AA,wa,wi,fl,Ag,br]
  (repeat' (first|with_reducible (first|refine Az (fun _=>?_) fun _=>?_|refine Ay ?_|refine Bq ?_ fun _ _ _=>?_)|(with_reducible apply Aw;(exact Dk _ _ _ _ _ (by omega));intro _ _)|(with_reducible apply Aw;(exact MG _ _ h);intro _ _)|(with_reducible apply Aw;(exact IA _ (hm.m _ (by assumption)).n);intro _ _)|(with_reducible apply Aw;(exact Hx _ _ _ _ _ (by omega) (hm.m _ (by assumption)).o);intro _ _)|(with_reducible apply A6;(exact fun _=>Dk _ _ _ _ _ (by omega));intro _)|(with_reducible apply A6;(exact fun _=>MG _ _ h);intro _)|(with_reducible apply A6;(exact fun _=>IA _ (hm.m _ (by assumption)).n);intro _)|(with_reducible apply A6;(exact fun _=>Hx _ _ _ _ _ (by omega) (hm.m _ (by assumption)).o);intro _)|with_reducible (first|refine EC ?_ fun _=>?_|refine AB ?_ ?_)))<;>exact AK
 dsimp only[S5,vz,vw,wg,lr,lc,cl,fl,fr,Ag]
 (repeat' (first|with_reducible (first|refine Az (fun _=>?_) fun _=>?_|refine Ay ?_)|(with_reducible apply Bj;(exact g _ BI);all_goals(intro _ _;try dsimp only))|(with_reducible apply Aw;(exact W4 _ hm.n);intro _ _)|(with_reducible apply Aw;(exact bb _ _ _ _);intro _ _)|(with_reducible apply Aw;(exact Dk _ _ _ _ _ (by omega));intro _ _)|(with_reducible apply Aw;(exact Hx _ _ _ _ _ (by omega) hm.o);intro _ _)|with_reducible refine AB ?_ ?_))<;>exact AK
structure Few (s:Scm):Prop where
 m:s.messages.length≤150
 e:s.enums.length≤150
 w:s.services.length≤150
theorem wJ{s:Scm}(hs:Ao (An s)≤1048576):Ok (fun y=>y.length=0→(∀(i:Nat) (m:Msg),s.messages[i]?=some m→GdM0 s m)∧∀(i:Nat) (e:Enm),s.enums[i]?=some e→IJ e) (Tu s):=by
 have h:=FG hs
 have u:=h.ml
 have w:=h.el
 have x:=h.wl
 have t:Bk (s.messages.map AG)+Bk (s.enums.map Bs)+Bk (s.services.map CA)≤1048576:=by
  simp only[An,Ao,bk]at hs
  omega
 have n:Ok (Sum.elim (fun y:List Prb=>y.length≤9) No) (Ak (P4 s) Aj (1,[])):=by
  refine Bf (fun v:Nat×List Prb=>1≤v.1∧v.1≤4∧v.2.length≤2*v.1) (fun v:Nat×List Prb=>4-v.1) ⟨by simp,by simp,by simp⟩ (Bu (by omega)) fun v g=>?_
  obtain⟨v,r⟩:=v
  obtain⟨c,d,f⟩:=g
  dsimp only at c d f
  dsimp only[P4,br,vz,wg,vs,ln,Ah,lc,cl,wa,fl,Ag,br]
  (repeat' (first|with_reducible (first|refine Az (fun _=>?_) fun _=>?_|refine Ay ?_)|(with_reducible apply Aw;(exact W0 _ _ h);intro _ _)|(with_reducible apply Aw;(exact Dk _ _ _ _ _ (by omega));intro _ _)|(with_reducible apply Aw;(exact wK _ (by assumption));intro _ _)|with_reducible refine AB ?_ ?_))<;>exact AK
 have o:∀(a:List Prb) (l:List Bool),a.length≤10→l.length=s.messages.length→Ok (Sum.elim (fun y:List Prb=>y.length≤20971540∧(y.length=0→∀(i:Nat) (m:Msg),s.messages[i]?=some m→GdM0 s m)) No) (Ak (P8 s l) Aj (0,a)):=by
  intro a l b hl
  refine Bf (fun v:Nat×List Prb=>v.1≤s.messages.length∧v.2.length≤10+20*Bk ((s.messages.take v.1).map AG)∧(v.2.length=0→∀(i:Nat) (m:Msg),i<v.1→s.messages[i]?=some m→GdM0 s m)) (fun v:Nat×List Prb=>s.messages.length-v.1) ⟨by simp,Do b (Nc _ _),fun _ i m hi=>by simp at hi⟩ (Bu (by omega)) fun v g=>?_
  obtain⟨v,r⟩:=v
  obtain⟨c,d,f⟩:=g
  dsimp only at c d f
  have a1:=Ja AG s.messages v
  have j:=Ja AG s.messages (v+1)
  dsimp only[P8,Wd,WA,br,ix,vz,wg,vs,ln,Ah,lc,aq,cl,wa,tw,fl,Ag,br]
  (repeat' (first|with_reducible (first|refine Az (fun _=>?_) fun _=>?_|refine Ay ?_|refine Bq ?_ fun _ _ _=>?_)|(with_reducible apply Aw;(exact wL _ _ _ h (h.m _ (by assumption)) hl);intro _ _)|with_reducible refine AB ?_ ?_))<;>first|(have a3:=UC AG ‹s.messages[v]?=some _›;exact AK)|exact AK
 have p:∀a:List Prb,a.length≤20971540→Ok (Sum.elim (fun y:List Prb=>a.length≤y.length∧y.length≤41943080∧(y.length=0→∀(i:Nat) (e:Enm),s.enums[i]?=some e→IJ e)) No) (Ak (Qf s) Aj (0,a)):=by
  intro a b
  refine Bf (fun v:Nat×List Prb=>v.1≤s.enums.length∧v.2.length≤20971540+20*Bk ((s.enums.take v.1).map Bs)∧a.length≤v.2.length∧(v.2.length=0→∀(i:Nat) (e:Enm),i<v.1→s.enums[i]?=some e→IJ e)) (fun v:Nat×List Prb=>s.enums.length-v.1) ⟨by simp,Do b (Nc _ _),by simp,fun _ i e hi=>by simp at hi⟩ (Bu (by omega)) fun v g=>?_
  obtain⟨v,r⟩:=v
  obtain⟨c,d,f,k⟩:=g
  dsimp only at c d f k
  have a1:=Ja Bs s.enums v
  have j:=Ja Bs s.enums (v+1)
  dsimp only[Qf,V2,VT,br,ix,vz,wg,vs,ln,Ah,lc,aq,cl,wa,tw,fl,Ag,br]
  (repeat' (first|with_reducible (first|refine Az (fun _=>?_) fun _=>?_|refine Ay ?_|refine Bq ?_ fun _ _ _=>?_)|(with_reducible apply Aw;(exact wM _ (h.e _ (by assumption)));intro _ _)|with_reducible refine AB ?_ ?_))<;>first|(have a3:=UC Bs ‹s.enums[v]?=some _›;exact AK)|exact AK
 have q:∀a:List Prb,a.length≤41943080→Ok (Sum.elim (fun y:List Prb=>a.length≤y.length) No) (Ak (Qk s) Aj (0,a)):=by
  intro a b
  refine Bf (fun v:Nat×List Prb=>v.1≤s.services.length∧v.2.length≤41943080+20*Bk ((s.services.take v.1).map CA)∧a.length≤v.2.length) (fun v:Nat×List Prb=>s.services.length-v.1) ⟨by simp,Do b (Nc _ _),by simp⟩ (Bu (by omega)) fun v g=>?_
  obtain⟨v,r⟩:=v
  obtain⟨c,d,f⟩:=g
  dsimp only at c d f
  have a1:=Ja CA s.services v
  have j:=Ja CA s.services (v+1)
  dsimp only[Qk,VS,V4,br,ix,vz,wg,vs,ln,Ah,lc,aq,cl,wa,tw,fl,Ag,br]
  (repeat' (first|with_reducible (first|refine Az (fun _=>?_) fun _=>?_|refine Ay ?_|refine Bq ?_ fun _ _ _=>?_)|(with_reducible apply Aw;(exact wN _ _ h (h.w _ (by assumption)));intro _ _)|with_reducible refine AB ?_ ?_))<;>first|(have a3:=UC CA ‹s.services[v]?=some _›;exact AK)|exact AK
 dsimp only[Tu,vz,vw,wg,lr,lc,cl,AA,fl,fr]
 (repeat' (first|with_reducible (first|refine Az (fun _=>?_) fun _=>?_|refine Ay ?_)|(with_reducible apply Bj;(exact n);all_goals(intro _ _;try dsimp only))|(with_reducible apply Bj;(exact o _ _ (by omega) (by assumption));all_goals(intro _ _;try dsimp only))|(with_reducible apply Bj;(exact p _ (by omega));all_goals(intro _ _;try dsimp only))|(with_reducible apply Bj;(exact q _ (by omega));all_goals(intro _ _;try dsimp only))|(with_reducible apply Aw;(exact W0 _ _ h);intro _ _)|(with_reducible apply Aw;(exact kz _ _ (by assumption) (by assumption));intro _ _)|(with_reducible apply Aw;(exact kA _ h);intro _ _)|(with_reducible apply Aw;(exact Dk _ _ _ _ _ (by omega));intro _ _)|(with_reducible apply A6;(exact fun _=>W0 _ _ h);intro _)|(with_reducible apply A6;(exact fun _=>kz _ _ (by assumption) (by assumption));intro _)|(with_reducible apply A6;(exact fun _=>kA _ h);intro _)|(with_reducible apply A6;(exact fun _=>Dk _ _ _ _ _ (by omega));intro _)|with_reducible refine AB ?_ ?_))<;>exact AK
theorem wI{s:Scm}(hs:Ao (An s)≤1048576):Ok (fun b=>b=true→∀(i:Nat) (m:Msg),s.messages[i]?=some m→GdM s m) (Of s):=by
 have k:Ok (fun b=>b=true→(∀(i:Nat) (m:Msg),s.messages[i]?=some m→GdM0 s m)∧∀(i:Nat) (e:Enm),s.enums[i]?=some e→IJ e) (Of s):=by
  dsimp only[Of,vz,wg,lr,cl,Ag]
  (repeat' (first|with_reducible (first|refine Az (fun _=>?_) fun _=>?_|refine Ay ?_)|(with_reducible apply Aw;(exact wJ hs);intro _ _)|with_reducible refine AB ?_ ?_))<;>exact AK
 exact k.mono fun b h a i m hm=>⟨((h a).1 i m hm).asc,((h a).1 i m hm).df,(h a).2⟩
abbrev Bt(v:Val):Prop:=Ao (Ai v)≤1048576
theorem Wn{v x:Val}(h:Bt v)(b:x∈v.list):Bt x:=by
 have a:=CH (e:=AC) b
 rw[FW]at a
 unfold Bt at*
 conv at h=>unfold Ai
 simp only[Ao,bk]at h
 omega
theorem Ws{v:Val}{x:Pr}(h:Bt v)(b:x∈v.pairs):Bt x.key∧Bt x.val:=by
 have a:=CH (e:=Av) b
 have e:Av x=Ai x.key++Ai x.val:=by rw[Jl];rfl
 rw[e,Lw]at a
 unfold Bt at*
 conv at h=>unfold Ai
 simp only[Ao,bk]at h
 omega
theorem WI{v:Val}{x:Slt}(h:Bt v)(b:x∈v.slots):Bt x.val:=by
 have a:=CH (e:=Aq) b
 have e:Aq x=D.int .i64 x.num::Ai x.val:=by rw[Je];rfl
 rw[e,Ao]at a
 unfold Bt at*
 conv at h=>unfold Ai
 simp only[Ao,bk]at h
 omega
theorem U8{α:Type}(p:α→Bool):∀l:List α,l.find? p=(l.findIdx? p).bind fun i=>l[i]?
 |[]=>rfl
 |x::l=>by
  rw[List.find?_cons,List.findIdx?_cons]
  cases h:p x with
  |true=>simp
  |false=>
   rw[U8 p l]
   cases List.findIdx? p l<;>simp
def Cv{α:Type}[Inhabited α](l:List α)(z:α)(p:α→Bool):α×Bool:=(l.find? p).elim (z,false) fun x=>(x,true)
theorem LA{α:Type}[Inhabited α](l:List α)(z:α)(p:α→Bool):Cv l z p=match l.findIdx? p with|some i=>(l.getD i default,true)|none=>(z,false):=by
 unfold Cv
 rw[U8]
 cases h:l.findIdx? p with
 |none=>rfl
 |some i=>
  have:=(Ri.1 h).1
  simp[this]
def zM:Msg:=.mk ⟨#[]⟩ [] [] [] []
def zF:Fld:=.mk 0 ⟨#[]⟩ 0 0 (.mk 0 ⟨#[]⟩) ⟨#[]⟩ false (.mk 0 0 ⟨#[]⟩ [] [] [] []) []
theorem wB(s:Scm)(n:ByteArray)(h:s.messages.length≤1048576):Oc s n=some (Cv s.messages zM fun m=>decide (m.name=n)):=by
 have d:=E2 (B:=L1 s n) (N:=Aj) s.messages (fun m=>decide (m.name=n)) (fun i=>(s.messages.getD i default,true)) () (fun i x a=>by
  have b:=Ci a
  have e:=(Ye.1 a).1
  have c:i+1<9223372036854775808:=by omega
  dsimp only[L1,br,ix,vz,wg,vs,Ap,ln,Ah,wa,Ag,br]
  simp only[b,c,a,YB,YK,Yh,Yw,YR]
  cases decide (x.name=n)<;>simp) (by simp[L1,br,ix,vz,wg,vs,Ap,ln,Ah,wa,Ag,br]) (BO (by omega))
 dsimp only[Oc,wg,lr,lc]
 rw[d,LA]
 cases s.messages.findIdx? fun m=>decide (m.name=n)<;>rfl
theorem wE(l:List Msg)(n:ByteArray)(h:l.length≤1048576):Ob l (fun z=>IY z n)=some (Cv l zM fun m=>decide (m.name=n)):=by
 have d:=E2 (B:=L3 l fun z=>IY z n) (N:=Aj) l (fun m=>decide (m.name=n)) (fun i=>(l.getD i default,true)) () (fun i x a=>by
  have b:=Ci a
  have f:=(Ye.1 a).1
  have c:i+1<9223372036854775808:=by omega
  have e:IY x n=some (decide (x.name=n)):=rfl
  dsimp only[L3,br,ix,wg,vs,Ap,ln,Ah,cf,wa,br]
  simp only[b,c,a,e,YB,YK,Yh,Yw,YR]
  cases decide (x.name=n)<;>simp) (by simp[L3,br,ix,wg,vs,Ap,ln,Ah,cf,wa,br]) (BO (by omega))
 dsimp only[Ob,vz,wg,lr,lc,Ag]
 rw[d,LA]
 cases l.findIdx? fun m=>decide (m.name=n)<;>rfl
theorem Vk{s:Scm}(h:SzS s)(n:ByteArray):(Cv s.messages zM fun m=>decide (m.name=n)).1.fields.length≤1048576:=by
 unfold Cv
 cases e:s.messages.find? fun m=>decide (m.name=n)with
 |none=>simp[zM]
 |some m=>exact(h.m _ (KV e)).fl
theorem l2{v x:Val}(b:x∈v.list):Ao (Ai x)<Ao (Ai v):=by
 have a:=CH (e:=AC) b
 rw[FW]at a
 conv=>rhs;unfold Ai
 simp only[Ao,bk]
 omega
theorem lb{v:Val}{x:Pr}(c:x∈v.pairs):Ao (Ai x.key)<Ao (Ai v)∧Ao (Ai x.val)<Ao (Ai v):=by
 have b:=CH (e:=Av) c
 have e:Av x=Ai x.key++Ai x.val:=by rw[Jl];rfl
 rw[e,Lw]at b
 have a:Ao (Ai v)=Ao [.int .i64 v.kind,.int .u64 v.bits,.str v.text,.list (v.list.map AC),.list (v.pairs.map Av),.list (v.slots.map Aq),.list (v.raws.map A3)]:=rfl
 rw[a]
 simp only[Ao,bk]
 omega
theorem li{v:Val}{x:Slt}(c:x∈v.slots):Ao (Ai x.val)<Ao (Ai v):=by
 have a:=CH (e:=Aq) c
 have e:Aq x=D.int .i64 x.num::Ai x.val:=by rw[Je];rfl
 rw[e,Ao]at a
 have b:Ao (Ai v)=Ao [.int .i64 v.kind,.int .u64 v.bits,.str v.text,.list (v.list.map AC),.list (v.pairs.map Av),.list (v.slots.map Aq),.list (v.raws.map A3)]:=rfl
 rw[b]
 simp only[Ao,bk]at a⊢
 omega
def BH(F:List Fld)(k:Int):Fld×Bool:=Cv F zF fun f=>decide (f.num=k)
def Bh(F:List Fld)(k:Int):Fld:=(BH F k).1
def FA(s:Scm)(n:ByteArray):List Fld:=(Cv s.messages zM fun m=>decide (m.name=n)).1.fields
theorem kx(s:Scm)(n:ByteArray)(h:s.messages.length≤1048576):Li s n=some (Cv s.messages zM fun m=>decide (m.name=n)):=by
 dsimp only[Li,wg,lr,cs]
 rw[wE _ _ h]
 rfl
theorem wH(l:List Fld)(k:Int)(h:l.length≤1048576):Oh l (fun z=>I3 z k)=some (BH l k):=by
 have d:=E2 (B:=Ma l fun z=>I3 z k) (N:=Aj) l (fun f=>decide (f.num=k)) (fun i=>(l.getD i default,true)) () (fun i x a=>by
  have b:=Ci a
  have g:=(Ye.1 a).1
  have c:i+1<9223372036854775808:=by omega
  have e:I3 x k=some (decide (x.num=k)):=rfl
  dsimp only[Ma,br,ix,wg,vs,Ap,ln,Ah,cf,wa,br]
  simp only[b,c,a,e,YB,YK,Yh,Yw,YR]
  cases decide (x.num=k)<;>simp) (by simp[Ma,br,ix,wg,vs,Ap,ln,Ah,cf,wa,br]) (BO (by omega))
 dsimp only[Oh,vz,wg,lr,lc,Ag]
 unfold BH
 rw[d,LA]
 cases l.findIdx? fun m=>decide (m.num=k)<;>rfl
theorem kw(m:Msg)(k:Int)(h:m.fields.length≤1048576):Uk m k=some (BH m.fields k):=by
 dsimp only[Uk,wg,lr,cs]
 rw[wH _ _ h]
 rfl
theorem wF(m:Msg)(k:Int)(h:m.fields.length≤1048576):TA m k=some (BH m.fields k):=by
 have d:=E2 (B:=L0 m k) (N:=Aj) m.fields (fun f=>decide (f.num=k)) (fun i=>(m.fields.getD i default,true)) () (fun i x a=>by
  have b:=Ci a
  have e:=(Ye.1 a).1
  have c:i+1<9223372036854775808:=by omega
  dsimp only[L0,br,ix,vz,wg,vs,Ap,ln,Ah,wa,Ag,br]
  simp only[b,c,a,YB,YK,Yh,Yw,YR]
  cases decide (x.num=k)<;>simp) (by simp[L0,br,ix,vz,wg,vs,Ap,ln,Ah,wa,Ag,br]) (BO (by omega))
 dsimp only[TA,wg,lr,lc]
 unfold BH
 rw[d,LA]
 cases m.fields.findIdx? fun f=>decide (f.num=k)<;>rfl
def FF{α:Type}(l:List α)(p:α→Bool):Int:=match l.findIdx? p with
 |some i=>(i:Int)
 |none=>-1
theorem s4{α:Type}(l:List α)(p:α→Bool):decide (0≤FF l p)=l.any p:=by
 unfold FF
 rw[←M2]
 cases l.findIdx? p with
 |none=>rfl
 |some i=>simp
theorem wG(l:List Slt)(f:Slt→Option Bool)(p:Slt→Bool)(e:∀x∈l,f x=some (p x))(h:l.length<4611686018427387904):Oz l f=some (FF l p):=by
 have g:=E2 (B:=LG l f) (N:=Aj) l p (fun i=>(i:Int)) () (fun i x a=>by
  have b:=Ci a
  have j:=(Ye.1 a).1
  have c:i+1<9223372036854775808:=by omega
  have d:=e x (Yo a)
  dsimp only[LG,br,ix,vs,Ap,ln,Ah,cf,wa,br]
  simp only[b,c,d,a,YB,YK,Yh]
  cases p x<;>simp) (by simp[LG,br,ix,vs,Ap,ln,Ah,cf,wa,br]) (BO h)
 dsimp only[Oz,vz,lr,lc,Ag]
 rw[g]
 unfold FF
 cases l.findIdx? p<;>rfl
def CW(l:List Slt)(k:Int):Bool:=l.any fun x=>decide (x.num=k)
theorem mw{v:Val}{x:Raw}(h:Bt v)(b:x∈v.raws):x.data.size≤1048576:=by
 have a:=CH (e:=A3) b
 unfold Bt at h
 conv at h=>unfold Ai
 simp only[Ao,bk,A3]at h a
 omega
theorem eC{F:List Fld}{k:Int}(h:(BH F k).2=true):(Bh F k).num=k:=by
 unfold Bh BH Cv at*
 cases e:F.find? fun f=>decide (f.num=k)with
 |none=>rw[e]at h;cases h
 |some f=>exact Y4 (p:=f.num=k) (List.find?_some (p:=fun f:Fld=>decide (f.num=k)) e)
def BC{α:Type}(f:Nat→α→Int):List α→Nat→Int
 |[],_=>0
 |x::l,i=>if f i x=0 then BC f l (i+1)else f i x
theorem Jh{α:Type}(f:Nat→α→Int):∀(l:List α) (i:Nat),BC f l i=0↔∀(j:Nat) (x:α),l[j]?=some x→f (i+j) x=0
 |[],i=>by simp[BC]
 |x::l,i=>by
  unfold BC
  have a:=Jh f l (i+1)
  by_cases h:f i x=0
  ·rw[Yj h,a]
   constructor
   ·intro k j y hy
    cases j with
    |zero=>cases hy;exact h
    |succ j=>have:=k j y hy;rw[show i+(j+1)=i+1+j by omega];exact this
   ·intro k j y hy
    have:=k (j+1) y hy
    rw[show i+(j+1)=i+1+j by omega]at this
    exact this
  ·rw[Yi h]
   exact⟨fun e=>absurd e h,fun k=>k 0 x rfl⟩
theorem Lu{α ξ ρ:Type}{B:Nat→Option (Lv Nat ξ ρ)}{N:Nat}(l:List α)(f:Nat→α→Int)(r:Int→ρ)(e:ξ)
  (hs:∀(i:Nat) (x:α),l[i]?=some x→(∀(j:Nat) (y:α),j<i→l[j]?=some y→f j y=0)→B i=some (if f i x=0 then .nx (i+1)else .rt (r (f i x))))
  (he:B l.length=some (.ex e)) (hN:l.length<N):Ak B N 0=some (if BC f l 0=0 then .inl e else .inr (r (BC f l 0))):=by
 suffices H:∀k i N,i+k=l.length→(∀(j:Nat) (y:α),j<i→l[j]?=some y→f j y=0)→k<N→Ak B N i=some (if BC f (l.drop i) i=0 then .inl e else .inr (r (BC f (l.drop i) i)))by
  have:=H l.length 0 N (by omega) (fun j y c=>absurd c (by omega)) hN
  rwa [GF]at this
 intro k
 induction k with
 |zero=>
  intro i N hi _ hN
  obtain⟨N,rfl⟩:∃m,N=m+1:=⟨N-1,by omega⟩
  have:i=l.length:=by omega
  subst this
  rw[Ak,he,Rs]
  rfl
 |succ k d=>
  intro i N hi b hN
  obtain⟨N,rfl⟩:∃m,N=m+1:=⟨N-1,by omega⟩
  have a:i<l.length:=by omega
  rw[Ak,hs i l[i] (Yc a) b,HK a,BC]
  by_cases h:f i l[i]=0
  ·rw[Yj h,Yj h]
   refine d (i+1) N (by omega) (fun j y c hy=>?_) (by omega)
   by_cases e:j=i
   ·subst e
    rw[Yc a]at hy
    cases hy
    exact h
   ·exact b j y (by omega) hy
  ·rw[Yi h,Yi h,Yi h]
def Bp(v:Val):Bool:=decide ((v.kind≠11∧0<v.list.length)∨(v.kind≠12∧0<v.pairs.length)∨(v.kind≠10∧(0<v.slots.length∨0<v.raws.length))∨(v.text≠⟨#[]⟩∧¬(v.kind=7∨v.kind=8))∨(v.bits≠0∧(v.kind=7∨v.kind=8∨v.kind=10∨v.kind=11∨v.kind=12)))
def CX(x:ByteArray)(p:Nat)(lo hi:Nat):Bool:=decide (p<x.size)&&decide (lo≤(x.get! p).toNat)&&decide ((x.get! p).toNat≤hi)
def Ce(x:ByteArray)(p:Nat):Nat:=
 let b:=(x.get! p).toNat
 if b<0x80 then 1
 else if 0xc2≤b∧b≤0xdf∧CX x (p+1) 0x80 0xbf=true then 2
 else if b=0xe0∧CX x (p+1) 0xa0 0xbf=true∧CX x (p+2) 0x80 0xbf=true then 3
 else if b=0xed∧CX x (p+1) 0x80 0x9f=true∧CX x (p+2) 0x80 0xbf=true then 3
 else if 0xe1≤b∧b≤0xef∧b≠0xed∧CX x (p+1) 0x80 0xbf=true∧CX x (p+2) 0x80 0xbf=true then 3
 else if b=0xf0∧CX x (p+1) 0x90 0xbf=true∧CX x (p+2) 0x80 0xbf=true∧CX x (p+3) 0x80 0xbf=true then 4
 else if 0xf1≤b∧b≤0xf3∧CX x (p+1) 0x80 0xbf=true∧CX x (p+2) 0x80 0xbf=true∧CX x (p+3) 0x80 0xbf=true then 4
 else if b=0xf4∧CX x (p+1) 0x80 0x8f=true∧CX x (p+2) 0x80 0xbf=true∧CX x (p+3) 0x80 0xbf=true then 4
 else 0
def Ek(x:ByteArray):Nat→Nat→Bool
 |0,_=>true
 |n+1,p=>if p<x.size then(if Ce x p=0 then false else Ek x n (p+Ce x p))else true
def Fl(x:ByteArray):Bool:=Ek x (x.size+1) 0
def JW(n b:Int):Bool:=if n=1 then decide (b≤1)else if n=2 then decide (-2147483648≤IntKind.i64.wrap b∧IntKind.i64.wrap b≤2147483647)else if n=4 then decide (b≤4294967295)else if n=9 then decide (b≤2147483647)else true
def Hh(v:Val):Bool:=decide (v.list.length=0∧v.pairs.length=0∧v.slots.length=0∧v.raws.length=0)
def DA(n:Int):Bool:=decide (n=7∨n=8)
def Hf(n:Int)(v:Val):Bool:=decide (1≤n∧n≤9∧v.kind=n)&&Hh v&&(if DA n then decide (v.bits=0∧v.text.size≤4096)&&(decide (n=8)||Fl v.text)else decide (v.text=⟨#[]⟩)&&JW n v.bits)
def CI(n:Int)(v:Val):Int:=if v.kind≠n∨Bp v=true then 12 else if 4096<v.text.size then 3 else if Hf n v=true then 0 else if n=7 then 7 else 12
def zE:Enm:=.mk ⟨#[]⟩ false [] [] []
def Bm(s:Scm)(n:ByteArray):Msg×Bool:=Cv s.messages zM fun m=>decide (m.name=n)
def Cy(s:Scm)(n:ByteArray):Enm×Bool:=Cv s.enums zE fun e=>decide (e.name=n)
def Iw(e:Enm)(b:Int):Bool:=e.items.any fun x=>decide (IntKind.u64.wrap x.num=b)
def Cw(R:Msg→Val→Int)(s:Scm)(t:Typ)(v:Val):Int:=
 if t.kind=10 then(if(Bm s t.name).2=true then R (Bm s t.name).1 v else 10)
 else if t.kind<1∨9<t.kind then 12
 else if CI t.kind v≠0∨t.kind≠9 then CI t.kind v
 else if(Cy s t.name).2=false then 10
 else if(Cy s t.name).1.opn=false∧Iw (Cy s t.name).1 v.bits=false then 16 else 0
def H7(a b:Val):Bool:=decide (a.bits=b.bits)&&decide (a.text=b.text)
def Hi(E:Val→Int)(key:Int)(k:Bool)(l:List Pr)(i:Nat)(p:Pr):Int:=
 if CI key p.key≠0 then CI key p.key else if k=true∧((l.take i).any fun q=>H7 q.key p.key)=true then 9 else E p.val
def CJ(R:Msg→Val→Int)(s:Scm)(k:Bool)(f:Fld)(v:Val):Int:=
 if f.card=4 then(if v.kind≠11∨Bp v=true then 12 else BC (fun _ x=>Cw R s f.type x) v.list 0)
 else if f.card=5 then(if v.kind≠12∨Bp v=true then 12 else BC (Hi (Cw R s f.type) f.key k v.pairs) v.pairs 0)
 else Cw R s f.type v
def G9(F:List Fld)(l:List Slt)(u:ByteArray):Bool:=!decide (u=⟨#[]⟩)&&l.any fun y=>decide ((Bh F y.num).union=u)
def Es(R:Fld→Val→Int)(F:List Fld)(l:List Slt)(i:Nat)(x:Slt):Int:=
 if(BH F x.num).2=false then 8 else if CW (l.take i) x.num=true then 9 else if G9 F (l.take i) (Bh F x.num).union=true then 15 else R (Bh F x.num) x.val
def Gl(l:List Slt)(f:Fld):Int:=if f.card=1∧CW l f.num=false then 14 else 0
def PR(s:Scm)(f:Fld)(x:Raw):Bool:=decide (f.type.kind=9)&&(Cy s f.type.name).2&&!(Cy s f.type.name).1.opn&&!decide (f.card=5)&&decide (x.wire=0)&&decide (x.bits<2147483648)&&!Iw (Cy s f.type.name).1 x.bits
def Ir(s:Scm)(F:List Fld)(x:Raw):Int:=
 if x.num<1∨65535<x.num∨x.wire<0∨6<x.wire∨(x.wire≤2∧x.data≠⟨#[]⟩)∨(2<x.wire∧x.bits≠0)then 1
 else if(BH F x.num).2=true∧PR s (Bh F x.num) x=false then 1
 else if(x.wire=3∧4096<x.data.size)∨65536<x.data.size then 3 else 0
def A0(s:Scm)(k:Bool):Nat→Msg→Val→Int
 |0,_,v=>if v.kind≠10∨Bp v=true then 12 else 17
 |d+1,m,v=>
  if v.kind≠10∨Bp v=true then 12
  else if BC (Es (CJ (A0 s k d) s k) m.fields v.slots) v.slots 0≠0 then BC (Es (CJ (A0 s k d) s k) m.fields v.slots) v.slots 0
  else if BC (fun _ f=>Gl v.slots f) m.fields 0≠0 then BC (fun _ f=>Gl v.slots f) m.fields 0
  else BC (fun _ x=>Ir s m.fields x) v.raws 0
mutual
def cnt:Val→Nat
 |.mk _ _ _ l p s r=>1+r.length+Bg l+Cn p+Cm s
def Bg:List Val→Nat
 |[]=>0
 |v::l=>cnt v+Bg l
def Jw:Pr→Nat
 |.mk k v=>cnt k+cnt v
def Cn:List Pr→Nat
 |[]=>0
 |p::l=>Jw p+Cn l
def JC:Slt→Nat
 |.mk _ v=>cnt v
def Cm:List Slt→Nat
 |[]=>0
 |x::l=>JC x+Cm l
end
def EO(s:Scm)(k:Bool)(n:ByteArray)(v:Val):Int:=
 if(Bm s n).2=false then 10 else if A0 s k 16 (Bm s n).1 v≠0 then A0 s k 16 (Bm s n).1 v else if 4096<cnt v then 3 else 0
theorem wZ(c:Nat):Utf8.valid (c:Int)=decide (c<0xD800∨0xE000≤c∧c≤0x10FFFF):=by
 unfold Utf8.valid
 rw[Rt]
 simp only[Yu,Yb,YO]
 omega
theorem mR(a b c d:Nat)(i j l:Prop)[Decidable i][Decidable j][Decidable l](r:a<256)(s:b<256)(t:c<256)(u:d<256)(z:Nat)
 (g:z=if a<0x80 then 1
 else if 0xc2≤a∧a≤0xdf∧i∧0x80≤b∧b≤0xbf then 2
 else if a=0xe0∧(i∧0xa0≤b∧b≤0xbf)∧(j∧0x80≤c∧c≤0xbf)then 3
 else if a=0xed∧(i∧0x80≤b∧b≤0x9f)∧(j∧0x80≤c∧c≤0xbf)then 3
 else if 0xe1≤a∧a≤0xef∧a≠0xed∧(i∧0x80≤b∧b≤0xbf)∧(j∧0x80≤c∧c≤0xbf)then 3
 else if a=0xf0∧(i∧0x90≤b∧b≤0xbf)∧(j∧0x80≤c∧c≤0xbf)∧(l∧0x80≤d∧d≤0xbf)then 4
 else if 0xf1≤a∧a≤0xf3∧(i∧0x80≤b∧b≤0xbf)∧(j∧0x80≤c∧c≤0xbf)∧(l∧0x80≤d∧d≤0xbf)then 4
 else if a=0xf4∧(i∧0x80≤b∧b≤0x8f)∧(j∧0x80≤c∧c≤0xbf)∧(l∧0x80≤d∧d≤0xbf)then 4
 else 0) (D:Nat×Nat) (f:D=if a<0x80 then(a,1)
 else if a/32=6∧i∧b/64=2 then
  if(a%32)*64+b%64≥0x80 then((a%32)*64+b%64,2)else(65533,1)
 else if a/16=14∧(i∧b/64=2)∧(j∧c/64=2)then
  if(a%16)*4096+(b%64)*64+c%64≥0x800∧((a%16)*4096+(b%64)*64+c%64<0xD800∨0xE000≤(a%16)*4096+(b%64)*64+c%64∧(a%16)*4096+(b%64)*64+c%64≤0x10FFFF)then((a%16)*4096+(b%64)*64+c%64,3)else(65533,1)
 else if a/8=30∧(i∧b/64=2)∧(j∧c/64=2)∧(l∧d/64=2)then
  if(a%8)*262144+(b%64)*4096+(c%64)*64+d%64≥0x10000∧((a%8)*262144+(b%64)*4096+(c%64)*64+d%64<0xD800∨0xE000≤(a%8)*262144+(b%64)*4096+(c%64)*64+d%64∧(a%8)*262144+(b%64)*4096+(c%64)*64+d%64≤0x10FFFF)then((a%8)*262144+(b%64)*4096+(c%64)*64+d%64,4)else(65533,1)
 else(65533,1)):(z=0→D.1=65533∧¬(a=0xef∧(i∧b=0xbf)∧(j∧c=0xbd)))∧(z≠0→D.2=z∧(D.1=65533→a=0xef∧(i∧b=0xbf)∧(j∧c=0xbd))):=by
 by_cases a0:a<128
 ·rw[Yj a0]at g f
  subst g f
  exact⟨fun h=>absurd h (by decide),fun _=>⟨rfl,fun h=>by dsimp only at h;omega⟩⟩
 rw[Yi a0]at g f
 by_cases a1:a/32=6
 ·simp only[show¬a=224 by omega,show¬a=237 by omega,show¬225≤a by omega,show¬a=240 by omega,show¬241≤a by omega,show¬a=244 by omega,show¬a/16=14 by omega,show¬a/8=30 by omega,show¬a=0xef by omega,Dp,YY,FJ,a1,DM,KE,IV]at g f⊢
  by_cases k:i
  ·simp only[k,DM]at g f
   split at g<;>split at f<;>(try split at f)<;>subst g f<;>dsimp only<;>omega
  ·simp only[k,Dp,YY,FJ]at g f
   subst g f
   exact⟨fun _=>rfl,fun h=>absurd rfl h⟩
 by_cases p:a/16=14
 ·simp only[show¬a≤223 by omega,show¬a=240 by omega,show¬241≤a by omega,show¬a=244 by omega,show¬a/8=30 by omega,a1,p,Dp,YY,FJ,DM]at g f⊢
  by_cases k:i<;>by_cases o:j<;>simp only[k,o,DM,Dp,FJ,YY]at g f⊢
  ·by_cases m:a=0xe0
   ·subst m
    simp only[show¬(224=237)by decide,show¬225≤224 by decide,DM,Dp,YY]at g
    split at g<;>split at f<;>(try split at f)<;>subst g f<;>dsimp only<;>omega
   ·by_cases n:a=0xed
    ·subst n
     simp only[show¬(237=224)by decide,ne_eq,KS,DM,Dp,FJ,YY]at g
     split at g<;>split at f<;>(try split at f)<;>subst g f<;>dsimp only<;>omega
    ·simp only[m,n,Dp,YY]at g
     split at g<;>split at f<;>(try split at f)<;>subst g f<;>dsimp only<;>omega
  all_goals(subst g f;exact⟨fun _=>⟨rfl,by simp⟩,fun h=>absurd rfl h⟩)
 ·simp only[show¬(a=0xef)by omega,show¬a=224 by omega,show¬a=237 by omega,a1,p,Dp,YY,KE,IV]at g f⊢
  rw[Yi (by omega:¬(0xc2≤a∧a≤0xdf∧i∧0x80≤b∧b≤0xbf)),Yi (by omega:¬(0xe1≤a∧a≤0xef∧a≠0xed∧(i∧0x80≤b∧b≤0xbf)∧(j∧0x80≤c∧c≤0xbf)))]at g
  by_cases e:i∧j∧l
  ·obtain⟨k,o,q⟩:=e
   simp only[k,o,q,DM]at g f
   by_cases m:a=0xf0
   ·subst m
    simp only[show¬(240=244)by decide,show¬241≤240 by decide,DM,Dp,YY]at g
    split at g<;>split at f<;>(try split at f)<;>subst g f<;>dsimp only<;>omega
   ·by_cases n:a=0xf4
    ·subst n
     simp only[show¬(244=240)by decide,show¬244≤243 by decide,DM,Dp,FJ,YY]at g
     split at g<;>split at f<;>(try split at f)<;>subst g f<;>dsimp only<;>omega
    ·simp only[m,n,Dp,YY]at g
     split at g<;>split at f<;>(try split at f)<;>subst g f<;>dsimp only<;>omega
  ·rw[Yi (fun h=>e ⟨h.2.1.1,h.2.2.1.1,h.2.2.2.1⟩),Yi (fun h=>e ⟨h.2.2.1.1,h.2.2.2.1.1,h.2.2.2.2.1⟩),Yi (fun h=>e ⟨h.2.1.1,h.2.2.1.1,h.2.2.2.1⟩)]at g
   rw[Yi (fun h=>e ⟨h.2.1.1,h.2.2.1.1,h.2.2.2.1⟩)]at f
   subst g f
   exact⟨fun _=>rfl,fun h=>absurd rfl h⟩
theorem g0(x:ByteArray)(p:Nat):(Ce x p=0→(Utf8.decode x p).1=65533∧¬((x.get! p).toNat=0xef∧(p+1<x.size∧(x.get! (p+1)).toNat=0xbf)∧(p+2<x.size∧(x.get! (p+2)).toNat=0xbd)))∧(Ce x p≠0→(Utf8.decode x p).2=Ce x p∧((Utf8.decode x p).1=65533→((x.get! p).toNat=0xef∧(p+1<x.size∧(x.get! (p+1)).toNat=0xbf)∧(p+2<x.size∧(x.get! (p+2)).toNat=0xbd)))):=
 mR (x.get! p).toNat (x.get! (p+1)).toNat (x.get! (p+2)).toNat (x.get! (p+3)).toNat (p+1<x.size) (p+2<x.size) (p+3<x.size) (x.get! p).toNat_lt (x.get! (p+1)).toNat_lt (x.get! (p+2)).toNat_lt (x.get! (p+3)).toNat_lt _ (by
  unfold Ce CX
  simp only[Yb,YO,and_assoc]) _ (by
  unfold Utf8.decode
  simp only[wZ,Ey,Yb,YO,beq_iff_eq,Utf8.runeError,and_assoc])
theorem vt(x:ByteArray)(p:Nat):x.data.toList.getD p 0=x.get! p:=by
 cases x with
 |mk d=>
  show d.toList.getD p 0=d.getD p 0
  rw[Yw,Yr,Yp]
theorem tB(x:ByteArray):∀(k p n m:Nat),x.size-p=k→x.size-p<n→x.size-p<m→Ek x n p=Ek x m p:=by
 intro k
 induction k using Nat.strongRecOn with
 |_ k c=>
  intro p n m d e hm
  obtain⟨n,rfl⟩:∃j,n=j+1:=⟨n-1,by omega⟩
  obtain⟨m,rfl⟩:∃j,m=j+1:=⟨m-1,by omega⟩
  unfold Ek
  by_cases a:p<x.size
  ·rw[Yj a,Yj a]
   by_cases b:Ce x p=0
   ·rw[Yj b,Yj b]
   ·rw[Yi b,Yi b]
    exact c (x.size-(p+Ce x p)) (by omega) _ _ _ rfl (by omega) (by omega)
  ·rw[Yi a,Yi a]
def Ha(x:ByteArray)(p:Nat):Bool:=Ek x (x.size+1-p) p
theorem si{x:ByteArray}{p:Nat}(h:x.size≤p):Ha x p=true:=by
 unfold Ha
 cases x.size+1-p with
 |zero=>rfl
 |succ n=>unfold Ek;rw[Yi (by omega)]
theorem qn{x:ByteArray}{p:Nat}(h:p<x.size):Ha x p=if Ce x p=0 then false else Ha x (p+Ce x p):=by
 unfold Ha
 obtain⟨n,e⟩:∃n,x.size+1-p=n+1:=⟨x.size-p,by omega⟩
 rw[e]
 conv=>lhs;unfold Ek
 rw[Yj h]
 by_cases a:Ce x p=0
 ·rw[Yj a,Yj a]
 ·rw[Yi a,Yi a]
  by_cases b:p+Ce x p<x.size
  ·exact tB x _ _ _ _ rfl (by omega) (by omega)
  ·have c:Ek x n (p+Ce x p)=true:=by
    cases n with
    |zero=>rfl
    |succ n=>unfold Ek;rw[Yi b]
   have d:Ek x (x.size+1-(p+Ce x p)) (p+Ce x p)=true:=by
    cases x.size+1-(p+Ce x p)with
    |zero=>rfl
    |succ n=>unfold Ek;rw[Yi b]
   rw[c,d]
theorem kW(x:ByteArray):Fl x=Ha x 0:=rfl
theorem mu{α:Type}(m:List α)(a b c:α):m.take 3=[a,b,c]↔m[0]?=some a∧m[1]?=some b∧m[2]?=some c:=by
 match m with
 |[]=>simp
 |[x]=>simp
 |[x,y]=>simp
 |x::y::z::l=>simp
theorem vY{x y:ByteArray}:x=y↔x.data.toList=y.data.toList:=by
 constructor
 ·rintro rfl
  rfl
 ·intro h
  cases x
  cases y
  congr 1
  exact Array.toList_inj.1 h
theorem dc(x:ByteArray)(a b:Nat):(x.extract a b).data.toList=(x.data.toList.take b).drop a:=by
 rw[ByteArray.data_extract,Array.toList_extract,List.extract_eq_take_drop,List.drop_take]
theorem V9(x:ByteArray)(p:Nat)(c:UInt8):x.data.toList[p]?=some c↔p<x.size∧(x.get! p).toNat=c.toNat:=by
 rw[←vt,Yw]
 have hs:x.size=x.data.toList.length:=Y6.symm
 rw[hs]
 constructor
 ·intro h
  rw[h]
  exact⟨(Ye.1 h).1,rfl⟩
 ·rintro⟨b,a⟩
  rw[Yc b]at a⊢
  rw[YR]at a
  rw[UInt8.toNat_inj.1 a]
theorem ma(x:ByteArray)(p:Nat)(f:p<x.size)(h:x.size≤1048576):TU (x.extract p x.size) ⟨#[239,191,189]⟩=some (decide ((x.get! p).toNat=0xef∧(p+1<x.size∧(x.get! (p+1)).toNat=0xbf)∧(p+2<x.size∧(x.get! (p+2)).toNat=0xbd))):=by
 have g:(x.extract p x.size).size=x.size-p:=by rw[XV];omega
 have hl:(x.extract p x.size).data.toList=x.data.toList.drop p:=by
  have e:x.data.toList.take x.size=x.data.toList:=M6 (Nat.le_of_eq Y6)
  rw[dc,e]
 have key:(x.extract p x.size).extract 0 3=⟨#[239,191,189]⟩↔((x.get! p).toNat=0xef∧(p+1<x.size∧(x.get! (p+1)).toNat=0xbf)∧(p+2<x.size∧(x.get! (p+2)).toNat=0xbd)):=by
  rw[vY,dc,hl,GF]
  show(x.data.toList.drop p).take 3=[239,191,189]↔_
  rw[mu,YM,YM,YM,V9,V9,V9]
  exact⟨fun h=>⟨h.1.2,h.2⟩,fun h=>⟨⟨f,h.1⟩,h.2⟩⟩
 have b:(⟨#[239,191,189]⟩:ByteArray).size=3:=rfl
 generalize x.extract p x.size=y at g key
 dsimp only[TU,lr,cl,bM,vz,vy,lr,A1]
 rw[b]
 have w:y.size<4611686018427387904:=by omega
 by_cases c:3≤y.size
 ·have a:((3:Nat):Int)≤y.size:=by omega
  simp only[w,YK,a,YB,K1,Bd.c,Bd.vl,Dn,Yh,show(3:Nat)<4611686018427387904 by decide,DP,DM,c,EY,FK]
  congr 1
  exact decide_eq_decide.2 key
 ·have a:¬((3:Nat):Int)≤y.size:=by omega
  simp only[w,YK,a,YZ,Yx,Rk,E0,Yh,show(3:Nat)<4611686018427387904 by decide,FK]
  congr 1
  symm
  rw[YI]
  intro d
  have:=d.2.2.1
  omega
theorem tP(x:ByteArray)(p:Nat)(f:p<x.size)(h:x.size≤1048576):Uc x (p:Int) (Hm x p)=some (decide (Ce x p=0)):=by
 obtain⟨d1,d2⟩:=g0 x p
 have i:=ma x p f h
 have c:Hm x p=((Utf8.decode x p).1:Nat):=rfl
 dsimp only[Uc,lr,AA]
 by_cases e:Hm x p=65533
 ·have g:(0:Int)≤p∧(p:Int)≤x.size:=by omega
  have b:p≤x.size:=by omega
  simp only[e,YB,Dn,K1,Bd.c,Bd.vl,HG,i,HP,YR,YK,g,b,DM,EY,Yg]
  congr 1
  rw[←decide_not]
  refine decide_eq_decide.2 ⟨fun d=>?_,fun a=>(d1 a).2⟩
  rcases M4 (Ce x p)with a|a
  ·exact a
  ·exact absurd ((d2 (by omega)).2 (by rw[c]at e;omega)) d
 ·have a:¬Ce x p=0:=fun a=>e (by rw[c,(d1 a).1];rfl)
  simp only[e,YZ,E0,Yx,Rk,YK,a]
theorem et(x:ByteArray)(h:x.size≤1048576):Ub x=some (Fl x):=by
 have q:Ok (Sum.elim (fun _=>Fl x=true) (fun r:Int=>0≤r∧Fl x=false)) (Ak (Ph x) Aj 0):=by
  refine Bf (fun v:Nat=>Fl x=Ha x v) (fun v:Nat=>x.size-v) (kW x) (BO (by omega)) fun v f=>?_
  dsimp only[Ph,br,wg,Ap,ln,Ah,cl,br]
  by_cases d:v<x.size
  ·have b:=qn d
   simp only[d,YB,YK,tP x v d h,Yh]
   by_cases c:Ce x v=0
   ·rw[Yj c]at b
    simp only[c,YB,YK]
    exact⟨_,rfl,by omega,by rw[f,b]⟩
   ·rw[Yi c]at b
    have i:DI x v=Ce x v:=((g0 x v).2 c).1
    simp only[c,YZ,Yx,YY]
    refine⟨_,rfl,?_,?_⟩
    ·show Fl x=Ha x (v+DI x v)
     rw[f,b,i]
    ·show x.size-(v+DI x v)<x.size-v
     omega
  ·simp only[d,YZ,Yx,YY]
   exact⟨_,rfl,by rw[f,si (by omega)]⟩
 obtain⟨y,e,a⟩:=q
 dsimp only[Ub,lr,cl,dg,lr,lc]
 rw[e]
 cases y with
 |inl y=>
  have a:Fl x=true:=a
  rw[a]
  rfl
 |inr r=>
  obtain⟨a1,g⟩:=a
  rw[g]
  simp only[Yh,Sum.elim_inr]
  rw[show decide (r<0)=false by simpa using a1]
end Go.Proofs.YtopncadjpnkjhaaGreatDoor
