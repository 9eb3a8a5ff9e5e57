import Derived.Test.YtalafnjhcecdpaaGreatDoorZa21
import Derived.Test.YtalafnjhcecdpaaGreatDoorZa00
namespace Go.Proofs.YtalafnjhcecdpaaGreatDoor
set_option linter.all false
open Go Go.Eng
theorem Lz:∀a b:List (List D),AR (a++b)=AR a+AR b
 |[],b=>by rw[He,AR,YX]
 |x::a,b=>by rw[H5,AR,AR,Lz a b];omega
theorem Uk{α:Type}(e:α->List D){l:List α}{i:Nat}{x:α}(h:l[i]?=some x):AR ((l.take (i+1)).map e)=AR ((l.take i).map e)+Ap (e x)+1:=by obtain⟨a,rfl⟩:=Yc.1 h;rw[H6 a,D1,Lz];simp only[YZ,E6,AR];omega
theorem Ns{α:Type}(e:α->List D)(l:List α)(i:Nat):AR ((l.take i).map e)<=AR (l.map e):=by
 conv=>rhs;rw[<-H9 i l,D1,Lz]
 omega
structure SzV (v:Val):Prop where
 t:v.text.size<=1048576
 l:v.list.length<=1048576
 p:v.pairs.length<=1048576
 s:v.slots.length<=1048576
 r:v.raws.length<=1048576
structure SzN (x:Nt):Prop where
 n:x.name.size<=1048576
 v:SzV x.val
abbrev IS(l:List Nt):Prop:=l.length<=1048576/\∀x∈l,SzN x
structure SzF (x:Fld):Prop where
 n:x.name.size<=1048576
 t:x.type.name.size<=1048576
 u:x.union.size<=1048576
 d:SzV x.dflt
 o:IS x.notes
structure SzM (x:Msg):Prop where
 n:x.name.size<=1048576
 fl:x.fields.length<=1048576
 f:∀y∈x.fields,SzF y
 r:x.reserved.length<=1048576
 gl:x.gone.length<=1048576
 g:∀y∈x.gone,y.size<=1048576
 o:IS x.notes
structure SzI (x:Itm):Prop where
 n:x.name.size<=1048576
 o:IS x.notes
structure SzE (x:Enm):Prop where
 n:x.name.size<=1048576
 il:x.items.length<=1048576
 i:∀y∈x.items,SzI y
 r:x.reserved.length<=1048576
 o:IS x.notes
structure SzT (x:Mth):Prop where
 n:x.name.size<=1048576
 o:IS x.notes
structure SzW (x:Svc):Prop where
 n:x.name.size<=1048576
 ml:x.methods.length<=1048576
 m:∀y∈x.methods,SzT y
 o:IS x.notes
structure SzS (x:Scm):Prop where
 ml:x.messages.length<=1048576
 m:∀y∈x.messages,SzM y
 el:x.enums.length<=1048576
 e:∀y∈x.enums,SzE y
 wl:x.services.length<=1048576
 w:∀y∈x.services,SzW y
theorem Cm{v:Val}(h:Ap (Ae v)<=1048576):SzV v:=by have a:=CH (e:=AE) v.list;have b:=CH (e:=An) v.pairs;have c:=CH (e:=Ar) v.slots;have d:=CH (e:=Ay) v.raws;simp only[Ae,Ap,bk]at h;constructor<;>omega
theorem Oa{v:Val}(h:Ap (Ae v)<=1048576):0<=v.bits/\v.bits<=18446744073709551615:=by simp only[Ae,Ap,bk]at h;have:=lF (k:=.u64) (n:=v.bits) ae;exact this
theorem szN{x:Nt}(h:Ap (Cd x)<=1048576):SzN x:=by
 have e:Ap (Cd x)=x.name.size+Ap (Ae x.val):=by simp only[Cd,Ae,Ap,bk]
 exact⟨ae,Cm ae⟩
theorem MJ{l:List Nt}(h:AR (l.map Cd)<=1048576):IS l:=⟨by have:=CH (e:=Cd) l;omega,λx hx=>szN (by have:=Da (e:=Cd) hx;omega)⟩
theorem szF{x:Fld}(h:Ap (Au x)<=1048576):SzF x:=by
 have e:x.name.size+x.type.name.size+x.union.size+Ap (Ae x.dflt)+AR (x.notes.map Cd)<=Ap (Au x):=by simp only[Au,Ae,Ap,bk];omega
 exact⟨ae,ae,ae,Cm ae,MJ ae⟩
theorem szM{x:Msg}(h:Ap (AD x)<=1048576):SzM x:=by simp only[AD,Ap,bk]at h;have a:=CH (e:=Au) x.fields;have b:=CH (e:=CK) x.reserved;have c:=CH (e:=A6) x.gone;exact⟨ae,ae,λy hy=>szF (by have:=Da (e:=Au) hy;omega),ae,ae,λy hy=>by have:=Da (e:=A6) hy;simp only[A6,Ap,bk]at this;omega,MJ ae⟩
theorem szI{x:Itm}(h:Ap (CJ x)<=1048576):SzI x:=by simp only[CJ,Ap,bk]at h;exact⟨ae,MJ ae⟩
theorem szE{x:Enm}(h:Ap (BC x)<=1048576):SzE x:=by simp only[BC,Ap,bk]at h;have a:=CH (e:=CJ) x.items;have b:=CH (e:=CK) x.reserved;exact⟨ae,ae,λy hy=>szI (by have:=Da (e:=CJ) hy;omega),ae,MJ ae⟩
theorem szT{x:Mth}(h:Ap (HE x)<=1048576):SzT x:=by simp only[HE,Ap,bk]at h;exact⟨ae,MJ ae⟩
theorem szW{x:Svc}(h:Ap (Dv x)<=1048576):SzW x:=by simp only[Dv,Ap,bk]at h;have a:=CH (e:=HE) x.methods;exact⟨ae,ae,λy hy=>szT (by have:=Da (e:=HE) hy;omega),MJ ae⟩
theorem DX{x:Scm}(h:Ap (Al x)<=1048576):SzS x:=by simp only[Al,Ap,bk]at h;have a:=CH (e:=AD) x.messages;have b:=CH (e:=BC) x.enums;have c:=CH (e:=Dv) x.services;exact⟨ae,λy hy=>szM (by have:=Da (e:=AD) hy;omega),ae,λy hy=>szE (by have:=Da (e:=BC) hy;omega),ae,λy hy=>szW (by have:=Da (e:=Dv) hy;omega)⟩
end Go.Proofs.YtalafnjhcecdpaaGreatDoor
namespace Go.Proofs.YtalafnjhcecdpaaGreatDoor
set_option linter.all false
open Go Go.Eng
theorem eQ(x:ByteArray):x.data.toList.length=x.size:=by rw[Gt];rfl
theorem BZ{n:Nat}(h:n<=2097152):n<Ah:=by unfold Ah;omega
theorem ZQW(x:ByteArray)(h:x.size<=1048576):Ok Tr (TL x):=by
 have q:Ok Ts (Aj (NL x) Ah 0):=by
  refine Bu (λv:Int=>0<=v/\v<=x.size+4) (λv:Int=>(x.size+4-v).toNat) ⟨ae,ae⟩ (BZ ae) λv a=>?_;dsimp only[NL,br,vz,vs,Aq,ln,Af,cl,wi,A1,br]
  (repeat' (first|with_reducible (first|refine AL (λ_=>?_) λ_=>?_|refine AC ?_)|(with_reducible apply AH;(exact ZQM _ _ a.1 Cg h);intro _ _)|with_reducible refine AN ?_ ?_))<;>exact AX
 dsimp only[TL,lr,lc]
 (repeat' (first|with_reducible (first|refine AL (λ_=>?_) λ_=>?_|refine AC ?_)|(with_reducible apply BM;(exact q);all_goals(intro _ _;try dsimp only))|with_reducible refine AN ?_ ?_))<;>exact Cg
theorem g8(x:ByteArray)(h:x.size<=1048576):Ok Tr (M6 x):=by
 dsimp only[M6,lr,cl]
 (repeat' (first|with_reducible (first|refine AL (λ_=>?_) λ_=>?_|refine AC ?_)|(with_reducible apply AH;(exact ZQW _ h);intro _ _)|with_reducible refine AN ?_ ?_))<;>exact Cg
theorem SA(x:ByteArray)(h:x.size<=1048576):Ok Tr (b6 x):=by
 have hl:=eQ x;have q:Ok Ts (Aj (Vi x) Ah 1):=by
  refine Bu (λv:Nat=>v<=1048577) (λv:Nat=>1048577-v) ae (BZ ae) λv a=>?_;dsimp only[Vi,br,vz,vs,Aq,ln,Af,cl,Ax,wa,A1,br,ib,Gk]
  (repeat' (first|with_reducible (first|refine AL (λ_=>?_) λ_=>?_|refine AC ?_|refine BW ?_ λ_ _ _=>?_)|(with_reducible apply AH;(exact TG _);intro _ _)|(with_reducible apply AH;(exact S4 _);intro _ _)|(with_reducible apply Bq;(exact λ_=>TG _);intro _)|(with_reducible apply Bq;(exact λ_=>S4 _);intro _)|with_reducible refine AN ?_ ?_))<;>exact AX
 dsimp only[b6,br,vz,vy,lr,lc,Ax,A1,br,Gk]
 (repeat' (first|with_reducible (first|refine AL (λ_=>?_) λ_=>?_|refine AC ?_)|(with_reducible apply BM;(exact q);all_goals(intro _ _;try dsimp only))|(with_reducible apply AH;(exact TG _);intro _ _)|(with_reducible apply AH;(exact S4 _);intro _ _)|(with_reducible apply Bq;(exact λ_=>TG _);intro _)|(with_reducible apply Bq;(exact λ_=>S4 _);intro _)|with_reducible refine AN ?_ ?_))<;>exact Cg
theorem ZRr(x:ByteArray)(h:x.size<=1048576):Ok Tr (cb x):=by
 have hl:=eQ x;have q:Ok (Sum.elim (λb:ByteArray=>b.size<=1048576) Tr) (Aj (VA x) Ah (⟨#[]⟩,0)):=by
  refine Bu (λv:ByteArray×Nat=>v.1.size<=v.2/\v.2<=x.size) (λv:ByteArray×Nat=>x.size-v.2) ⟨by rw[wG];omega,ae⟩ (BZ ae) λv a=>?_;obtain⟨v,i⟩:=v;obtain⟨a,hi⟩:=a;dsimp only at a hi;dsimp only[VA,br,vz,vs,v2,Aq,ln,Af,ad,cl,wa,ss,A1,br,ib]
  (repeat' (first|with_reducible (first|refine AL (λ_=>?_) λ_=>?_|refine AC ?_|refine BW ?_ λ_ _ _=>?_)|(with_reducible apply AH;(exact SA _ ae);intro _ _)|with_reducible (first|refine mT ?_ ?_|refine AN ?_ ?_)))<;>exact AX
 dsimp only[cb,br,vz,lr,lc,cl,A1,br]
 (repeat' (first|with_reducible (first|refine AL (λ_=>?_) λ_=>?_|refine AC ?_)|(with_reducible apply BM;(exact q);all_goals(intro _ _;try dsimp only))|(with_reducible apply AH;(exact SA _ (by assumption));intro _ _)|with_reducible refine AN ?_ ?_))<;>exact Cg
set_option maxRecDepth 20000 in
theorem ZRg(x:ByteArray)(h:x.size<=1048576):Ok (λy=>y.1.size<=1048576/\y.2.size<=1048576) (cu x):=by
 have hl:=eQ x;have q:Ok (Sum.elim Tr (λy:ByteArray×ByteArray=>y.1.size<=1048576/\y.2.size<=1048576)) (Aj (Vh x) Ah ((x.size:Int)-1)):=by
  refine Bu (λv:Int=>-1<=v/\v<x.size) (λv:Int=>(v+1).toNat) ⟨ae,ae⟩ (BZ ae) λv hv=>?_;dsimp only[Vh,br,vs,Aq,ln,Af,wi,ss,br,RE]
  (repeat' (first|with_reducible (first|refine AL (λ_=>?_) λ_=>?_|refine AC ?_|refine BW ?_ λ_ _ _=>?_|refine mT ?_ ?_|refine AN ?_ ?_)))<;>exact AX
 dsimp only[cu,vz,vs,lr,lc,wi,A1]
 (repeat' (first|with_reducible (first|refine AL (λ_=>?_) λ_=>?_|refine AC ?_)|(with_reducible apply BM;(exact q);all_goals(intro _ _;try dsimp only))|with_reducible refine AN ?_ ?_))<;>exact AX
set_option maxRecDepth 20000 in
theorem g6(x:ByteArray)(h:x.size<=1048576):Ok Tr (ce x):=by
 have q:Ok Ts (Aj VG Ah (x,0)):=by
  refine Bu (λv:ByteArray×Nat=>v.1.size<=1048576/\v.2<=120) (λv:ByteArray×Nat=>120-v.2) ⟨h,ae⟩ (BZ ae) λv hv=>?_;obtain⟨v,i⟩:=v;obtain⟨hv,hi⟩:=hv;dsimp only at hv hi;dsimp only[VG,br,vs,v2,Aq,ln,Af,cl,wa,br]
  (repeat' (first|with_reducible (first|refine AL (λ_=>?_) λ_=>?_|refine AC ?_)|(with_reducible apply AH;(exact ZRg _ hv);intro _ _)|(with_reducible apply AH;(exact aM _);intro _ _)|with_reducible refine AN ?_ ?_))<;>exact AX
 dsimp only[ce,br,lr,lc,cl,br]
 (repeat' (first|with_reducible (first|refine AL (λ_=>?_) λ_=>?_|refine AC ?_)|(with_reducible apply BM;(exact q);all_goals(intro _ _;try dsimp only))|(with_reducible apply AH;(exact ZRr _ h);intro _ _)|with_reducible refine AN ?_ ?_))<;>exact AX
set_option maxRecDepth 20000 in
theorem L9(x:ByteArray)(h:x.size<=1048576):Ok Tr (bG x):=by
 dsimp only[bG,lr,cl,Ax]
 (repeat' (first|with_reducible (first|refine AL (λ_=>?_) λ_=>?_|refine AC ?_)|(with_reducible apply AH;(exact SA _ h);intro _ _)|(with_reducible apply AH;(exact aM _);intro _ _)|(with_reducible apply Bq;(exact λ_=>SA _ h);intro _)|(with_reducible apply Bq;(exact λ_=>aM _);intro _)|with_reducible refine AN ?_ ?_))<;>exact AX
theorem wx(l:List ByteArray)(x:ByteArray)(h:l.length<=1048576):Ok Tr (PO l x):=by
 have q:Ok Ts (Aj (NR l x) Ah 0):=by
  refine Bu (λv:Nat=>v<=l.length) (λv:Nat=>l.length-v) ae (BZ ae) λv a=>?_;dsimp only[NR,br,ix,vz,vs,Aq,ln,Af,wa,Ai,br]
  (repeat' (first|with_reducible (first|refine AL (λ_=>?_) λ_=>?_|refine AC ?_|refine BW ?_ λ_ _ _=>?_|refine AN ?_ ?_)))<;>exact AX
 dsimp only[PO,lr,lc]
 (repeat' (first|with_reducible (first|refine AL (λ_=>?_) λ_=>?_|refine AC ?_)|(with_reducible apply BM;(exact q);all_goals(intro _ _;try dsimp only))|with_reducible refine AN ?_ ?_))<;>exact AX
theorem g7(l:List Spn)(x:Int)(h:l.length<=1048576):Ok Tr (bJ l x):=by
 have q:Ok Ts (Aj (Va l x) Ah 0):=by
  refine Bu (λv:Nat=>v<=l.length) (λv:Nat=>l.length-v) ae (BZ ae) λv a=>?_;dsimp only[Va,br,ix,AW,vz,vs,Aq,ln,Af,wa,Ai,br]
  (repeat' (first|with_reducible (first|refine AL (λ_=>?_) λ_=>?_|refine AC ?_|refine BW ?_ λ_ _ _=>?_|refine GD ?_ λ_=>?_|refine AN ?_ ?_)))<;>exact AX
 dsimp only[bJ,lr,lc]
 (repeat' (first|with_reducible (first|refine AL (λ_=>?_) λ_=>?_|refine AC ?_)|(with_reducible apply BM;(exact q);all_goals(intro _ _;try dsimp only))|with_reducible refine AN ?_ ?_))<;>exact AX
theorem RH(s:Scm)(x:ByteArray)(h:SzS s):Ok (λy:Int=>y<s.messages.length/\(0<=y->∃m∈s.messages,m.name=x)) (bE s x):=by
 have hm:=h.ml;have q:Ok (Sum.elim Tr λy:Int=>y<s.messages.length/\(0<=y->∃m∈s.messages,m.name=x)) (Aj (U8 s x) Ah 0):=by
  refine Bu (λv:Nat=>v<=s.messages.length) (λv:Nat=>s.messages.length-v) ae (BZ ae) λv a=>?_;dsimp only[U8,br,ix,vz,wg,vs,Aq,ln,Af,wa,Ai,br]
  (repeat' (first|with_reducible (first|refine AL (λ_=>?_) λ_=>?_|refine AC ?_|refine BW ?_ λ_ _ _=>?_|refine AN ?_ ?_)))<;>first|exact⟨ae,λ_=>⟨_,by assumption,Y9 (by assumption)⟩⟩|exact AX
 dsimp only[bE,lr,lc]
 (repeat' (first|with_reducible (first|refine AL (λ_=>?_) λ_=>?_|refine AC ?_)|(with_reducible apply BM;(exact q);all_goals(intro _ _;try dsimp only))|with_reducible refine AN ?_ ?_))<;>first|exact⟨ae,λh=>absurd h (by decide)⟩|exact AX
theorem aX(s:Scm)(x:ByteArray)(h:SzS s):Ok (λy:Int=>y<s.enums.length/\(0<=y->∃m∈s.enums,m.name=x)) (bB s x):=by
 have hm:=h.el;have q:Ok (Sum.elim Tr λy:Int=>y<s.enums.length/\(0<=y->∃m∈s.enums,m.name=x)) (Aj (Vj s x) Ah 0):=by
  refine Bu (λv:Nat=>v<=s.enums.length) (λv:Nat=>s.enums.length-v) ae (BZ ae) λv a=>?_;dsimp only[Vj,br,ix,vz,wg,vs,Aq,ln,Af,wa,Ai,br]
  (repeat' (first|with_reducible (first|refine AL (λ_=>?_) λ_=>?_|refine AC ?_|refine BW ?_ λ_ _ _=>?_|refine AN ?_ ?_)))<;>first|exact⟨ae,λ_=>⟨_,by assumption,Y9 (by assumption)⟩⟩|exact AX
 dsimp only[bB,lr,lc]
 (repeat' (first|with_reducible (first|refine AL (λ_=>?_) λ_=>?_|refine AC ?_)|(with_reducible apply BM;(exact q);all_goals(intro _ _;try dsimp only))|with_reducible refine AN ?_ ?_))<;>first|exact⟨ae,λh=>absurd h (by decide)⟩|exact AX
theorem SL(v w:Val)(h:SzV v)(k:SzV w):Ok Tr (bD v w):=by
 obtain⟨_,_,_,_,_⟩:=h;obtain⟨_,_,_,_,_⟩:=k;dsimp only[bD,vy,wg,vg,lr,wa,Ai]
 (repeat' (first|with_reducible (first|refine AL (λ_=>?_) λ_=>?_|refine AC ?_|refine AN ?_ ?_)))<;>exact AX
def iI(v:Val):Prop:=v.list=[]/\v.pairs=[]/\v.slots=[]/\v.raws=[]/\(v.kind=7\/v.kind=8->v.bits=0)/\(¬(v.kind=7\/v.kind=8)->v.text=⟨#[]⟩)
def OH(n:Int)(v:Val):Prop:=1<=n/\n<=9/\v.kind=n/\iI v
theorem ZOq{n:Int}{v:Val}(h:SzV v)(e:JM n v=some true):OH n v:=by
 obtain⟨p,q,r,s,t⟩:=h;have k:v.list.length<4611686018427387904:=ae
 have l:v.pairs.length<4611686018427387904:=ae
 have m:v.slots.length<4611686018427387904:=ae
 have o:v.raws.length<4611686018427387904:=ae
 have hi:Lm n=some (decide (1<=n)&&decide (n<=9)):=rfl;dsimp only[JM,br,vz,vy,wg,lr,cl,Ax,A1,br,PK,vz,vy,wg,lr,Ai,Lj,lr]at e;rw[hi]at e;unfold OH iI;simp only[Ya]at e;generalize M6 v.text=w at e;simp[k,l,m,o]at e;split at e
 ·cases e
 ·rename_i c;simp only[not_or,Decidable.not_not,Classical.not_imp,Int.not_lt]at c;obtain⟨⟨⟨d,f⟩,b⟩,⟨⟨g,i⟩,j⟩,c6⟩:=c;refine⟨d,f,b,g,i,j,c6,λa=>?_,λa=>?_⟩
  ·rw[b]at a;simp only[a,Yp]at e;split at e<;>simp_all
  ·rw[b]at a;simp only[a,YC]at e;split at e<;>simp_all
theorem SY(n:Int)(v:Val)(h:SzV v):Ok (λb=>b=true->OH n v) (JM n v):=by
 have a:=h.t;have q:Ok Tr (JM n v):=by
  have c:Ok Tr (Lm n):=⟨_,rfl,trivial⟩;dsimp only[JM,br,vz,vy,wg,lr,cl,Ax,A1,br]
  (repeat' (first|with_reducible (first|refine AL (λ_=>?_) λ_=>?_|refine AC ?_)|(with_reducible apply AH;(exact c);intro _ _)|(with_reducible apply AH;(exact oQ _);intro _ _)|(with_reducible apply AH;(exact oG _);intro _ _)|(with_reducible apply AH;(exact g8 _ a);intro _ _)|(with_reducible apply Bq;(exact λ_=>c);intro _)|(with_reducible apply Bq;(exact λ_=>oQ _);intro _)|(with_reducible apply Bq;(exact λ_=>oG _);intro _)|(with_reducible apply Bq;(exact λ_=>g8 _ a);intro _)|with_reducible refine AN ?_ ?_))<;>exact AX
 obtain⟨b,e,_⟩:=q;exact⟨b,e,λd=>ZOq h (d▸e)⟩
theorem pW(v:Val)(h:SzV v):Ok SzV (PJ v):=by
 dsimp only[PJ,br,wg,lr,Ax,br]
 (repeat' (first|with_reducible (first|refine AL (λ_=>?_) λ_=>?_|refine AC ?_)|(with_reducible apply AH;(exact ob _);intro _ _)|(with_reducible apply Bq;(exact λ_=>ob _);intro _)|with_reducible refine AN ?_ ?_))<;>first|exact h|exact⟨h.t,h.l,h.p,h.s,h.r⟩
theorem ZQq(x:Nt)(h:SzN x):Ok Tr (cq x):=by
 dsimp only[cq,wg,lr,cl,Ax]
 (repeat' (first|with_reducible (first|refine AL (λ_=>?_) λ_=>?_|refine AC ?_)|(with_reducible apply AH;(exact a2 _);intro _ _)|(with_reducible apply AH;(exact SY _ _ h.v);intro _ _)|(with_reducible apply Bq;(exact λ_=>a2 _);intro _)|(with_reducible apply Bq;(exact λ_=>SY _ _ h.v);intro _)|with_reducible refine AN ?_ ?_))<;>exact AX
theorem ZRA(l:List Nt)(n:Int)(h:IS l):Ok Tr (cB l n):=by
 obtain⟨b,a⟩:=h;have q:Ok Ts (Aj (UX l n) Ah 0):=by
  refine Bu (λv:Nat=>v<=l.length) (λv:Nat=>l.length-v) ae (BZ ae) λv c=>?_;dsimp only[UX,br,ix,AW,vz,vs,vg,Aq,ln,Af,cl,wa,wi,Ai,br]
  (repeat' (first|with_reducible (first|refine AL (λ_=>?_) λ_=>?_|refine AC ?_|refine BW ?_ λ_ _ _=>?_)|(with_reducible apply AH;(exact a2 _);intro _ _)|(with_reducible apply AH;(exact ZQ5 _ _);intro _ _)|(with_reducible apply AH;(exact ZQq _ (a _ (by assumption)));intro _ _)|with_reducible (first|refine GD ?_ λ_=>?_|refine AN ?_ ?_)))<;>exact AX
 dsimp only[cB,br,vz,lr,lc,Ai,br]
 (repeat' (first|with_reducible (first|refine AL (λ_=>?_) λ_=>?_|refine AC ?_)|(with_reducible apply BM;(exact q);all_goals(intro _ _;try dsimp only))|with_reducible refine AN ?_ ?_))<;>exact AX
theorem Ex(d:ByteArray)(l:List Prb)(b:Bool)(n e:Int)(h:l.length<549755813887):Ok (λy=>l.length<=y.length/\y.length<=l.length+1/\(b=true->l.length+1<=y.length)) (Bx d l b n e):=by
 dsimp only[Bx,ZI,Ze,vz,vw,wg,lr,lc,ap,Ca,fl]
 (repeat' (first|with_reducible (first|refine AL (λ_=>?_) λ_=>?_|refine AC ?_|refine AN ?_ ?_)))<;>first|exact AX|simp_all
theorem Kx(d:ByteArray)(l:List Prb)(x:List Nt)(t n:Int)(h:l.length<549755813887)(hx:IS x):Ok (λy=>l.length<=y.length/\y.length<=l.length+1) (Ih d l x t n):=by
 dsimp only[Ih,gb,vz,lr,lc,cl,fl]
 (repeat' (first|with_reducible (first|refine AL (λ_=>?_) λ_=>?_|refine AC ?_)|(with_reducible apply AH;(exact ZRA _ _ hx);intro _ _)|(with_reducible apply AH;(exact Ex _ _ _ _ _ h);intro _ _)|with_reducible refine AN ?_ ?_))<;>exact AX
theorem wC(d:ByteArray)(l:List Prb)(x:List Spn)(t n:Int)(h:l.length<500000000000)(hx:x.length<=1048576):Ok (λy=>l.length<=y.length/\y.length<=l.length+2*x.length) (PF d l x t n):=by
 have q:Ok (Sum.elim (λy:List Prb=>l.length<=y.length/\y.length<=l.length+2*x.length) No) (Aj (U4 d x t n) Ah (0,l)):=by
  refine Bu (λv:Nat×List Prb=>v.1<=x.length/\l.length<=v.2.length/\v.2.length<=l.length+2*v.1) (λv:Nat×List Prb=>x.length-v.1) ⟨ae,by simp,by simp⟩ (BZ ae) λv e=>?_;obtain⟨i,r⟩:=v;obtain⟨a,b,c⟩:=e;dsimp only at a b c;dsimp only[U4,ft,fB,br,ix,AW,vz,vs,vg,ln,Af,lc,wa,wi,fl,Ai,br]
  (repeat' (first|with_reducible (first|refine AL (λ_=>?_) λ_=>?_|refine AC ?_|refine BW ?_ λ_ _ _=>?_)|(with_reducible apply AH;(exact Ex _ _ _ _ _ ae);intro _ _)|with_reducible (first|refine GD ?_ λ_=>?_|refine AN ?_ ?_)))<;>exact AX
 dsimp only[PF,fU,vz,lr,lc,fl]
 (repeat' (first|with_reducible (first|refine AL (λ_=>?_) λ_=>?_|refine AC ?_)|(with_reducible apply BM;(exact q);all_goals(intro _ _;try dsimp only))|with_reducible refine AN ?_ ?_))<;>exact AX
theorem g0(s:Scm)(w:Int)(h:SzS s):Ok (λy=>y.length<=3145728) (cw s w):=by
 have a:=h.ml;have b:=h.el;have j:=h.wl;have e:Ok (Sum.elim (λy:List ByteArray=>y.length<=1048576) No) (Aj (VZ s w) Ah ([],0)):=by
  refine Bu (λv:List ByteArray×Nat=>v.2<=s.messages.length/\v.1.length<=v.2) (λv:List ByteArray×Nat=>s.messages.length-v.2) ⟨ae,by simp⟩ (BZ ae) λv c=>?_;obtain⟨r,i⟩:=v;obtain⟨a,b⟩:=c;dsimp only at a b;dsimp only[VZ,br,ix,vz,vy,vw,wg,vs,v2,ln,Af,ap,wa,fl,Ai,br]
  (repeat' (first|with_reducible (first|refine AL (λ_=>?_) λ_=>?_|refine AC ?_|refine BW ?_ λ_ _ _=>?_|refine AN ?_ ?_)))<;>exact AX
 have f:∀r:List ByteArray,r.length<=1048576->Ok (Sum.elim (λy:List ByteArray=>y.length<=2097152) No) (Aj (Wn s w) Ah (r,0)):=by
  intro r d;refine Bu (λv:List ByteArray×Nat=>v.2<=s.enums.length/\v.1.length<=1048576+v.2) (λv:List ByteArray×Nat=>s.enums.length-v.2) ⟨ae,by simpa using d⟩ (BZ ae) λv c=>?_;obtain⟨r,i⟩:=v;obtain⟨a,b⟩:=c;dsimp only at a b;dsimp only[Wn,br,ix,vz,vy,vw,wg,vs,ln,Af,ap,wa,fl,Ai,br]
  (repeat' (first|with_reducible (first|refine AL (λ_=>?_) λ_=>?_|refine AC ?_|refine BW ?_ λ_ _ _=>?_|refine AN ?_ ?_)))<;>exact AX
 have g:∀r:List ByteArray,r.length<=2097152->Ok (Sum.elim (λy:List ByteArray=>y.length<=3145728) No) (Aj (Wm s w) Ah (r,0)):=by
  intro r d;refine Bu (λv:List ByteArray×Nat=>v.2<=s.services.length/\v.1.length<=2097152+v.2) (λv:List ByteArray×Nat=>s.services.length-v.2) ⟨ae,by simpa using d⟩ (BZ ae) λv c=>?_;obtain⟨r,i⟩:=v;obtain⟨a,b⟩:=c;dsimp only at a b;dsimp only[Wm,br,ix,vz,vy,vw,wg,vs,ln,Af,ap,wa,fl,Ai,br]
  (repeat' (first|with_reducible (first|refine AL (λ_=>?_) λ_=>?_|refine AC ?_|refine BW ?_ λ_ _ _=>?_|refine AN ?_ ?_)))<;>exact AX
 dsimp only[cw,vz,vw,lr,lc,fl,fr]
 (repeat' (first|with_reducible (first|refine AL (λ_=>?_) λ_=>?_|refine AC ?_)|(with_reducible apply BM;(exact e);all_goals(intro _ _;try dsimp only))|(with_reducible apply BM;(exact f _ (by assumption));all_goals(intro _ _;try dsimp only))|(with_reducible apply BM;(exact g _ (by assumption));all_goals(intro _ _;try dsimp only))|with_reducible refine AN ?_ ?_))<;>exact AX
theorem o63(l:List ByteArray)(h:l.length<=3145728):Ok Tr (bH l):=by
 have q:Ok Ts (Aj (WD l) Ah 1):=by
  refine Bu (λv:Nat=>1<=v/\v<=l.length+1) (λv:Nat=>l.length+1-v) ⟨ae,ae⟩ (by unfold Ah;omega) λv a=>?_;dsimp only[WD,br,ix,Di,vz,vs,Aq,ln,Af,wa,wi,Ai,br]
  (repeat' (first|with_reducible (first|refine AL (λ_=>?_) λ_=>?_|refine AC ?_|refine BW ?_ λ_ _ _=>?_|refine AN ?_ ?_)))<;>exact AX
 dsimp only[bH,lr,lc]
 (repeat' (first|with_reducible (first|refine AL (λ_=>?_) λ_=>?_|refine AC ?_)|(with_reducible apply BM;(exact q);all_goals(intro _ _;try dsimp only))|with_reducible refine AN ?_ ?_))<;>exact AX
theorem ZQQ(l:List ByteArray)(x:ByteArray)(h:l.length<=3145728):Ok Tr (PO l x):=by
 have q:Ok Ts (Aj (NR l x) Ah 0):=by
  refine Bu (λv:Nat=>v<=l.length) (λv:Nat=>l.length-v) ae (by unfold Ah;omega) λv a=>?_;dsimp only[NR,br,ix,vz,vs,Aq,ln,Af,wa,Ai,br]
  (repeat' (first|with_reducible (first|refine AL (λ_=>?_) λ_=>?_|refine AC ?_|refine BW ?_ λ_ _ _=>?_|refine AN ?_ ?_)))<;>exact AX
 dsimp only[PO,lr,lc]
 (repeat' (first|with_reducible (first|refine AL (λ_=>?_) λ_=>?_|refine AC ?_)|(with_reducible apply BM;(exact q);all_goals(intro _ _;try dsimp only))|with_reducible refine AN ?_ ?_))<;>exact AX
theorem wv(l k:List ByteArray)(h:l.length<=3145728)(a:k.length<=3145728):Ok Tr (bX l k):=by
 have q:Ok Ts (Aj (Wf l k) Ah 0):=by
  refine Bu (λv:Nat=>v<=l.length) (λv:Nat=>l.length-v) ae (by unfold Ah;omega) λv b=>?_;dsimp only[Wf,br,ix,vz,vs,Aq,ln,Af,cl,wa,Ai,br]
  (repeat' (first|with_reducible (first|refine AL (λ_=>?_) λ_=>?_|refine AC ?_|refine BW ?_ λ_ _ _=>?_)|(with_reducible apply AH;(exact ZQQ _ _ a);intro _ _)|with_reducible refine AN ?_ ?_))<;>exact AX
 dsimp only[bX,lr,lc]
 (repeat' (first|with_reducible (first|refine AL (λ_=>?_) λ_=>?_|refine AC ?_)|(with_reducible apply BM;(exact q);all_goals(intro _ _;try dsimp only))|with_reducible refine AN ?_ ?_))<;>exact AX
def Mi(s:Scm)(f:Fld):Prop:=(f.type.kind=9->∃m∈s.enums,m.name=f.type.name)/\(f.type.kind=10->(∃m∈s.messages,m.name=f.type.name)/\f.card≠3)/\1<=f.type.kind/\f.type.kind<=10
theorem wz(s:Scm)(f:Fld)(h:SzS s):Ok (λb=>b=true->Mi s f) (bM s f):=by
 unfold Mi;dsimp only[bM,br,wg,lr,cl,br]
 (repeat' (first|with_reducible (first|refine AL (λ_=>?_) λ_=>?_|refine AC ?_)|(with_reducible apply AH;(exact aX _ _ h);intro _ _)|(with_reducible apply AH;(exact RH _ _ h);intro _ _)|with_reducible refine AN ?_ ?_))
 ·intro a;have d:f.type.kind=9:=Y9 (by assumption);have e:=(show _<_/\(_->∃m∈s.enums,m.name=f.type.name)by assumption).2 (Y9 a);exact⟨λ_=>e,λk=>ae,ae,ae⟩
 ·intro a;have c:f.type.kind=10:=Y9 (by assumption);rw[Yb]at a;have e:=(show _<_/\(_->∃m∈s.messages,m.name=f.type.name)by assumption).2 (Y9 a.1);exact⟨λk=>ae,λ_=>⟨e,by simpa using a.2⟩,ae,ae⟩
 ·intro a;simp only[Yb,Yr]at a;exact⟨λk=>ae,λk=>ae,ae,ae⟩
def OJ(f:Fld):Prop:=f.union≠⟨#[]⟩->f.card=2
theorem wA(m:Msg)(i:Nat)(h:SzM m)(hi:i<m.fields.length):Ok (λb=>b=true->∀f,m.fields[i]?=some f->OJ f) (bQ m i):=by
 have hl:=h.fl;have q:∀e,Ok (Sum.elim (λb:Bool=>b=true->0<i) Tr) (Aj (Vc m i e) Ah (false,0)):=by
  intro e;refine Bu (λv:Bool×Nat=>v.2<=m.fields.length/\(v.1=true->0<i)) (λv:Bool×Nat=>m.fields.length-v.2) ⟨ae,by simp⟩ (BZ ae) λv k=>?_;obtain⟨b,j⟩:=v;obtain⟨c,d⟩:=k;dsimp only at c d;dsimp only[Vc,br,ix,AW,vz,wg,vs,Aq,ln,Af,wa,Ai,br]
  (repeat' (first|with_reducible (first|refine AL (λ_=>?_) λ_=>?_|refine AC ?_|refine BW ?_ λ_ _ _=>?_|refine GD ?_ λ_=>?_|refine AN ?_ ?_)))<;>exact AX
 dsimp only[bQ,br,Di,AW,wg,vg,lr,lc,Ax,wi,br]
 (repeat' (first|with_reducible (first|refine AL (λ_=>?_) λ_=>?_|refine AC ?_|refine BW ?_ λ_ _ _=>?_)|(with_reducible apply BM;(exact q _);all_goals(intro _ _;try dsimp only))|(with_reducible apply AH;(exact L9 _ ((h.f _ (by assumption)).u));intro _ _)|(with_reducible apply Bq;(exact λ_=>L9 _ ((h.f _ (by assumption)).u));intro _)|with_reducible (first|refine GD ?_ λ_=>?_|refine AN ?_ ?_)))<;>first|(intro h;cases h;done)|(have he:=‹m.fields[i]?=some _›;intro _ f a;rw[he]at a;cases a;intro g;first|exact absurd (Y9 (by assumption)) g|(simp only[YB,YO,Ic,Sf,Yr,YE]at*;omega)|grind)|exact AX
def Jl(f:Fld):Prop:=f.hasDefault=true->OH f.type.kind f.dflt/\f.card=2/\f.union=⟨#[]⟩
theorem wB(s:Scm)(f:Fld)(h:SzS s)(a:SzF f):Ok (λb=>b=true->Jl f) (cA s f):=by
 have g:SzV (.mk 0 0 ⟨#[]⟩ [] [] [] []):=by constructor<;>decide
 have he:∀y,y∈s.enums->y.items.length<=1048576:=λy hy=>(h.e y hy).il;have q:∀y:Int,0<=y->y<s.enums.length->Ok Ts (Aj (Vd s f y) Ah 0):=by
  intro y hy k;refine Bu (λv:Nat=>v<=1048576) (λv:Nat=>1048576-v) ae (BZ ae) λv l=>?_;dsimp only[Vd,br,ix,Di,vz,wg,vs,Aq,ln,Af,wa,Ai,br]
  (repeat' (first|with_reducible (first|refine AL (λ_=>?_) λ_=>?_|refine AC ?_|refine BW ?_ λ_ _ _=>?_|refine AN ?_ ?_)))<;>exact AX
 have key:∀(c d:Bool),((!((!decide (f.card=2))||(!decide (f.union=⟨#[]⟩))))=true->c=true->OH f.type.kind f.dflt)->((((!decide (f.card=2))||(!decide (f.union=⟨#[]⟩)))||!c)||!d)=false->Jl f:=λc d i j _=>by cases c<;>cases d<;>simp_all
 have e:(!f.hasDefault)=true->Jl f:=λi j=>by simp_all
 dsimp only[cA,br,wg,lr,lc,cl,Ax,br]
 (repeat' (first|with_reducible (first|refine AL (λ_=>?_) λ_=>?_|refine AC ?_)|(with_reducible apply BM;(exact q _ Cg Cg);all_goals(intro _ _;try dsimp only))|(with_reducible apply AH;(exact SL _ _ a.d g);intro _ _)|(with_reducible apply AH;(exact SY _ _ a.d);intro _ _)|(with_reducible apply AH;(exact pW _ a.d);intro _ _)|(with_reducible apply AH;(exact SL _ _ a.d (by solve_by_elim));intro _ _)|(with_reducible apply AH;(exact aX _ _ h);intro _ _)|(with_reducible apply Bq;(exact λ_=>SL _ _ a.d g);intro _)|(with_reducible apply Bq;(exact λ_=>SY _ _ a.d);intro _)|(with_reducible apply Bq;(exact λ_=>pW _ a.d);intro _)|(with_reducible apply Bq;(exact λ_=>SL _ _ a.d (by solve_by_elim));intro _)|(with_reducible apply Bq;(exact λ_=>aX _ _ h);intro _)|with_reducible refine AN ?_ ?_))<;>first|(intro _;exact key _ _ (by assumption) (by assumption))|(intro _;exact e (by assumption))|exact AX
theorem o87(s:Scm)(m:Msg)(l:List Bool)(h:SzS s)(hm:SzM m)(hl:l.length=s.messages.length):Ok Tr (bO s m l):=by
 have a:=hm.fl;have q:Ok Ts (Aj (Vs s m l) Ah 0):=by
  refine Bu (λv:Nat=>v<=m.fields.length) (λv:Nat=>m.fields.length-v) ae (BZ ae) λv b=>?_;dsimp only[Vs,br,ix,AW,vz,wg,vs,Aq,ln,Af,cl,wa,Ai,br]
  (repeat' (first|with_reducible (first|refine AL (λ_=>?_) λ_=>?_|refine AC ?_|refine BW ?_ λ_ _ _=>?_)|(with_reducible apply AH;(exact RH _ _ h);intro _ _)|with_reducible (first|refine GD ?_ λ_=>?_|refine AN ?_ ?_)))<;>exact AX
 dsimp only[bO,lr,lc]
 (repeat' (first|with_reducible (first|refine AL (λ_=>?_) λ_=>?_|refine AC ?_)|(with_reducible apply BM;(exact q);all_goals(intro _ _;try dsimp only))|with_reducible refine AN ?_ ?_))<;>exact AX
theorem lW(s:Scm)(m:Msg)(l:List Bool)(h:SzS s)(hm:SzM m)(hl:l.length=s.messages.length):Ok Tr (TM s m l):=by
 have a:=hm.fl;have q:Ok Ts (Aj (UH s m l) Ah 0):=by
  refine Bu (λv:Nat=>v<=m.fields.length) (λv:Nat=>m.fields.length-v) ae (BZ ae) λv b=>?_;dsimp only[UH,br,ix,vz,wg,vs,vg,Aq,ln,Af,cl,wa,AG,Fy,fl,Ai,br,AG]
  (repeat' (first|with_reducible (first|refine AL (λ_=>?_) λ_=>?_|refine AC ?_|refine BW ?_ λ_ _ _=>?_)|(with_reducible apply AH;(exact RH _ _ h);intro _ _)|with_reducible refine AN ?_ ?_))<;>exact AX
 dsimp only[TM,vz,lr,lc,fl]
 (repeat' (first|with_reducible (first|refine AL (λ_=>?_) λ_=>?_|refine AC ?_)|(with_reducible apply BM;(exact q);all_goals(intro _ _;try dsimp only))|with_reducible refine AN ?_ ?_))<;>exact AX
theorem ww(s:Scm)(h:SzS s):Ok (λy=>y.length=s.messages.length) (bC s):=by
 have g:=h.ml;have q:∀(v:Nat) (r:List Bool),r.length=s.messages.length->Ok (Sum.elim (λy:Bool×List Bool=>y.2.length=s.messages.length) No) (Aj (Wd s v) Ah (false,0,r)):=by
  intro w r e;refine Bu (λv:Bool×Nat×List Bool=>v.2.1<=s.messages.length/\v.2.2.length=s.messages.length) (λv:Bool×Nat×List Bool=>s.messages.length-v.2.1) ⟨by simp,e⟩ (BZ (by simp;omega)) λv d=>?_;obtain⟨b,i,r⟩:=v;obtain⟨c,a⟩:=d;dsimp only at c a;dsimp only[Wd,br,AW,vz,vw,wg,vs,v2,ln,Af,CF,wa,ir,ca,st,rn,fl,Ai,br]
  (repeat' (first|with_reducible (first|refine AL (λ_=>?_) λ_=>?_|refine AC ?_|refine BW ?_ λ_ _ _=>?_)|(with_reducible apply AH;(exact lW _ _ _ h (h.m _ (by grind)) a);intro _ _)|(with_reducible apply Bq;(exact λ_=>lW _ _ _ h (h.m _ (by grind)) a);intro _)|with_reducible (first|refine GD ?_ λ_=>?_|refine AN ?_ ?_)))<;>exact AX
 have f:Ok (Sum.elim (λy:List Bool=>y.length=s.messages.length) No) (Aj (WA s) Ah (true,0,List.replicate s.messages.length false)):=by
  refine Bu (λv:Bool×Nat×List Bool=>v.2.1<=s.messages.length/\v.2.2.length=s.messages.length) (λv:Bool×Nat×List Bool=>s.messages.length-v.2.1) ⟨by simp,by simp⟩ (BZ (by simp;omega)) λv d=>?_;obtain⟨b,i,r⟩:=v;obtain⟨c,a⟩:=d;dsimp only at c a;dsimp only[WA,br,vz,wg,vs,v2,ln,Af,lc,wa,fl,Ai,br]
  (repeat' (first|with_reducible (first|refine AL (λ_=>?_) λ_=>?_|refine AC ?_)|(with_reducible apply BM;(exact q _ _ a);all_goals(intro _ _;try dsimp only))|with_reducible refine AN ?_ ?_))<;>exact AX
 dsimp only[bC,vz,wg,lr,lc,ms,fl,fr,Ai]
 (repeat' (first|with_reducible (first|refine AL (λ_=>?_) λ_=>?_|refine AC ?_)|(with_reducible apply BM;(exact f);all_goals(intro _ _;try dsimp only))|with_reducible refine AN ?_ ?_))<;>exact AX
def Ds(l:List Fld)(n:Nat):Prop:=∀(i:Nat) (a b:Fld),i+1<n->l[i]?=some a->l[i+1]?=some b->a.num<b.num
theorem Zyk{l:List Fld}{v:Nat}{a b:Fld}(h:Ds l v)(g:l[v]?=some a)(j:0<v->l[v-1]?=some b/\b.num<a.num):Ds l (v+1):=by
 intro i x y hi hx hy;by_cases e:i+1<v
 ·exact h i x y e hx hy
 ·have d:i+1=v:=ae
  have f:v-1=i:=ae
  rw[d]at hy;obtain⟨c,k⟩:=j ae;rw[f]at c;rw[g]at hy;rw[c]at hx;cases hx;cases hy;exact k
structure GdM0 (s:Scm) (m:Msg):Prop where
 asc:Ds m.fields m.fields.length
 df:∀(j:Nat) (f:Fld),m.fields[j]?=some f->Jl f/\Mc f/\Mi s f/\OJ f
def Mh(e:Enm):Prop:=∃x,e.items[0]?=some x/\x.num=0
structure GdM (s:Scm) (m:Msg):Prop where
 asc:Ds m.fields m.fields.length
 df:∀(j:Nat) (f:Fld),m.fields[j]?=some f->Jl f/\Mc f/\Mi s f/\OJ f
 en:∀(j:Nat) (e:Enm),s.enums[j]?=some e->Mh e
theorem ZLA(x:Msg):x.fields.length+x.reserved.length+x.gone.length<=Ap (AD x):=by have a:=CH (e:=Au) x.fields;have b:=CH (e:=CK) x.reserved;have c:=CH (e:=A6) x.gone;simp only[AD,Ap,bk];omega
theorem ZMd(x:Enm):x.items.length+x.reserved.length<=Ap (BC x):=by have a:=CH (e:=CJ) x.items;have b:=CH (e:=CK) x.reserved;simp only[BC,Ap,bk];omega
theorem ZOl(x:Svc):x.methods.length<=Ap (Dv x):=by have a:=CH (e:=HE) x.methods;simp only[Dv,Ap,bk];omega
theorem pE(d:ByteArray)(b:Bool)(n e:Int):Ok (λy=>y.length<=1) (Bx d [] b n e):=(Ex d [] b n e (by simp)).mono λy h=>by simpa using h.2.1
theorem o66(s:Scm)(m:Msg)(l:List Bool)(h:SzS s)(hm:SzM m)(hl:l.length=s.messages.length):Ok (λy=>y.length<=20*(Ap (AD m)+1)/\(y.length=0->GdM0 s m)) (bx s m l):=by
 have g:=ZLA m;have G:=hm.fl;have q:=hm.r;have B:=hm.gl;have E:∀(v:Nat) (r:List Prb) (e:Fld),v<=m.fields.length->Ok (Sum.elim Tr No) (Aj (WJ s m l v r e) Ah (false,0)):=by
  intro w r e I;refine Bu (λv:Bool×Nat=>v.2<=w) (λv:Bool×Nat=>w-v.2) (by simp) (BZ ae) λv k=>?_;obtain⟨b,i⟩:=v;dsimp only at k;dsimp only[WJ,br,ix,vz,wg,vs,ln,Af,wa,fl,br]
  (repeat' (first|with_reducible (first|refine AL (λ_=>?_) λ_=>?_|refine AC ?_|refine BW ?_ λ_ _ _=>?_|refine AN ?_ ?_)))<;>exact AX
 have D:∀a:List Prb,a.length<=9->Ok (Sum.elim (λy:List Prb=>y.length<=9+10*m.fields.length/\(y.length=0->GdM0 s m)) No) (Aj (Wq s m l) Ah (0,a)):=by
  intro a o;refine Bu (λv:Nat×List Prb=>v.1<=m.fields.length/\v.2.length<=9+10*v.1/\(v.2.length=0->Ds m.fields v.1/\∀(j:Nat) (f:Fld),j<v.1->m.fields[j]?=some f->Jl f/\Mc f/\Mi s f/\OJ f)) (λv:Nat×List Prb=>m.fields.length-v.1) ⟨by simp,by simpa using o,λ_=>⟨λi x y hi=>by simp at hi,λj f n=>by simp at n⟩⟩ (BZ ae) λv k=>?_;obtain⟨v,r⟩:=v;obtain⟨t,u,c⟩:=k;dsimp only at t u c;dsimp only[Wq,gf,fJ,fi,ga,fY,X8,Zy,br,ix,AW,vz,wg,vs,vg,ln,Af,lc,cl,Ax,wa,wi,fl,Ai,br]
  (repeat' (first|with_reducible (first|refine AL (λ_=>?_) λ_=>?_|refine AC ?_|refine BW ?_ λ_ _ _=>?_)|(with_reducible apply BM;(exact E _ _ _ ae);all_goals(intro _ _;try dsimp only))|(with_reducible apply AH;(exact Ex _ _ _ _ _ ae);intro _ _)|(with_reducible apply AH;(exact L9 _ (hm.f _ (by assumption)).n);intro _ _)|(with_reducible apply AH;(exact g7 _ _ q);intro _ _)|(with_reducible apply AH;(exact wx _ _ B);intro _ _)|(with_reducible apply AH;(exact wy _);intro _ _)|(with_reducible apply AH;(exact wz _ _ h);intro _ _)|(with_reducible apply AH;(exact wA _ _ hm Cg);intro _ _)|(with_reducible apply AH;(exact wB _ _ h (hm.f _ (by assumption)));intro _ _)|(with_reducible apply AH;(exact Kx _ _ _ _ _ ae (hm.f _ (by assumption)).o);intro _ _)|(with_reducible apply Bq;(exact λ_=>Ex _ _ _ _ _ ae);intro _)|(with_reducible apply Bq;(exact λ_=>L9 _ (hm.f _ (by assumption)).n);intro _)|(with_reducible apply Bq;(exact λ_=>g7 _ _ q);intro _)|(with_reducible apply Bq;(exact λ_=>wx _ _ B);intro _)|(with_reducible apply Bq;(exact λ_=>wy _);intro _)|(with_reducible apply Bq;(exact λ_=>wz _ _ h);intro _)|(with_reducible apply Bq;(exact λ_=>wA _ _ hm Cg);intro _)|(with_reducible apply Bq;(exact λ_=>wB _ _ h (hm.f _ (by assumption)));intro _)|(with_reducible apply Bq;(exact λ_=>Kx _ _ _ _ _ ae (hm.f _ (by assumption)).o);intro _)|with_reducible (first|refine GD ?_ λ_=>?_|refine AN ?_ ?_)))
  all_goals try exact Cg
  have hx:=‹decide (0<(v:Int))=true->m.fields[((v:Int)-1).toNat]?=some (m.fields.getD ((v:Int)-1).toNat Rw.z)/\_›;have he:=‹m.fields[v]?=some _›;dsimp only;refine⟨⟨by exact Cg,ae,λp=>⟨Zyk (b:=m.fields.getD ((v:Int)-1).toNat Rw.z) (c ae).1 he λk=>?_,λj f n d=>?_⟩⟩,by exact Cg⟩;have ev:((v:Int)-1).toNat=v-1:=ae
  refine⟨ev▸(hx (Yq ae)).1,?_⟩;rcases Int.lt_or_le (m.fields.getD ((v:Int)-1).toNat Rw.z).num (Fld.num _)with A|z
  ·exact A
  ·exfalso;have H:=Yb _ _▸And.intro (Yq (show(0:Int)<v by omega)) (Yq z);grind
  ·rcases Nat.lt_or_eq_of_le (Nat.le_of_lt_succ n)with n|rfl
   ·exact(c ae).2 j f n d
   ·rw[he]at d;cases d;refine⟨(show _=true->Jl _ by assumption) (OM λg=>?_),(show _=true->Mc _ by assumption) (OM λg=>?_),(show _=true->Mi s _ by assumption) (OM λg=>?_),(show _=true->∀f,m.fields[j]?=some f->OJ f by assumption) (OM λg=>?_) _ he⟩
    all_goals(
     rw[Bool.not_eq_true]at g;subst g;simp only[YQ,Jw]at*;omega)
  have C:v=m.fields.length:=by exact Cg
  subst C;exact⟨by exact Cg,λp=>⟨(c p).1,λj f d=>(c p).2 j f (Yc.1 d).1 d⟩⟩
 have F:∀a:List Prb,a.length<=20000000->Ok (Sum.elim (λy:List Prb=>a.length<=y.length/\y.length<=a.length+m.gone.length) No) (Aj (VW s m l) Ah (0,a)):=by
  intro a o;refine Bu (λv:Nat×List Prb=>v.1<=m.gone.length/\v.2.length<=a.length+v.1/\a.length<=v.2.length) (λv:Nat×List Prb=>m.gone.length-v.1) ⟨by simp,by simp,by simp⟩ (BZ ae) λv k=>?_;obtain⟨v,r⟩:=v;obtain⟨t,u,c⟩:=k;dsimp only at t u c;dsimp only[VW,br,ix,vz,wg,vs,ln,Af,lc,cl,wa,fl,Ai,br]
  (repeat' (first|with_reducible (first|refine AL (λ_=>?_) λ_=>?_|refine AC ?_|refine BW ?_ λ_ _ _=>?_)|(with_reducible apply AH;(exact Ex _ _ _ _ _ ae);intro _ _)|(with_reducible apply AH;(exact g8 _ (hm.g _ (by assumption)));intro _ _)|with_reducible refine AN ?_ ?_))<;>exact AX
 dsimp only[bx,vz,vy,vw,wg,lr,lc,cl,fl,fr,Ai]
 (repeat' (first|with_reducible (first|refine AL (λ_=>?_) λ_=>?_|refine AC ?_)|(with_reducible apply BM;(exact D _ Cg);all_goals(intro _ _;try dsimp only))|(with_reducible apply BM;(exact F _ ae);all_goals(intro _ _;try dsimp only))|(with_reducible apply AH;(exact g6 _ hm.n);intro _ _)|(with_reducible apply AH;(exact pE _ _ _ _);intro _ _)|(with_reducible apply AH;(exact Ex _ _ _ _ _ ae);intro _ _)|(with_reducible apply AH;(exact Kx _ _ _ _ _ ae hm.o);intro _ _)|(with_reducible apply AH;(exact wC _ _ _ _ _ ae q);intro _ _)|(with_reducible apply AH;(exact o87 _ _ _ h hm hl);intro _ _)|with_reducible refine AN ?_ ?_))<;>exact AX
theorem o67(e:Enm)(hm:SzE e):Ok (λy=>y.length<=20*(Ap (BC e)+1)/\(y.length=0->Mh e)) (bV e):=by
 have z:=ZMd e;have u:=hm.il;have g:=hm.r;have q:∀(v:Nat) (r:List Prb) (x:Itm),v<=e.items.length->Ok (Sum.elim Tr No) (Aj (WM e v r x) Ah (false,0)):=by
  intro w r x A;refine Bu (λv:Bool×Nat=>v.2<=w) (λv:Bool×Nat=>w-v.2) (by simp) (BZ ae) λv f=>?_;obtain⟨b,i⟩:=v;dsimp only at f;dsimp only[WM,br,ix,vz,wg,vs,ln,Af,wa,fl,br]
  (repeat' (first|with_reducible (first|refine AL (λ_=>?_) λ_=>?_|refine AC ?_|refine BW ?_ λ_ _ _=>?_|refine AN ?_ ?_)))<;>exact AX
 have p:∀a:List Prb,a.length<=9->Ok (Sum.elim (λy:List Prb=>a.length<=y.length/\y.length<=9+10*e.items.length) No) (Aj (V9 e) Ah (0,a)):=by
  intro a d;refine Bu (λv:Nat×List Prb=>v.1<=e.items.length/\a.length<=v.2.length/\v.2.length<=9+10*v.1) (λv:Nat×List Prb=>e.items.length-v.1) ⟨by simp,by simp,by simpa using d⟩ (BZ ae) λv f=>?_;obtain⟨v,r⟩:=v;obtain⟨m,o,n⟩:=f;dsimp only at m n o;dsimp only[V9,fF,gk,ZB,br,ix,AW,vz,wg,vs,vg,ln,Af,lc,cl,wa,wi,fl,Ai,br]
  (repeat' (first|with_reducible (first|refine AL (λ_=>?_) λ_=>?_|refine AC ?_|refine BW ?_ λ_ _ _=>?_)|(with_reducible apply BM;(exact q _ _ _ ae);all_goals(intro _ _;try dsimp only))|(with_reducible apply AH;(exact Ex _ _ _ _ _ ae);intro _ _)|(with_reducible apply AH;(exact L9 _ (hm.i _ (by assumption)).n);intro _ _)|(with_reducible apply AH;(exact g7 _ _ g);intro _ _)|(with_reducible apply AH;(exact Kx _ _ _ _ _ ae (hm.i _ (by assumption)).o);intro _ _)|with_reducible (first|refine GD ?_ λ_=>?_|refine AN ?_ ?_)))<;>exact AX
 dsimp only[bV,AW,vz,vy,vw,wg,lr,lc,cl,fl,fr,Ai]
 (repeat' (first|with_reducible (first|refine AL (λ_=>?_) λ_=>?_|refine AC ?_)|(with_reducible apply BM;(exact p _ Cg);all_goals(intro _ _;try dsimp only))|(with_reducible apply AH;(exact g6 _ hm.n);intro _ _)|(with_reducible apply AH;(exact Ex _ _ _ _ _ Cg);intro _ _)|(with_reducible apply AH;(exact Kx _ _ _ _ _ ae hm.o);intro _ _)|(with_reducible apply AH;(exact wC _ _ _ _ _ ae g);intro _ _)|with_reducible (first|refine GD ?_ λ_=>?_|refine AN ?_ ?_)))
 all_goals try exact AX
 rename_i B a0 C a1 D k x E a3 b a4 F a5 G s;refine⟨by exact Cg,λt=>?_⟩;have l:¬(e.items.length:Int)<1:=λh=>by have:=k.2.2 (by simp only[h,Yo,Ha]);omega
 have j:(0:Int)<e.items.length:=ae
 refine⟨_,(x (Yq j)).1,Decidable.not_not.1 λc=>?_⟩;have:=a3.2.2 (by simp only[j,c,Yo,Yx,YQ,H1]);omega
theorem o68(s:Scm)(e:Svc)(h:SzS s)(hm:SzW e):Ok (λy=>y.length<=20*(Ap (Dv e)+1)) (bA s e):=by
 have j:=ZOl e;have i:=hm.ml;have g:∀b:List Prb,b.length<=9->Ok (Sum.elim (λy:List Prb=>y.length<=9+10*e.methods.length) No) (Aj (WB s e) Ah (0,b)):=by
  intro b a;refine Bu (λv:Nat×List Prb=>v.1<=e.methods.length/\v.2.length<=9+10*v.1) (λv:Nat×List Prb=>e.methods.length-v.1) ⟨by simp,by simpa using a⟩ (BZ ae) λv f=>?_;obtain⟨v,r⟩:=v;obtain⟨c,d⟩:=f;dsimp only at c d;dsimp only[WB,XW,br,ix,AW,vz,wg,vs,vg,ln,Af,lc,cl,Ax,wa,wi,fl,Ai,br]
  (repeat' (first|with_reducible (first|refine AL (λ_=>?_) λ_=>?_|refine AC ?_|refine BW ?_ λ_ _ _=>?_)|(with_reducible apply AH;(exact Ex _ _ _ _ _ ae);intro _ _)|(with_reducible apply AH;(exact RH _ _ h);intro _ _)|(with_reducible apply AH;(exact L9 _ (hm.m _ (by assumption)).n);intro _ _)|(with_reducible apply AH;(exact Kx _ _ _ _ _ ae (hm.m _ (by assumption)).o);intro _ _)|(with_reducible apply Bq;(exact λ_=>Ex _ _ _ _ _ ae);intro _)|(with_reducible apply Bq;(exact λ_=>RH _ _ h);intro _)|(with_reducible apply Bq;(exact λ_=>L9 _ (hm.m _ (by assumption)).n);intro _)|(with_reducible apply Bq;(exact λ_=>Kx _ _ _ _ _ ae (hm.m _ (by assumption)).o);intro _)|with_reducible (first|refine GD ?_ λ_=>?_|refine AN ?_ ?_)))<;>exact AX
 dsimp only[bA,vz,vw,wg,lr,lc,cl,fl,fr,Ai]
 (repeat' (first|with_reducible (first|refine AL (λ_=>?_) λ_=>?_|refine AC ?_)|(with_reducible apply BM;(exact g _ Cg);all_goals(intro _ _;try dsimp only))|(with_reducible apply AH;(exact g6 _ hm.n);intro _ _)|(with_reducible apply AH;(exact pE _ _ _ _);intro _ _)|(with_reducible apply AH;(exact Ex _ _ _ _ _ ae);intro _ _)|(with_reducible apply AH;(exact Kx _ _ _ _ _ ae hm.o);intro _ _)|with_reducible refine AN ?_ ?_))<;>exact AX
structure Few (s:Scm):Prop where
 m:s.messages.length<=150
 e:s.enums.length<=150
 w:s.services.length<=150
theorem o37{s:Scm}(hs:Ap (Al s)<=1048576):Ok (λy=>y.length=0->(∀(i:Nat) (m:Msg),s.messages[i]?=some m->GdM0 s m)/\∀(i:Nat) (e:Enm),s.enums[i]?=some e->Mh e) (bL s):=by
 have h:=DX hs;have u:=h.ml;have w:=h.el;have x:=h.wl;have t:AR (s.messages.map AD)+AR (s.enums.map BC)+AR (s.services.map Dv)<=1048576:=by simp only[Al,Ap,bk]at hs;omega
 have n:Ok (Sum.elim (λy:List Prb=>y.length<=9) No) (Aj (VP s) Ah (1,[])):=by
  refine Bu (λv:Nat×List Prb=>1<=v.1/\v.1<=4/\v.2.length<=2*v.1) (λv:Nat×List Prb=>4-v.1) ⟨by simp,by simp,by simp⟩ (BZ ae) λv g=>?_;obtain⟨v,r⟩:=v;obtain⟨c,d,f⟩:=g;dsimp only at c d f;dsimp only[VP,br,vz,wg,vs,ln,Af,lc,cl,wa,fl,Ai,br]
  (repeat' (first|with_reducible (first|refine AL (λ_=>?_) λ_=>?_|refine AC ?_)|(with_reducible apply AH;(exact g0 _ _ h);intro _ _)|(with_reducible apply AH;(exact Ex _ _ _ _ _ ae);intro _ _)|(with_reducible apply AH;(exact o63 _ (by assumption));intro _ _)|with_reducible refine AN ?_ ?_))<;>exact AX
 have o:∀(a:List Prb) (l:List Bool),a.length<=10->l.length=s.messages.length->Ok (Sum.elim (λy:List Prb=>y.length<=20971540/\(y.length=0->∀(i:Nat) (m:Msg),s.messages[i]?=some m->GdM0 s m)) No) (Aj (Wj s l) Ah (0,a)):=by
  intro a l b hl;refine Bu (λv:Nat×List Prb=>v.1<=s.messages.length/\v.2.length<=10+20*AR ((s.messages.take v.1).map AD)/\(v.2.length=0->∀(i:Nat) (m:Msg),i<v.1->s.messages[i]?=some m->GdM0 s m)) (λv:Nat×List Prb=>s.messages.length-v.1) ⟨by simp,D2 b (R5 _ _),λ_ i m hi=>by simp at hi⟩ (BZ ae) λv g=>?_;obtain⟨v,r⟩:=v;obtain⟨c,d,f⟩:=g;dsimp only at c d f;have a1:=Ns AD s.messages v;have j:=Ns AD s.messages (v+1);dsimp only[Wj,Zt,ZJ,br,ix,vz,wg,vs,ln,Af,lc,aq,cl,wa,tw,fl,Ai,br]
  (repeat' (first|with_reducible (first|refine AL (λ_=>?_) λ_=>?_|refine AC ?_|refine BW ?_ λ_ _ _=>?_)|(with_reducible apply AH;(exact o66 _ _ _ h (h.m _ (by assumption)) hl);intro _ _)|with_reducible refine AN ?_ ?_))<;>first|(have a3:=Uk AD ‹s.messages[v]?=some _›;exact AX)|exact AX
 have p:∀a:List Prb,a.length<=20971540->Ok (Sum.elim (λy:List Prb=>a.length<=y.length/\y.length<=41943080/\(y.length=0->∀(i:Nat) (e:Enm),s.enums[i]?=some e->Mh e)) No) (Aj (VX s) Ah (0,a)):=by
  intro a b;refine Bu (λv:Nat×List Prb=>v.1<=s.enums.length/\v.2.length<=20971540+20*AR ((s.enums.take v.1).map BC)/\a.length<=v.2.length/\(v.2.length=0->∀(i:Nat) (e:Enm),i<v.1->s.enums[i]?=some e->Mh e)) (λv:Nat×List Prb=>s.enums.length-v.1) ⟨by simp,D2 b (R5 _ _),by simp,λ_ i e hi=>by simp at hi⟩ (BZ ae) λv g=>?_;obtain⟨v,r⟩:=v;obtain⟨c,d,f,k⟩:=g;dsimp only at c d f k;have a1:=Ns BC s.enums v;have j:=Ns BC s.enums (v+1);dsimp only[VX,fC,fs,br,ix,vz,wg,vs,ln,Af,lc,aq,cl,wa,tw,fl,Ai,br]
  (repeat' (first|with_reducible (first|refine AL (λ_=>?_) λ_=>?_|refine AC ?_|refine BW ?_ λ_ _ _=>?_)|(with_reducible apply AH;(exact o67 _ (h.e _ (by assumption)));intro _ _)|with_reducible refine AN ?_ ?_))<;>first|(have a3:=Uk BC ‹s.enums[v]?=some _›;exact AX)|exact AX
 have q:∀a:List Prb,a.length<=41943080->Ok (Sum.elim (λy:List Prb=>a.length<=y.length) No) (Aj (Wx s) Ah (0,a)):=by
  intro a b;refine Bu (λv:Nat×List Prb=>v.1<=s.services.length/\v.2.length<=41943080+20*AR ((s.services.take v.1).map Dv)/\a.length<=v.2.length) (λv:Nat×List Prb=>s.services.length-v.1) ⟨by simp,D2 b (R5 _ _),by simp⟩ (BZ ae) λv g=>?_;obtain⟨v,r⟩:=v;obtain⟨c,d,f⟩:=g;dsimp only at c d f;have a1:=Ns Dv s.services v;have j:=Ns Dv s.services (v+1);dsimp only[Wx,gi,fj,br,ix,vz,wg,vs,ln,Af,lc,aq,cl,wa,tw,fl,Ai,br]
  (repeat' (first|with_reducible (first|refine AL (λ_=>?_) λ_=>?_|refine AC ?_|refine BW ?_ λ_ _ _=>?_)|(with_reducible apply AH;(exact o68 _ _ h (h.w _ (by assumption)));intro _ _)|with_reducible refine AN ?_ ?_))<;>first|(have a3:=Uk Dv ‹s.services[v]?=some _›;exact AX)|exact AX
 dsimp only[bL,vz,vw,wg,lr,lc,cl,Ax,fl,fr]
 (repeat' (first|with_reducible (first|refine AL (λ_=>?_) λ_=>?_|refine AC ?_)|(with_reducible apply BM;(exact n);all_goals(intro _ _;try dsimp only))|(with_reducible apply BM;(exact o _ _ ae (by assumption));all_goals(intro _ _;try dsimp only))|(with_reducible apply BM;(exact p _ ae);all_goals(intro _ _;try dsimp only))|(with_reducible apply BM;(exact q _ ae);all_goals(intro _ _;try dsimp only))|(with_reducible apply AH;(exact g0 _ _ h);intro _ _)|(with_reducible apply AH;(exact wv _ _ (by assumption) (by assumption));intro _ _)|(with_reducible apply AH;(exact ww _ h);intro _ _)|(with_reducible apply AH;(exact Ex _ _ _ _ _ ae);intro _ _)|(with_reducible apply Bq;(exact λ_=>g0 _ _ h);intro _)|(with_reducible apply Bq;(exact λ_=>wv _ _ (by assumption) (by assumption));intro _)|(with_reducible apply Bq;(exact λ_=>ww _ h);intro _)|(with_reducible apply Bq;(exact λ_=>Ex _ _ _ _ _ ae);intro _)|with_reducible refine AN ?_ ?_))<;>exact AX
theorem o16{s:Scm}(hs:Ap (Al s)<=1048576):Ok (λb=>b=true->∀(i:Nat) (m:Msg),s.messages[i]?=some m->GdM s m) (TJ s):=by
 have k:Ok (λb=>b=true->(∀(i:Nat) (m:Msg),s.messages[i]?=some m->GdM0 s m)/\∀(i:Nat) (e:Enm),s.enums[i]?=some e->Mh e) (TJ s):=by
  dsimp only[TJ,vz,wg,lr,cl,Ai]
  (repeat' (first|with_reducible (first|refine AL (λ_=>?_) λ_=>?_|refine AC ?_)|(with_reducible apply AH;(exact o37 hs);intro _ _)|with_reducible refine AN ?_ ?_))<;>exact AX
 exact k.mono λb h a i m hm=>⟨((h a).1 i m hm).asc,((h a).1 i m hm).df,(h a).2⟩
abbrev AK(v:Val):Prop:=Ap (Ae v)<=1048576
theorem Hx{v x:Val}(h:AK v)(hx:x∈v.list):AK x:=by
 have a:=Da (e:=AE) hx;rw[GE]at a;unfold AK at*
 conv at h=>unfold Ae
 simp only[Ap,bk]at h;omega
theorem Dr{v:Val}{x:Pr}(h:AK v)(hx:x∈v.pairs):AK x.key/\AK x.val:=by
 have a:=Da (e:=An) hx;have e:An x=Ae x.key++Ae x.val:=by rw[LM];rfl
 rw[e,NE]at a;unfold AK at*
 conv at h=>unfold Ae
 simp only[Ap,bk]at h;omega
theorem GQ{v:Val}{x:Slt}(h:AK v)(hx:x∈v.slots):AK x.val:=by
 have a:=Da (e:=Ar) hx;have e:Ar x=D.int .i64 x.num::Ae x.val:=by rw[LH];rfl
 rw[e,Ap]at a;unfold AK at*
 conv at h=>unfold Ae
 simp only[Ap,bk]at h;omega
theorem ej{α:Type}(p:α->Bool):∀l:List α,l.find? p=(l.findIdx? p).bind λi=>l[i]?
 |[]=>rfl
 |x::l=>by
  rw[List.find?_cons,List.findIdx?_cons];cases h:p x with
  |true=>simp
  |false=>
   rw[ej p l];cases List.findIdx? p l<;>simp
def Df{α:Type}[Inhabited α](l:List α)(z:α)(p:α->Bool):α×Bool:=(l.find? p).elim (z,false) λx=>(x,true)
theorem NA{α:Type}[Inhabited α](l:List α)(z:α)(p:α->Bool):Df l z p=match l.findIdx? p with|some i=>(l.getD i default,true)|none=>(z,false):=by
 unfold Df;rw[ej];cases h:l.findIdx? p with
 |none=>rfl
 |some i=>
  have:=(RZ.1 h).1;simp[this]
def zM:Msg:=.mk ⟨#[]⟩ [] [] [] []
def zF:Fld:=.mk 0 ⟨#[]⟩ 0 0 (.mk 0 ⟨#[]⟩) ⟨#[]⟩ false (.mk 0 0 ⟨#[]⟩ [] [] [] []) []
theorem gO(s:Scm)(n:ByteArray)(h:s.messages.length<=1048576):M4 s n=some (Df s.messages zM λm=>decide (m.name=n)):=by
 have c:=Ez (B:=Q4 s n) (N:=Ah) s.messages (λm=>decide (m.name=n)) (λi=>(s.messages.getD i default,true)) () (λi x hx=>by
  have a:=A5 hx;have d:=(Yc.1 hx).1;have b:i+1<9223372036854775808:=ae
  dsimp only[Q4,br,ix,vz,wg,vs,Aq,ln,Af,wa,Ai,br];simp only[a,b,hx,Yo,Yp,Ya,Yg,YI];cases decide (x.name=n)<;>simp) (by simp[Q4,br,ix,vz,wg,vs,Aq,ln,Af,wa,Ai,br]) (AM ae)
 dsimp only[M4,wg,lr,lc];rw[c,NA];cases s.messages.findIdx? λm=>decide (m.name=n)<;>rfl
theorem m84(l:List Msg)(n:ByteArray)(h:l.length<=1048576):TH l (λz=>M7 z n)=some (Df l zM λm=>decide (m.name=n)):=by
 have c:=Ez (B:=Ry l λz=>M7 z n) (N:=Ah) l (λm=>decide (m.name=n)) (λi=>(l.getD i default,true)) () (λi x hx=>by
  have a:=A5 hx;have d:=(Yc.1 hx).1;have b:i+1<9223372036854775808:=ae
  have e:M7 x n=some (decide (x.name=n)):=rfl;dsimp only[Ry,br,ix,wg,vs,Aq,ln,Af,cf,wa,br];simp only[a,b,hx,e,Yo,Yp,Ya,Yg,YI];cases decide (x.name=n)<;>simp) (by simp[Ry,br,ix,wg,vs,Aq,ln,Af,cf,wa,br]) (AM ae)
 dsimp only[TH,vz,wg,lr,lc,Ai];rw[c,NA];cases l.findIdx? λm=>decide (m.name=n)<;>rfl
theorem ND{s:Scm}(h:SzS s)(n:ByteArray):(Df s.messages zM λm=>decide (m.name=n)).1.fields.length<=1048576:=by
 unfold Df;cases e:s.messages.find? λm=>decide (m.name=n)with
 |none=>simp[zM]
 |some m=>exact(h.m _ (Mm e)).fl
theorem Wb{v x:Val}(hx:x∈v.list):Ap (Ae x)<Ap (Ae v):=by
 have a:=Da (e:=AE) hx;rw[GE]at a
 conv=>rhs;unfold Ae
 simp only[Ap,bk];omega
theorem LP{v:Val}{x:Pr}(hx:x∈v.pairs):Ap (Ae x.key)<Ap (Ae v)/\Ap (Ae x.val)<Ap (Ae v):=by
 have b:=Da (e:=An) hx;have e:An x=Ae x.key++Ae x.val:=by rw[LM];rfl
 rw[e,NE]at b;have a:Ap (Ae v)=Ap [.int .i64 v.kind,.int .u64 v.bits,.str v.text,.list (v.list.map AE),.list (v.pairs.map An),.list (v.slots.map Ar),.list (v.raws.map Ay)]:=rfl;rw[a];simp only[Ap,bk];omega
theorem VY{v:Val}{x:Slt}(hx:x∈v.slots):Ap (Ae x.val)<Ap (Ae v):=by
 have a:=Da (e:=Ar) hx;have e:Ar x=D.int .i64 x.num::Ae x.val:=by rw[LH];rfl
 rw[e,Ap]at a;have b:Ap (Ae v)=Ap [.int .i64 v.kind,.int .u64 v.bits,.str v.text,.list (v.list.map AE),.list (v.pairs.map An),.list (v.slots.map Ar),.list (v.raws.map Ay)]:=rfl;rw[b];simp only[Ap,bk]at a⊢;omega
def BG(F:List Fld)(k:Int):Fld×Bool:=Df F zF λf=>decide (f.num=k)
def AU(F:List Fld)(k:Int):Fld:=(BG F k).1
def Bg(s:Scm)(n:ByteArray):List Fld:=(Df s.messages zM λm=>decide (m.name=n)).1.fields
theorem gX(s:Scm)(n:ByteArray)(h:s.messages.length<=1048576):Nc s n=some (Df s.messages zM λm=>decide (m.name=n)):=by dsimp only[Nc,wg,lr,cs];rw[m84 _ _ h];rfl
theorem n74(l:List Fld)(k:Int)(h:l.length<=1048576):TN l (λz=>Na z k)=some (BG l k):=by
 have c:=Ez (B:=Re l λz=>Na z k) (N:=Ah) l (λf=>decide (f.num=k)) (λi=>(l.getD i default,true)) () (λi x hx=>by
  have a:=A5 hx;have d:=(Yc.1 hx).1;have b:i+1<9223372036854775808:=ae
  have e:Na x k=some (decide (x.num=k)):=rfl;dsimp only[Re,br,ix,wg,vs,Aq,ln,Af,cf,wa,br];simp only[a,b,hx,e,Yo,Yp,Ya,Yg,YI];cases decide (x.num=k)<;>simp) (by simp[Re,br,ix,wg,vs,Aq,ln,Af,cf,wa,br]) (AM ae)
 dsimp only[TN,vz,wg,lr,lc,Ai];unfold BG;rw[c,NA];cases l.findIdx? λm=>decide (m.num=k)<;>rfl
theorem gW(m:Msg)(k:Int)(h:m.fields.length<=1048576):cR m k=some (BG m.fields k):=by dsimp only[cR,wg,lr,cs];rw[n74 _ _ h];rfl
theorem gV(m:Msg)(k:Int)(h:m.fields.length<=1048576):bP m k=some (BG m.fields k):=by
 have c:=Ez (B:=QL m k) (N:=Ah) m.fields (λf=>decide (f.num=k)) (λi=>(m.fields.getD i default,true)) () (λi x hx=>by
  have a:=A5 hx;have d:=(Yc.1 hx).1;have b:i+1<9223372036854775808:=ae
  dsimp only[QL,br,ix,vz,wg,vs,Aq,ln,Af,wa,Ai,br];simp only[a,b,hx,Yo,Yp,Ya,Yg,YI];cases decide (x.num=k)<;>simp) (by simp[QL,br,ix,vz,wg,vs,Aq,ln,Af,wa,Ai,br]) (AM ae)
 dsimp only[bP,wg,lr,lc];unfold BG;rw[c,NA];cases m.fields.findIdx? λf=>decide (f.num=k)<;>rfl
def HV{α:Type}(l:List α)(p:α->Bool):Int:=match l.findIdx? p with
 |some i=>(i:Int)
 |none=>-1
theorem xE{α:Type}(l:List α)(p:α->Bool):decide (0<=HV l p)=l.any p:=by
 unfold HV;rw[<-Mk];cases l.findIdx? p with
 |none=>rfl
 |some i=>simp
theorem n70(l:List Slt)(f:Slt->Option Bool)(p:Slt->Bool)(d:∀x∈l,f x=some (p x))(h:l.length<4611686018427387904):TY l f=some (HV l p):=by
 have e:=Ez (B:=QP l f) (N:=Ah) l p (λi=>(i:Int)) () (λi x hx=>by
  have a:=A5 hx;have g:=(Yc.1 hx).1;have b:i+1<9223372036854775808:=ae
  have c:=d x (Yh hx);dsimp only[QP,br,ix,vs,Aq,ln,Af,cf,wa,br];simp only[a,b,c,hx,Yo,Yp,Ya];cases p x<;>simp) (by simp[QP,br,ix,vs,Aq,ln,Af,cf,wa,br]) (AM h)
 dsimp only[TY,vz,lr,lc,Ai];rw[e];unfold HV;cases l.findIdx? p<;>rfl
def CU(l:List Slt)(k:Int):Bool:=l.any λx=>decide (x.num=k)
theorem ke{v:Val}{x:Raw}(h:AK v)(hx:x∈v.raws):x.data.size<=1048576:=by
 have a:=Da (e:=Ay) hx;unfold AK at h
 conv at h=>unfold Ae
 simp only[Ap,bk,Ay]at h a;omega
theorem Uu{F:List Fld}{k:Int}(h:(BG F k).2=true):(AU F k).num=k:=by
 unfold AU BG Df at*;cases e:F.find? λf=>decide (f.num=k)with
 |none=>rw[e]at h;cases h
 |some f=>exact Y9 (p:=f.num=k) (List.find?_some (p:=λf:Fld=>decide (f.num=k)) e)
abbrev V7:=Scm->Fld->Val->Int->Bool->Option Int
end Go.Proofs.YtalafnjhcecdpaaGreatDoor
