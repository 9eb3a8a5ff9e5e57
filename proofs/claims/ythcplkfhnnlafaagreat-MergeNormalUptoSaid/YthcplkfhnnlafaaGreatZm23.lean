import Derived.Test.YthcplkfhnnlafaaGreatZm22
import Derived.Test.YthcplkfhnnlafaaGreatZm00
namespace Go.Proofs.YthcplkfhnnlafaaGreat
set_option linter.all false
open Go Go.Eng
theorem iw(x:ByteArray):x.data.toList.length=x.size:=by rw[G8];rfl
theorem B9{n:Nat}(h:n<=2097152):n<Ag:=by unfold Ag;omega
theorem ZUk(x:ByteArray)(h:x.size<=1048576):Ok Tr (Vq x):=by
 have q:Ok Ts (Aj (OF x) Ag 0):=by
  refine BC (λv:Int=>0<=v/\v<=x.size+4) (λv:Int=>(x.size+4-v).toNat) ⟨ae,ae⟩ (B9 ae) λv a=>?_;dsimp only[OF,br,vz,vs,Ar,ln,Af,cl,wi,A3,br]
  (repeat' (first|with_reducible (first|refine AR (λ_=>?_) λ_=>?_|refine AG ?_)|(with_reducible apply AO;(exact ZUn _ _ a.1 Ct h);intro _ _)|with_reducible refine AU ?_ ?_))<;>exact A0
 dsimp only[Vq,lr,lc]
 (repeat' (first|with_reducible (first|refine AR (λ_=>?_) λ_=>?_|refine AG ?_)|(with_reducible apply BU;(exact q);all_goals(intro _ _;try dsimp only))|with_reducible refine AU ?_ ?_))<;>exact Ct
theorem kg(x:ByteArray)(h:x.size<=1048576):Ok Tr (NU x):=by
 dsimp only[NU,lr,cl]
 (repeat' (first|with_reducible (first|refine AR (λ_=>?_) λ_=>?_|refine AG ?_)|(with_reducible apply AO;(exact ZUk _ h);intro _ _)|with_reducible refine AU ?_ ?_))<;>exact Ct
theorem UB(x:ByteArray)(h:x.size<=1048576):Ok Tr (eW x):=by
 have hl:=iw x;have q:Ok Ts (Aj (W1 x) Ag 1):=by
  refine BC (λv:Nat=>v<=1048577) (λv:Nat=>1048577-v) ae (B9 ae) λv a=>?_;dsimp only[W1,br,vz,vs,Ar,ln,Af,cl,Az,wa,A3,br,ib,GY]
  (repeat' (first|with_reducible (first|refine AR (λ_=>?_) λ_=>?_|refine AG ?_|refine B4 ?_ λ_ _ _=>?_)|(with_reducible apply AO;(exact Um _);intro _ _)|(with_reducible apply AO;(exact Ux _);intro _ _)|(with_reducible apply Bw;(exact λ_=>Um _);intro _)|(with_reducible apply Bw;(exact λ_=>Ux _);intro _)|with_reducible refine AU ?_ ?_))<;>exact A0
 dsimp only[eW,br,vz,vy,lr,lc,Az,A3,br,GY]
 (repeat' (first|with_reducible (first|refine AR (λ_=>?_) λ_=>?_|refine AG ?_)|(with_reducible apply BU;(exact q);all_goals(intro _ _;try dsimp only))|(with_reducible apply AO;(exact Um _);intro _ _)|(with_reducible apply AO;(exact Ux _);intro _ _)|(with_reducible apply Bw;(exact λ_=>Um _);intro _)|(with_reducible apply Bw;(exact λ_=>Ux _);intro _)|with_reducible refine AU ?_ ?_))<;>exact Ct
theorem ZTj(x:ByteArray)(h:x.size<=1048576):Ok Tr (eQ x):=by
 have hl:=iw x;have q:Ok (Sum.elim (λb:ByteArray=>b.size<=1048576) Tr) (Aj (WZ x) Ag (⟨#[]⟩,0)):=by
  refine BC (λv:ByteArray×Nat=>v.1.size<=v.2/\v.2<=x.size) (λv:ByteArray×Nat=>x.size-v.2) ⟨by rw[sz0];omega,ae⟩ (B9 ae) λv a=>?_;obtain⟨v,i⟩:=v;obtain⟨a,hi⟩:=a;dsimp only at a hi;dsimp only[WZ,br,vz,vs,v2,Ar,ln,Af,ad,cl,wa,ss,A3,br,ib]
  (repeat' (first|with_reducible (first|refine AR (λ_=>?_) λ_=>?_|refine AG ?_|refine B4 ?_ λ_ _ _=>?_)|(with_reducible apply AO;(exact UB _ ae);intro _ _)|with_reducible (first|refine qJ ?_ ?_|refine AU ?_ ?_)))<;>exact A0
 dsimp only[eQ,br,vz,lr,lc,cl,A3,br]
 (repeat' (first|with_reducible (first|refine AR (λ_=>?_) λ_=>?_|refine AG ?_)|(with_reducible apply BU;(exact q);all_goals(intro _ _;try dsimp only))|(with_reducible apply AO;(exact UB _ (by assumption));intro _ _)|with_reducible refine AU ?_ ?_))<;>exact Ct
set_option maxRecDepth 20000 in
theorem ZTv(x:ByteArray)(h:x.size<=1048576):Ok (λy=>y.1.size<=1048576/\y.2.size<=1048576) (eC x):=by
 have hl:=iw x;have q:Ok (Sum.elim Tr (λy:ByteArray×ByteArray=>y.1.size<=1048576/\y.2.size<=1048576)) (Aj (WX x) Ag ((x.size:Int)-1)):=by
  refine BC (λv:Int=>-1<=v/\v<x.size) (λv:Int=>(v+1).toNat) ⟨ae,ae⟩ (B9 ae) λv hv=>?_;dsimp only[WX,br,vs,Ar,ln,Af,wi,ss,br,S1]
  (repeat' (first|with_reducible (first|refine AR (λ_=>?_) λ_=>?_|refine AG ?_|refine B4 ?_ λ_ _ _=>?_|refine qJ ?_ ?_|refine AU ?_ ?_)))<;>exact A0
 dsimp only[eC,vz,vs,lr,lc,wi,A3]
 (repeat' (first|with_reducible (first|refine AR (λ_=>?_) λ_=>?_|refine AG ?_)|(with_reducible apply BU;(exact q);all_goals(intro _ _;try dsimp only))|with_reducible refine AU ?_ ?_))<;>exact A0
set_option maxRecDepth 20000 in
theorem ke(x:ByteArray)(h:x.size<=1048576):Ok Tr (eS x):=by
 have q:Ok Ts (Aj XN Ag (x,0)):=by
  refine BC (λv:ByteArray×Nat=>v.1.size<=1048576/\v.2<=120) (λv:ByteArray×Nat=>120-v.2) ⟨h,ae⟩ (B9 ae) λv hv=>?_;obtain⟨v,i⟩:=v;obtain⟨hv,hi⟩:=hv;dsimp only at hv hi;dsimp only[XN,br,vs,v2,Ar,ln,Af,cl,wa,br]
  (repeat' (first|with_reducible (first|refine AR (λ_=>?_) λ_=>?_|refine AG ?_)|(with_reducible apply AO;(exact ZTv _ hv);intro _ _)|(with_reducible apply AO;(exact dm _);intro _ _)|with_reducible refine AU ?_ ?_))<;>exact A0
 dsimp only[eS,br,lr,lc,cl,br]
 (repeat' (first|with_reducible (first|refine AR (λ_=>?_) λ_=>?_|refine AG ?_)|(with_reducible apply BU;(exact q);all_goals(intro _ _;try dsimp only))|(with_reducible apply AO;(exact ZTj _ h);intro _ _)|with_reducible refine AU ?_ ?_))<;>exact A0
set_option maxRecDepth 20000 in
theorem MY(x:ByteArray)(h:x.size<=1048576):Ok Tr (eo x):=by
 dsimp only[eo,lr,cl,Az]
 (repeat' (first|with_reducible (first|refine AR (λ_=>?_) λ_=>?_|refine AG ?_)|(with_reducible apply AO;(exact UB _ h);intro _ _)|(with_reducible apply AO;(exact dm _);intro _ _)|(with_reducible apply Bw;(exact λ_=>UB _ h);intro _)|(with_reducible apply Bw;(exact λ_=>dm _);intro _)|with_reducible refine AU ?_ ?_))<;>exact A0
theorem o86(l:List ByteArray)(x:ByteArray)(h:l.length<=1048576):Ok Tr (QM l x):=by
 have q:Ok Ts (Aj (OO l x) Ag 0):=by
  refine BC (λv:Nat=>v<=l.length) (λv:Nat=>l.length-v) ae (B9 ae) λv a=>?_;dsimp only[OO,br,ix,vz,vs,Ar,ln,Af,wa,Ah,br]
  (repeat' (first|with_reducible (first|refine AR (λ_=>?_) λ_=>?_|refine AG ?_|refine B4 ?_ λ_ _ _=>?_|refine AU ?_ ?_)))<;>exact A0
 dsimp only[QM,lr,lc]
 (repeat' (first|with_reducible (first|refine AR (λ_=>?_) λ_=>?_|refine AG ?_)|(with_reducible apply BU;(exact q);all_goals(intro _ _;try dsimp only))|with_reducible refine AU ?_ ?_))<;>exact A0
theorem kf(l:List Spn)(x:Int)(h:l.length<=1048576):Ok Tr (et l x):=by
 have q:Ok Ts (Aj (XW l x) Ag 0):=by
  refine BC (λv:Nat=>v<=l.length) (λv:Nat=>l.length-v) ae (B9 ae) λv a=>?_;dsimp only[XW,br,ix,AZ,vz,vs,Ar,ln,Af,wa,Ah,br]
  (repeat' (first|with_reducible (first|refine AR (λ_=>?_) λ_=>?_|refine AG ?_|refine B4 ?_ λ_ _ _=>?_|refine Hh ?_ λ_=>?_|refine AU ?_ ?_)))<;>exact A0
 dsimp only[et,lr,lc]
 (repeat' (first|with_reducible (first|refine AR (λ_=>?_) λ_=>?_|refine AG ?_)|(with_reducible apply BU;(exact q);all_goals(intro _ _;try dsimp only))|with_reducible refine AU ?_ ?_))<;>exact A0
theorem S6(s:Scm)(x:ByteArray)(h:SzS s):Ok (λy:Int=>y<s.messages.length/\(0<=y->∃m∈s.messages,m.name=x)) (ek s x):=by
 have hm:=h.ml;have q:Ok (Sum.elim Tr λy:Int=>y<s.messages.length/\(0<=y->∃m∈s.messages,m.name=x)) (Aj (Ze s x) Ag 0):=by
  refine BC (λv:Nat=>v<=s.messages.length) (λv:Nat=>s.messages.length-v) ae (B9 ae) λv a=>?_;dsimp only[Ze,br,ix,vz,wg,vs,Ar,ln,Af,wa,Ah,br]
  (repeat' (first|with_reducible (first|refine AR (λ_=>?_) λ_=>?_|refine AG ?_|refine B4 ?_ λ_ _ _=>?_|refine AU ?_ ?_)))<;>first|exact⟨ae,λ_=>⟨_,by assumption,Y7 (by assumption)⟩⟩|exact A0
 dsimp only[ek,lr,lc]
 (repeat' (first|with_reducible (first|refine AR (λ_=>?_) λ_=>?_|refine AG ?_)|(with_reducible apply BU;(exact q);all_goals(intro _ _;try dsimp only))|with_reducible refine AU ?_ ?_))<;>first|exact⟨ae,λh=>absurd h (by decide)⟩|exact A0
theorem cN(s:Scm)(x:ByteArray)(h:SzS s):Ok (λy:Int=>y<s.enums.length/\(0<=y->∃m∈s.enums,m.name=x)) (eg s x):=by
 have hm:=h.el;have q:Ok (Sum.elim Tr λy:Int=>y<s.enums.length/\(0<=y->∃m∈s.enums,m.name=x)) (Aj (W0 s x) Ag 0):=by
  refine BC (λv:Nat=>v<=s.enums.length) (λv:Nat=>s.enums.length-v) ae (B9 ae) λv a=>?_;dsimp only[W0,br,ix,vz,wg,vs,Ar,ln,Af,wa,Ah,br]
  (repeat' (first|with_reducible (first|refine AR (λ_=>?_) λ_=>?_|refine AG ?_|refine B4 ?_ λ_ _ _=>?_|refine AU ?_ ?_)))<;>first|exact⟨ae,λ_=>⟨_,by assumption,Y7 (by assumption)⟩⟩|exact A0
 dsimp only[eg,lr,lc]
 (repeat' (first|with_reducible (first|refine AR (λ_=>?_) λ_=>?_|refine AG ?_)|(with_reducible apply BU;(exact q);all_goals(intro _ _;try dsimp only))|with_reducible refine AU ?_ ?_))<;>first|exact⟨ae,λh=>absurd h (by decide)⟩|exact A0
theorem UE(v w:Val)(h:SzV v)(k:SzV w):Ok Tr (em v w):=by
 obtain⟨_,_,_,_,_⟩:=h;obtain⟨_,_,_,_,_⟩:=k;dsimp only[em,vy,wg,vg,lr,wa,Ah]
 (repeat' (first|with_reducible (first|refine AR (λ_=>?_) λ_=>?_|refine AG ?_|refine AU ?_ ?_)))<;>exact A0
def ll(v:Val):Prop:=v.list=[]/\v.pairs=[]/\v.slots=[]/\v.raws=[]/\(v.kind=7\/v.kind=8->v.bits=0)/\(¬(v.kind=7\/v.kind=8)->v.text=⟨#[]⟩)
def PD(n:Int)(v:Val):Prop:=1<=n/\n<=9/\v.kind=n/\ll v
theorem ZPf{n:Int}{v:Val}(h:SzV v)(e:KH n v=some true):PD n v:=by
 obtain⟨p,q,r,s,t⟩:=h;have k:v.list.length<4611686018427387904:=ae
 have l:v.pairs.length<4611686018427387904:=ae
 have m:v.slots.length<4611686018427387904:=ae
 have o:v.raws.length<4611686018427387904:=ae
 have hi:L9 n=some (decide (1<=n)&&decide (n<=9)):=rfl;dsimp only[KH,br,vz,vy,wg,lr,cl,Az,A3,br,QH,vz,vy,wg,lr,Ah,L6,lr]at e;rw[hi]at e;unfold PD ll;simp only[Ya]at e;generalize NU v.text=w at e;simp[k,l,m,o]at e;split at e
 ·cases e
 ·rename_i c;simp only[not_or,Decidable.not_not,Classical.not_imp,Int.not_lt]at c;obtain⟨⟨⟨d,f⟩,b⟩,⟨⟨g,i⟩,j⟩,c6⟩:=c;refine⟨d,f,b,g,i,j,c6,λa=>?_,λa=>?_⟩
  ·rw[b]at a;simp only[a,Yq]at e;split at e<;>simp_all
  ·rw[b]at a;simp only[a,YE]at e;split at e<;>simp_all
theorem UN(n:Int)(v:Val)(h:SzV v):Ok (λb=>b=true->PD n v) (KH n v):=by
 have a:=h.t;have q:Ok Tr (KH n v):=by
  have c:Ok Tr (L9 n):=⟨_,rfl,trivial⟩;dsimp only[KH,br,vz,vy,wg,lr,cl,Az,A3,br]
  (repeat' (first|with_reducible (first|refine AR (λ_=>?_) λ_=>?_|refine AG ?_)|(with_reducible apply AO;(exact c);intro _ _)|(with_reducible apply AO;(exact uM _);intro _ _)|(with_reducible apply AO;(exact uV _);intro _ _)|(with_reducible apply AO;(exact kg _ a);intro _ _)|(with_reducible apply Bw;(exact λ_=>c);intro _)|(with_reducible apply Bw;(exact λ_=>uM _);intro _)|(with_reducible apply Bw;(exact λ_=>uV _);intro _)|(with_reducible apply Bw;(exact λ_=>kg _ a);intro _)|with_reducible refine AU ?_ ?_))<;>exact A0
 obtain⟨b,e,_⟩:=q;exact⟨b,e,λd=>ZPf h (d▸e)⟩
theorem uU(v:Val)(h:SzV v):Ok SzV (QJ v):=by
 dsimp only[QJ,br,wg,lr,Az,br]
 (repeat' (first|with_reducible (first|refine AR (λ_=>?_) λ_=>?_|refine AG ?_)|(with_reducible apply AO;(exact td _);intro _ _)|(with_reducible apply Bw;(exact λ_=>td _);intro _)|with_reducible refine AU ?_ ?_))<;>first|exact h|exact⟨h.t,h.l,h.p,h.s,h.r⟩
theorem ZTO(x:Nt)(h:SzN x):Ok Tr (eF x):=by
 dsimp only[eF,wg,lr,cl,Az]
 (repeat' (first|with_reducible (first|refine AR (λ_=>?_) λ_=>?_|refine AG ?_)|(with_reducible apply AO;(exact dz _);intro _ _)|(with_reducible apply AO;(exact UN _ _ h.v);intro _ _)|(with_reducible apply Bw;(exact λ_=>dz _);intro _)|(with_reducible apply Bw;(exact λ_=>UN _ _ h.v);intro _)|with_reducible refine AU ?_ ?_))<;>exact A0
theorem ZTM(l:List Nt)(n:Int)(h:Jz l):Ok Tr (eD l n):=by
 obtain⟨b,a⟩:=h;have q:Ok Ts (Aj (Xt l n) Ag 0):=by
  refine BC (λv:Nat=>v<=l.length) (λv:Nat=>l.length-v) ae (B9 ae) λv c=>?_;dsimp only[Xt,br,ix,AZ,vz,vs,vg,Ar,ln,Af,cl,wa,wi,Ah,br]
  (repeat' (first|with_reducible (first|refine AR (λ_=>?_) λ_=>?_|refine AG ?_|refine B4 ?_ λ_ _ _=>?_)|(with_reducible apply AO;(exact dz _);intro _ _)|(with_reducible apply AO;(exact ZTZ _ _);intro _ _)|(with_reducible apply AO;(exact ZTO _ (a _ (by assumption)));intro _ _)|with_reducible (first|refine Hh ?_ λ_=>?_|refine AU ?_ ?_)))<;>exact A0
 dsimp only[eD,br,vz,lr,lc,Ah,br]
 (repeat' (first|with_reducible (first|refine AR (λ_=>?_) λ_=>?_|refine AG ?_)|(with_reducible apply BU;(exact q);all_goals(intro _ _;try dsimp only))|with_reducible refine AU ?_ ?_))<;>exact A0
end Go.Proofs.YthcplkfhnnlafaaGreat
namespace Go.Proofs.YthcplkfhnnlafaaGreat
set_option linter.all false
open Go Go.Eng
theorem EY(d:ByteArray)(l:List Prb)(b:Bool)(n e:Int)(h:l.length<549755813887):Ok (λy=>l.length<=y.length/\y.length<=l.length+1/\(b=true->l.length+1<=y.length)) (BH d l b n e):=by
 dsimp only[BH,bb,ce,vz,vw,wg,lr,lc,ap,B3,fl]
 (repeat' (first|with_reducible (first|refine AR (λ_=>?_) λ_=>?_|refine AG ?_|refine AU ?_ ?_)))<;>first|exact A0|simp_all
theorem Lr(d:ByteArray)(l:List Prb)(x:List Nt)(t n:Int)(h:l.length<549755813887)(hx:Jz x):Ok (λy=>l.length<=y.length/\y.length<=l.length+1) (IK d l x t n):=by
 dsimp only[IK,bW,vz,lr,lc,cl,fl]
 (repeat' (first|with_reducible (first|refine AR (λ_=>?_) λ_=>?_|refine AG ?_)|(with_reducible apply AO;(exact ZTM _ _ hx);intro _ _)|(with_reducible apply AO;(exact EY _ _ _ _ _ h);intro _ _)|with_reducible refine AU ?_ ?_))<;>exact A0
theorem o96(d:ByteArray)(l:List Prb)(x:List Spn)(t n:Int)(h:l.length<500000000000)(hx:x.length<=1048576):Ok (λy=>l.length<=y.length/\y.length<=l.length+2*x.length) (QB d l x t n):=by
 have q:Ok (Sum.elim (λy:List Prb=>l.length<=y.length/\y.length<=l.length+2*x.length) No) (Aj (XV d x t n) Ag (0,l)):=by
  refine BC (λv:Nat×List Prb=>v.1<=x.length/\l.length<=v.2.length/\v.2.length<=l.length+2*v.1) (λv:Nat×List Prb=>x.length-v.1) ⟨ae,by simp,by simp⟩ (B9 ae) λv e=>?_;obtain⟨i,r⟩:=v;obtain⟨a,b,c⟩:=e;dsimp only at a b c;dsimp only[XV,bA,bc,br,ix,AZ,vz,vs,vg,ln,Af,lc,wa,wi,fl,Ah,br]
  (repeat' (first|with_reducible (first|refine AR (λ_=>?_) λ_=>?_|refine AG ?_|refine B4 ?_ λ_ _ _=>?_)|(with_reducible apply AO;(exact EY _ _ _ _ _ ae);intro _ _)|with_reducible (first|refine Hh ?_ λ_=>?_|refine AU ?_ ?_)))<;>exact A0
 dsimp only[QB,bJ,vz,lr,lc,fl]
 (repeat' (first|with_reducible (first|refine AR (λ_=>?_) λ_=>?_|refine AG ?_)|(with_reducible apply BU;(exact q);all_goals(intro _ _;try dsimp only))|with_reducible refine AU ?_ ?_))<;>exact A0
theorem kc(s:Scm)(w:Int)(h:SzS s):Ok (λy=>y.length<=3145728) (eB s w):=by
 have a:=h.ml;have b:=h.el;have j:=h.wl;have e:Ok (Sum.elim (λy:List ByteArray=>y.length<=1048576) No) (Aj (Zp s w) Ag ([],0)):=by
  refine BC (λv:List ByteArray×Nat=>v.2<=s.messages.length/\v.1.length<=v.2) (λv:List ByteArray×Nat=>s.messages.length-v.2) ⟨ae,by simp⟩ (B9 ae) λv c=>?_;obtain⟨r,i⟩:=v;obtain⟨a,b⟩:=c;dsimp only at a b;dsimp only[Zp,br,ix,vz,vy,vw,wg,vs,v2,ln,Af,ap,wa,fl,Ah,br]
  (repeat' (first|with_reducible (first|refine AR (λ_=>?_) λ_=>?_|refine AG ?_|refine B4 ?_ λ_ _ _=>?_|refine AU ?_ ?_)))<;>exact A0
 have f:∀r:List ByteArray,r.length<=1048576->Ok (Sum.elim (λy:List ByteArray=>y.length<=2097152) No) (Aj (Zc s w) Ag (r,0)):=by
  intro r d;refine BC (λv:List ByteArray×Nat=>v.2<=s.enums.length/\v.1.length<=1048576+v.2) (λv:List ByteArray×Nat=>s.enums.length-v.2) ⟨ae,by simpa using d⟩ (B9 ae) λv c=>?_;obtain⟨r,i⟩:=v;obtain⟨a,b⟩:=c;dsimp only at a b;dsimp only[Zc,br,ix,vz,vy,vw,wg,vs,ln,Af,ap,wa,fl,Ah,br]
  (repeat' (first|with_reducible (first|refine AR (λ_=>?_) λ_=>?_|refine AG ?_|refine B4 ?_ λ_ _ _=>?_|refine AU ?_ ?_)))<;>exact A0
 have g:∀r:List ByteArray,r.length<=2097152->Ok (Sum.elim (λy:List ByteArray=>y.length<=3145728) No) (Aj (Zj s w) Ag (r,0)):=by
  intro r d;refine BC (λv:List ByteArray×Nat=>v.2<=s.services.length/\v.1.length<=2097152+v.2) (λv:List ByteArray×Nat=>s.services.length-v.2) ⟨ae,by simpa using d⟩ (B9 ae) λv c=>?_;obtain⟨r,i⟩:=v;obtain⟨a,b⟩:=c;dsimp only at a b;dsimp only[Zj,br,ix,vz,vy,vw,wg,vs,ln,Af,ap,wa,fl,Ah,br]
  (repeat' (first|with_reducible (first|refine AR (λ_=>?_) λ_=>?_|refine AG ?_|refine B4 ?_ λ_ _ _=>?_|refine AU ?_ ?_)))<;>exact A0
 dsimp only[eB,vz,vw,lr,lc,fl,fr]
 (repeat' (first|with_reducible (first|refine AR (λ_=>?_) λ_=>?_|refine AG ?_)|(with_reducible apply BU;(exact e);all_goals(intro _ _;try dsimp only))|(with_reducible apply BU;(exact f _ (by assumption));all_goals(intro _ _;try dsimp only))|(with_reducible apply BU;(exact g _ (by assumption));all_goals(intro _ _;try dsimp only))|with_reducible refine AU ?_ ?_))<;>exact A0
theorem o63(l:List ByteArray)(h:l.length<=3145728):Ok Tr (ep l):=by
 have q:Ok Ts (Aj (Zu l) Ag 1):=by
  refine BC (λv:Nat=>1<=v/\v<=l.length+1) (λv:Nat=>l.length+1-v) ⟨ae,ae⟩ (by unfold Ag;omega) λv a=>?_;dsimp only[Zu,br,ix,CB,vz,vs,Ar,ln,Af,wa,wi,Ah,br]
  (repeat' (first|with_reducible (first|refine AR (λ_=>?_) λ_=>?_|refine AG ?_|refine B4 ?_ λ_ _ _=>?_|refine AU ?_ ?_)))<;>exact A0
 dsimp only[ep,lr,lc]
 (repeat' (first|with_reducible (first|refine AR (λ_=>?_) λ_=>?_|refine AG ?_)|(with_reducible apply BU;(exact q);all_goals(intro _ _;try dsimp only))|with_reducible refine AU ?_ ?_))<;>exact A0
theorem ZTR(l:List ByteArray)(x:ByteArray)(h:l.length<=3145728):Ok Tr (QM l x):=by
 have q:Ok Ts (Aj (OO l x) Ag 0):=by
  refine BC (λv:Nat=>v<=l.length) (λv:Nat=>l.length-v) ae (by unfold Ag;omega) λv a=>?_;dsimp only[OO,br,ix,vz,vs,Ar,ln,Af,wa,Ah,br]
  (repeat' (first|with_reducible (first|refine AR (λ_=>?_) λ_=>?_|refine AG ?_|refine B4 ?_ λ_ _ _=>?_|refine AU ?_ ?_)))<;>exact A0
 dsimp only[QM,lr,lc]
 (repeat' (first|with_reducible (first|refine AR (λ_=>?_) λ_=>?_|refine AG ?_)|(with_reducible apply BU;(exact q);all_goals(intro _ _;try dsimp only))|with_reducible refine AU ?_ ?_))<;>exact A0
theorem z7(l k:List ByteArray)(h:l.length<=3145728)(a:k.length<=3145728):Ok Tr (eI l k):=by
 have q:Ok Ts (Aj (XR l k) Ag 0):=by
  refine BC (λv:Nat=>v<=l.length) (λv:Nat=>l.length-v) ae (by unfold Ag;omega) λv b=>?_;dsimp only[XR,br,ix,vz,vs,Ar,ln,Af,cl,wa,Ah,br]
  (repeat' (first|with_reducible (first|refine AR (λ_=>?_) λ_=>?_|refine AG ?_|refine B4 ?_ λ_ _ _=>?_)|(with_reducible apply AO;(exact ZTR _ _ a);intro _ _)|with_reducible refine AU ?_ ?_))<;>exact A0
 dsimp only[eI,lr,lc]
 (repeat' (first|with_reducible (first|refine AR (λ_=>?_) λ_=>?_|refine AG ?_)|(with_reducible apply BU;(exact q);all_goals(intro _ _;try dsimp only))|with_reducible refine AU ?_ ?_))<;>exact A0
def M7(s:Scm)(f:Fld):Prop:=(f.type.kind=9->∃m∈s.enums,m.name=f.type.name)/\(f.type.kind=10->(∃m∈s.messages,m.name=f.type.name)/\f.card≠3)/\1<=f.type.kind/\f.type.kind<=10
theorem o92(s:Scm)(f:Fld)(h:SzS s):Ok (λb=>b=true->M7 s f) (fd s f):=by
 unfold M7;dsimp only[fd,br,wg,lr,cl,br]
 (repeat' (first|with_reducible (first|refine AR (λ_=>?_) λ_=>?_|refine AG ?_)|(with_reducible apply AO;(exact cN _ _ h);intro _ _)|(with_reducible apply AO;(exact S6 _ _ h);intro _ _)|with_reducible refine AU ?_ ?_))
 ·intro a;have d:f.type.kind=9:=Y7 (by assumption);have e:=(show _<_/\(_->∃m∈s.enums,m.name=f.type.name)by assumption).2 (Y7 a);exact⟨λ_=>e,λk=>ae,ae,ae⟩
 ·intro a;have c:f.type.kind=10:=Y7 (by assumption);rw[Yc]at a;have e:=(show _<_/\(_->∃m∈s.messages,m.name=f.type.name)by assumption).2 (Y7 a.1);exact⟨λk=>ae,λ_=>⟨e,by simpa using a.2⟩,ae,ae⟩
 ·intro a;simp only[Yc,Yr]at a;exact⟨λk=>ae,λk=>ae,ae,ae⟩
def PH(f:Fld):Prop:=f.union≠⟨#[]⟩->f.card=2
theorem o93(m:Msg)(i:Nat)(h:SzM m)(hi:i<m.fields.length):Ok (λb=>b=true->∀f,m.fields[i]?=some f->PH f) (eX m i):=by
 have hl:=h.fl;have q:∀e,Ok (Sum.elim (λb:Bool=>b=true->0<i) Tr) (Aj (XG m i e) Ag (false,0)):=by
  intro e;refine BC (λv:Bool×Nat=>v.2<=m.fields.length/\(v.1=true->0<i)) (λv:Bool×Nat=>m.fields.length-v.2) ⟨ae,by simp⟩ (B9 ae) λv k=>?_;obtain⟨b,j⟩:=v;obtain⟨c,d⟩:=k;dsimp only at c d;dsimp only[XG,br,ix,AZ,vz,wg,vs,Ar,ln,Af,wa,Ah,br]
  (repeat' (first|with_reducible (first|refine AR (λ_=>?_) λ_=>?_|refine AG ?_|refine B4 ?_ λ_ _ _=>?_|refine Hh ?_ λ_=>?_|refine AU ?_ ?_)))<;>exact A0
 dsimp only[eX,br,CB,AZ,wg,vg,lr,lc,Az,wi,br]
 (repeat' (first|with_reducible (first|refine AR (λ_=>?_) λ_=>?_|refine AG ?_|refine B4 ?_ λ_ _ _=>?_)|(with_reducible apply BU;(exact q _);all_goals(intro _ _;try dsimp only))|(with_reducible apply AO;(exact MY _ ((h.f _ (by assumption)).u));intro _ _)|(with_reducible apply Bw;(exact λ_=>MY _ ((h.f _ (by assumption)).u));intro _)|with_reducible (first|refine Hh ?_ λ_=>?_|refine AU ?_ ?_)))<;>first|(intro h;cases h;done)|(have he:=‹m.fields[i]?=some _›;intro _ f a;rw[he]at a;cases a;intro g;first|exact absurd (Y7 (by assumption)) g|(simp only[YG,YM,IF,TM,Yr,YB]at*;omega)|grind)|exact A0
def JW(f:Fld):Prop:=f.hasDefault=true->PD f.type.kind f.dflt/\f.card=2/\f.union=⟨#[]⟩
theorem o94(s:Scm)(f:Fld)(h:SzS s)(a:SzF f):Ok (λb=>b=true->JW f) (eE s f):=by
 have g:SzV (.mk 0 0 ⟨#[]⟩ [] [] [] []):=by constructor<;>decide
 have he:∀y,y∈s.enums->y.items.length<=1048576:=λy hy=>(h.e y hy).il;have q:∀y:Int,0<=y->y<s.enums.length->Ok Ts (Aj (Zt s f y) Ag 0):=by
  intro y hy k;refine BC (λv:Nat=>v<=1048576) (λv:Nat=>1048576-v) ae (B9 ae) λv l=>?_;dsimp only[Zt,br,ix,CB,vz,wg,vs,Ar,ln,Af,wa,Ah,br]
  (repeat' (first|with_reducible (first|refine AR (λ_=>?_) λ_=>?_|refine AG ?_|refine B4 ?_ λ_ _ _=>?_|refine AU ?_ ?_)))<;>exact A0
 have key:∀(c d:Bool),((!((!decide (f.card=2))||(!decide (f.union=⟨#[]⟩))))=true->c=true->PD f.type.kind f.dflt)->((((!decide (f.card=2))||(!decide (f.union=⟨#[]⟩)))||!c)||!d)=false->JW f:=λc d i j _=>by cases c<;>cases d<;>simp_all
 have e:(!f.hasDefault)=true->JW f:=λi j=>by simp_all
 dsimp only[eE,br,wg,lr,lc,cl,Az,br]
 (repeat' (first|with_reducible (first|refine AR (λ_=>?_) λ_=>?_|refine AG ?_)|(with_reducible apply BU;(exact q _ Ct Ct);all_goals(intro _ _;try dsimp only))|(with_reducible apply AO;(exact UE _ _ a.d g);intro _ _)|(with_reducible apply AO;(exact UN _ _ a.d);intro _ _)|(with_reducible apply AO;(exact uU _ a.d);intro _ _)|(with_reducible apply AO;(exact UE _ _ a.d (by solve_by_elim));intro _ _)|(with_reducible apply AO;(exact cN _ _ h);intro _ _)|(with_reducible apply Bw;(exact λ_=>UE _ _ a.d g);intro _)|(with_reducible apply Bw;(exact λ_=>UN _ _ a.d);intro _)|(with_reducible apply Bw;(exact λ_=>uU _ a.d);intro _)|(with_reducible apply Bw;(exact λ_=>UE _ _ a.d (by solve_by_elim));intro _)|(with_reducible apply Bw;(exact λ_=>cN _ _ h);intro _)|with_reducible refine AU ?_ ?_))<;>first|(intro _;exact key _ _ (by assumption) (by assumption))|(intro _;exact e (by assumption))|exact A0
theorem o87(s:Scm)(m:Msg)(l:List Bool)(h:SzS s)(hm:SzM m)(hl:l.length=s.messages.length):Ok Tr (eY s m l):=by
 have a:=hm.fl;have q:Ok Ts (Aj (XO s m l) Ag 0):=by
  refine BC (λv:Nat=>v<=m.fields.length) (λv:Nat=>m.fields.length-v) ae (B9 ae) λv b=>?_;dsimp only[XO,br,ix,AZ,vz,wg,vs,Ar,ln,Af,cl,wa,Ah,br]
  (repeat' (first|with_reducible (first|refine AR (λ_=>?_) λ_=>?_|refine AG ?_|refine B4 ?_ λ_ _ _=>?_)|(with_reducible apply AO;(exact S6 _ _ h);intro _ _)|with_reducible (first|refine Hh ?_ λ_=>?_|refine AU ?_ ?_)))<;>exact A0
 dsimp only[eY,lr,lc]
 (repeat' (first|with_reducible (first|refine AR (λ_=>?_) λ_=>?_|refine AG ?_)|(with_reducible apply BU;(exact q);all_goals(intro _ _;try dsimp only))|with_reducible refine AU ?_ ?_))<;>exact A0
theorem ri(s:Scm)(m:Msg)(l:List Bool)(h:SzS s)(hm:SzM m)(hl:l.length=s.messages.length):Ok Tr (Vr s m l):=by
 have a:=hm.fl;have q:Ok Ts (Aj (WK s m l) Ag 0):=by
  refine BC (λv:Nat=>v<=m.fields.length) (λv:Nat=>m.fields.length-v) ae (B9 ae) λv b=>?_;dsimp only[WK,br,ix,vz,wg,vs,vg,Ar,ln,Af,cl,wa,AD,F4,fl,Ah,br,AD]
  (repeat' (first|with_reducible (first|refine AR (λ_=>?_) λ_=>?_|refine AG ?_|refine B4 ?_ λ_ _ _=>?_)|(with_reducible apply AO;(exact S6 _ _ h);intro _ _)|with_reducible refine AU ?_ ?_))<;>exact A0
 dsimp only[Vr,vz,lr,lc,fl]
 (repeat' (first|with_reducible (first|refine AR (λ_=>?_) λ_=>?_|refine AG ?_)|(with_reducible apply BU;(exact q);all_goals(intro _ _;try dsimp only))|with_reducible refine AU ?_ ?_))<;>exact A0
theorem z8(s:Scm)(h:SzS s):Ok (λy=>y.length=s.messages.length) (eO s):=by
 have g:=h.ml;have q:∀(v:Nat) (r:List Bool),r.length=s.messages.length->Ok (Sum.elim (λy:Bool×List Bool=>y.2.length=s.messages.length) No) (Aj (Zk s v) Ag (false,0,r)):=by
  intro w r e;refine BC (λv:Bool×Nat×List Bool=>v.2.1<=s.messages.length/\v.2.2.length=s.messages.length) (λv:Bool×Nat×List Bool=>s.messages.length-v.2.1) ⟨by simp,e⟩ (B9 (by simp;omega)) λv d=>?_;obtain⟨b,i,r⟩:=v;obtain⟨c,a⟩:=d;dsimp only at c a;dsimp only[Zk,br,AZ,vz,vw,wg,vs,v2,ln,Af,C1,wa,ir,ca,st,rn,fl,Ah,br]
  (repeat' (first|with_reducible (first|refine AR (λ_=>?_) λ_=>?_|refine AG ?_|refine B4 ?_ λ_ _ _=>?_)|(with_reducible apply AO;(exact ri _ _ _ h (h.m _ (by grind)) a);intro _ _)|(with_reducible apply Bw;(exact λ_=>ri _ _ _ h (h.m _ (by grind)) a);intro _)|with_reducible (first|refine Hh ?_ λ_=>?_|refine AU ?_ ?_)))<;>exact A0
 have f:Ok (Sum.elim (λy:List Bool=>y.length=s.messages.length) No) (Aj (X0 s) Ag (true,0,List.replicate s.messages.length false)):=by
  refine BC (λv:Bool×Nat×List Bool=>v.2.1<=s.messages.length/\v.2.2.length=s.messages.length) (λv:Bool×Nat×List Bool=>s.messages.length-v.2.1) ⟨by simp,by simp⟩ (B9 (by simp;omega)) λv d=>?_;obtain⟨b,i,r⟩:=v;obtain⟨c,a⟩:=d;dsimp only at c a;dsimp only[X0,br,vz,wg,vs,v2,ln,Af,lc,wa,fl,Ah,br]
  (repeat' (first|with_reducible (first|refine AR (λ_=>?_) λ_=>?_|refine AG ?_)|(with_reducible apply BU;(exact q _ _ a);all_goals(intro _ _;try dsimp only))|with_reducible refine AU ?_ ?_))<;>exact A0
 dsimp only[eO,vz,wg,lr,lc,ms,fl,fr,Ah]
 (repeat' (first|with_reducible (first|refine AR (λ_=>?_) λ_=>?_|refine AG ?_)|(with_reducible apply BU;(exact f);all_goals(intro _ _;try dsimp only))|with_reducible refine AU ?_ ?_))<;>exact A0
def CF(l:List Fld)(n:Nat):Prop:=∀(i:Nat) (a b:Fld),i+1<n->l[i]?=some a->l[i+1]?=some b->a.num<b.num
theorem Zxl{l:List Fld}{v:Nat}{a b:Fld}(h:CF l v)(g:l[v]?=some a)(j:0<v->l[v-1]?=some b/\b.num<a.num):CF l (v+1):=by
 intro i x y hi hx hy;by_cases e:i+1<v
 ·exact h i x y e hx hy
 ·have d:i+1=v:=ae
  have f:v-1=i:=ae
  rw[d]at hy;obtain⟨c,k⟩:=j ae;rw[f]at c;rw[g]at hy;rw[c]at hx;cases hx;cases hy;exact k
structure GdM0 (s:Scm) (m:Msg):Prop where
 asc:CF m.fields m.fields.length
 df:∀(j:Nat) (f:Fld),m.fields[j]?=some f->JW f/\M0 f/\M7 s f/\PH f
def M6(e:Enm):Prop:=∃x,e.items[0]?=some x/\x.num=0
structure GdM (s:Scm) (m:Msg):Prop where
 asc:CF m.fields m.fields.length
 df:∀(j:Nat) (f:Fld),m.fields[j]?=some f->JW f/\M0 f/\M7 s f/\PH f
 en:∀(j:Nat) (e:Enm),s.enums[j]?=some e->M6 e
theorem ZOp(x:Msg):x.fields.length+x.reserved.length+x.gone.length<=An (AH x):=by have a:=CU (e:=As) x.fields;have b:=CU (e:=CZ) x.reserved;have c:=CU (e:=Bu) x.gone;simp only[AH,An,bk];omega
theorem ZOM(x:Enm):x.items.length+x.reserved.length<=An (BN x):=by have a:=CU (e:=CW) x.items;have b:=CU (e:=CZ) x.reserved;simp only[BN,An,bk];omega
theorem ZQj(x:Svc):x.methods.length<=An (DM x):=by have a:=CU (e:=Ic) x.methods;simp only[DM,An,bk];omega
theorem sQ(d:ByteArray)(b:Bool)(n e:Int):Ok (λy=>y.length<=1) (BH d [] b n e):=(EY d [] b n e (by simp)).mono λy h=>by simpa using h.2.1
theorem o66(s:Scm)(m:Msg)(l:List Bool)(h:SzS s)(hm:SzM m)(hl:l.length=s.messages.length):Ok (λy=>y.length<=20*(An (AH m)+1)/\(y.length=0->GdM0 s m)) (ei s m l):=by
 have g:=ZOp m;have G:=hm.fl;have q:=hm.r;have B:=hm.gl;have E:∀(v:Nat) (r:List Prb) (e:Fld),v<=m.fields.length->Ok (Sum.elim Tr No) (Aj (Xz s m l v r e) Ag (false,0)):=by
  intro w r e I;refine BC (λv:Bool×Nat=>v.2<=w) (λv:Bool×Nat=>w-v.2) (by simp) (B9 ae) λv k=>?_;obtain⟨b,i⟩:=v;dsimp only at k;dsimp only[Xz,br,ix,vz,wg,vs,ln,Af,wa,fl,br]
  (repeat' (first|with_reducible (first|refine AR (λ_=>?_) λ_=>?_|refine AG ?_|refine B4 ?_ λ_ _ _=>?_|refine AU ?_ ?_)))<;>exact A0
 have D:∀a:List Prb,a.length<=9->Ok (Sum.elim (λy:List Prb=>y.length<=9+10*m.fields.length/\(y.length=0->GdM0 s m)) No) (Aj (Xv s m l) Ag (0,a)):=by
  intro a o;refine BC (λv:Nat×List Prb=>v.1<=m.fields.length/\v.2.length<=9+10*v.1/\(v.2.length=0->CF m.fields v.1/\∀(j:Nat) (f:Fld),j<v.1->m.fields[j]?=some f->JW f/\M0 f/\M7 s f/\PH f)) (λv:Nat×List Prb=>m.fields.length-v.1) ⟨by simp,by simpa using o,λ_=>⟨λi x y hi=>by simp at hi,λj f n=>by simp at n⟩⟩ (B9 ae) λv k=>?_;obtain⟨v,r⟩:=v;obtain⟨t,u,c⟩:=k;dsimp only at t u c;dsimp only[Xv,jy,jr,jk,jO,jo,bR,bg,br,ix,AZ,vz,wg,vs,vg,ln,Af,lc,cl,Az,wa,wi,fl,Ah,br]
  (repeat' (first|with_reducible (first|refine AR (λ_=>?_) λ_=>?_|refine AG ?_|refine B4 ?_ λ_ _ _=>?_)|(with_reducible apply BU;(exact E _ _ _ ae);all_goals(intro _ _;try dsimp only))|(with_reducible apply AO;(exact EY _ _ _ _ _ ae);intro _ _)|(with_reducible apply AO;(exact MY _ (hm.f _ (by assumption)).n);intro _ _)|(with_reducible apply AO;(exact kf _ _ q);intro _ _)|(with_reducible apply AO;(exact o86 _ _ B);intro _ _)|(with_reducible apply AO;(exact o91 _);intro _ _)|(with_reducible apply AO;(exact o92 _ _ h);intro _ _)|(with_reducible apply AO;(exact o93 _ _ hm Ct);intro _ _)|(with_reducible apply AO;(exact o94 _ _ h (hm.f _ (by assumption)));intro _ _)|(with_reducible apply AO;(exact Lr _ _ _ _ _ ae (hm.f _ (by assumption)).o);intro _ _)|(with_reducible apply Bw;(exact λ_=>EY _ _ _ _ _ ae);intro _)|(with_reducible apply Bw;(exact λ_=>MY _ (hm.f _ (by assumption)).n);intro _)|(with_reducible apply Bw;(exact λ_=>kf _ _ q);intro _)|(with_reducible apply Bw;(exact λ_=>o86 _ _ B);intro _)|(with_reducible apply Bw;(exact λ_=>o91 _);intro _)|(with_reducible apply Bw;(exact λ_=>o92 _ _ h);intro _)|(with_reducible apply Bw;(exact λ_=>o93 _ _ hm Ct);intro _)|(with_reducible apply Bw;(exact λ_=>o94 _ _ h (hm.f _ (by assumption)));intro _)|(with_reducible apply Bw;(exact λ_=>Lr _ _ _ _ _ ae (hm.f _ (by assumption)).o);intro _)|with_reducible (first|refine Hh ?_ λ_=>?_|refine AU ?_ ?_)))
  all_goals try exact Ct
  have hx:=‹decide (0<(v:Int))=true->m.fields[((v:Int)-1).toNat]?=some (m.fields.getD ((v:Int)-1).toNat Rw.z)/\_›;have he:=‹m.fields[v]?=some _›;dsimp only;refine⟨⟨by exact Ct,ae,λp=>⟨Zxl (b:=m.fields.getD ((v:Int)-1).toNat Rw.z) (c ae).1 he λk=>?_,λj f n d=>?_⟩⟩,by exact Ct⟩;have ev:((v:Int)-1).toNat=v-1:=ae
  refine⟨ev▸(hx (Yp ae)).1,?_⟩;rcases Int.lt_or_le (m.fields.getD ((v:Int)-1).toNat Rw.z).num (Fld.num _)with A|z
  ·exact A
  ·exfalso;have H:=Yc _ _▸And.intro (Yp (show(0:Int)<v by omega)) (Yp z);grind
  ·rcases Nat.lt_or_eq_of_le (Nat.le_of_lt_succ n)with n|rfl
   ·exact(c ae).2 j f n d
   ·rw[he]at d;cases d;refine⟨(show _=true->JW _ by assumption) (PJ λg=>?_),(show _=true->M0 _ by assumption) (PJ λg=>?_),(show _=true->M7 s _ by assumption) (PJ λg=>?_),(show _=true->∀f,m.fields[j]?=some f->PH f by assumption) (PJ λg=>?_) _ he⟩
    all_goals(
     rw[Bool.not_eq_true]at g;subst g;simp only[YS,J9]at*;omega)
  have C:v=m.fields.length:=by exact Ct
  subst C;exact⟨by exact Ct,λp=>⟨(c p).1,λj f d=>(c p).2 j f (Yb.1 d).1 d⟩⟩
 have F:∀a:List Prb,a.length<=20000000->Ok (Sum.elim (λy:List Prb=>a.length<=y.length/\y.length<=a.length+m.gone.length) No) (Aj (X3 s m l) Ag (0,a)):=by
  intro a o;refine BC (λv:Nat×List Prb=>v.1<=m.gone.length/\v.2.length<=a.length+v.1/\a.length<=v.2.length) (λv:Nat×List Prb=>m.gone.length-v.1) ⟨by simp,by simp,by simp⟩ (B9 ae) λv k=>?_;obtain⟨v,r⟩:=v;obtain⟨t,u,c⟩:=k;dsimp only at t u c;dsimp only[X3,br,ix,vz,wg,vs,ln,Af,lc,cl,wa,fl,Ah,br]
  (repeat' (first|with_reducible (first|refine AR (λ_=>?_) λ_=>?_|refine AG ?_|refine B4 ?_ λ_ _ _=>?_)|(with_reducible apply AO;(exact EY _ _ _ _ _ ae);intro _ _)|(with_reducible apply AO;(exact kg _ (hm.g _ (by assumption)));intro _ _)|with_reducible refine AU ?_ ?_))<;>exact A0
 dsimp only[ei,vz,vy,vw,wg,lr,lc,cl,fl,fr,Ah]
 (repeat' (first|with_reducible (first|refine AR (λ_=>?_) λ_=>?_|refine AG ?_)|(with_reducible apply BU;(exact D _ Ct);all_goals(intro _ _;try dsimp only))|(with_reducible apply BU;(exact F _ ae);all_goals(intro _ _;try dsimp only))|(with_reducible apply AO;(exact ke _ hm.n);intro _ _)|(with_reducible apply AO;(exact sQ _ _ _ _);intro _ _)|(with_reducible apply AO;(exact EY _ _ _ _ _ ae);intro _ _)|(with_reducible apply AO;(exact Lr _ _ _ _ _ ae hm.o);intro _ _)|(with_reducible apply AO;(exact o96 _ _ _ _ _ ae q);intro _ _)|(with_reducible apply AO;(exact o87 _ _ _ h hm hl);intro _ _)|with_reducible refine AU ?_ ?_))<;>exact A0
theorem o67(e:Enm)(hm:SzE e):Ok (λy=>y.length<=20*(An (BN e)+1)/\(y.length=0->M6 e)) (ez e):=by
 have A:=ZOM e;have z:=hm.il;have g:=hm.r;have q:∀(v:Nat) (r:List Prb) (x:Itm),v<=e.items.length->Ok (Sum.elim Tr No) (Aj (Zw e v r x) Ag (false,0)):=by
  intro w r x B;refine BC (λv:Bool×Nat=>v.2<=w) (λv:Bool×Nat=>w-v.2) (by simp) (B9 ae) λv f=>?_;obtain⟨b,i⟩:=v;dsimp only at f;dsimp only[Zw,br,ix,vz,wg,vs,ln,Af,wa,fl,br]
  (repeat' (first|with_reducible (first|refine AR (λ_=>?_) λ_=>?_|refine AG ?_|refine B4 ?_ λ_ _ _=>?_|refine AU ?_ ?_)))<;>exact A0
 have p:∀a:List Prb,a.length<=9->Ok (Sum.elim (λy:List Prb=>a.length<=y.length/\y.length<=9+10*e.items.length) No) (Aj (X9 e) Ag (0,a)):=by
  intro a d;refine BC (λv:Nat×List Prb=>v.1<=e.items.length/\a.length<=v.2.length/\v.2.length<=9+10*v.1) (λv:Nat×List Prb=>e.items.length-v.1) ⟨by simp,by simp,by simpa using d⟩ (B9 ae) λv f=>?_;obtain⟨v,r⟩:=v;obtain⟨m,o,n⟩:=f;dsimp only at m n o;dsimp only[X9,jF,jm,bx,br,ix,AZ,vz,wg,vs,vg,ln,Af,lc,cl,wa,wi,fl,Ah,br]
  (repeat' (first|with_reducible (first|refine AR (λ_=>?_) λ_=>?_|refine AG ?_|refine B4 ?_ λ_ _ _=>?_)|(with_reducible apply BU;(exact q _ _ _ ae);all_goals(intro _ _;try dsimp only))|(with_reducible apply AO;(exact EY _ _ _ _ _ ae);intro _ _)|(with_reducible apply AO;(exact MY _ (hm.i _ (by assumption)).n);intro _ _)|(with_reducible apply AO;(exact kf _ _ g);intro _ _)|(with_reducible apply AO;(exact Lr _ _ _ _ _ ae (hm.i _ (by assumption)).o);intro _ _)|with_reducible (first|refine Hh ?_ λ_=>?_|refine AU ?_ ?_)))<;>exact A0
 dsimp only[ez,AZ,vz,vy,vw,wg,lr,lc,cl,fl,fr,Ah]
 (repeat' (first|with_reducible (first|refine AR (λ_=>?_) λ_=>?_|refine AG ?_)|(with_reducible apply BU;(exact p _ Ct);all_goals(intro _ _;try dsimp only))|(with_reducible apply AO;(exact ke _ hm.n);intro _ _)|(with_reducible apply AO;(exact EY _ _ _ _ _ Ct);intro _ _)|(with_reducible apply AO;(exact Lr _ _ _ _ _ ae hm.o);intro _ _)|(with_reducible apply AO;(exact o96 _ _ _ _ _ ae g);intro _ _)|with_reducible (first|refine Hh ?_ λ_=>?_|refine AU ?_ ?_)))
 all_goals try exact A0
 rename_i C a0 D a1 E k x F a3 b a4 G s H t;refine⟨by exact Ct,λu=>?_⟩;have l:¬(e.items.length:Int)<1:=λh=>by have:=k.2.2 (by simp only[h,Yn,HN]);omega
 have j:(0:Int)<e.items.length:=ae
 refine⟨_,(x (Yp j)).1,Decidable.not_not.1 λc=>?_⟩;have:=a3.2.2 (by simp only[j,c,Yn,YC,YS,Iz]);omega
theorem o68(s:Scm)(e:Svc)(h:SzS s)(hm:SzW e):Ok (λy=>y.length<=20*(An (DM e)+1)) (eh s e):=by
 have j:=ZQj e;have i:=hm.ml;have g:∀b:List Prb,b.length<=9->Ok (Sum.elim (λy:List Prb=>y.length<=9+10*e.methods.length) No) (Aj (X2 s e) Ag (0,b)):=by
  intro b a;refine BC (λv:Nat×List Prb=>v.1<=e.methods.length/\v.2.length<=9+10*v.1) (λv:Nat×List Prb=>e.methods.length-v.1) ⟨by simp,by simpa using a⟩ (B9 ae) λv f=>?_;obtain⟨v,r⟩:=v;obtain⟨c,d⟩:=f;dsimp only at c d;dsimp only[X2,bv,br,ix,AZ,vz,wg,vs,vg,ln,Af,lc,cl,Az,wa,wi,fl,Ah,br]
  (repeat' (first|with_reducible (first|refine AR (λ_=>?_) λ_=>?_|refine AG ?_|refine B4 ?_ λ_ _ _=>?_)|(with_reducible apply AO;(exact EY _ _ _ _ _ ae);intro _ _)|(with_reducible apply AO;(exact S6 _ _ h);intro _ _)|(with_reducible apply AO;(exact MY _ (hm.m _ (by assumption)).n);intro _ _)|(with_reducible apply AO;(exact Lr _ _ _ _ _ ae (hm.m _ (by assumption)).o);intro _ _)|(with_reducible apply Bw;(exact λ_=>EY _ _ _ _ _ ae);intro _)|(with_reducible apply Bw;(exact λ_=>S6 _ _ h);intro _)|(with_reducible apply Bw;(exact λ_=>MY _ (hm.m _ (by assumption)).n);intro _)|(with_reducible apply Bw;(exact λ_=>Lr _ _ _ _ _ ae (hm.m _ (by assumption)).o);intro _)|with_reducible (first|refine Hh ?_ λ_=>?_|refine AU ?_ ?_)))<;>exact A0
 dsimp only[eh,vz,vw,wg,lr,lc,cl,fl,fr,Ah]
 (repeat' (first|with_reducible (first|refine AR (λ_=>?_) λ_=>?_|refine AG ?_)|(with_reducible apply BU;(exact g _ Ct);all_goals(intro _ _;try dsimp only))|(with_reducible apply AO;(exact ke _ hm.n);intro _ _)|(with_reducible apply AO;(exact sQ _ _ _ _);intro _ _)|(with_reducible apply AO;(exact EY _ _ _ _ _ ae);intro _ _)|(with_reducible apply AO;(exact Lr _ _ _ _ _ ae hm.o);intro _ _)|with_reducible refine AU ?_ ?_))<;>exact A0
structure Few (s:Scm):Prop where
 m:s.messages.length<=150
 e:s.enums.length<=150
 w:s.services.length<=150
theorem o37{s:Scm}(hs:An (Al s)<=1048576):Ok (λy=>y.length=0->(∀(i:Nat) (m:Msg),s.messages[i]?=some m->GdM0 s m)/\∀(i:Nat) (e:Enm),s.enums[i]?=some e->M6 e) (fc s):=by
 have h:=DR hs;have u:=h.ml;have w:=h.el;have x:=h.wl;have t:AS (s.messages.map AH)+AS (s.enums.map BN)+AS (s.services.map DM)<=1048576:=by simp only[Al,An,bk]at hs;omega
 have n:Ok (Sum.elim (λy:List Prb=>y.length<=9) No) (Aj (Zh s) Ag (1,[])):=by
  refine BC (λv:Nat×List Prb=>1<=v.1/\v.1<=4/\v.2.length<=2*v.1) (λv:Nat×List Prb=>4-v.1) ⟨by simp,by simp,by simp⟩ (B9 ae) λv g=>?_;obtain⟨v,r⟩:=v;obtain⟨c,d,f⟩:=g;dsimp only at c d f;dsimp only[Zh,br,vz,wg,vs,ln,Af,lc,cl,wa,fl,Ah,br]
  (repeat' (first|with_reducible (first|refine AR (λ_=>?_) λ_=>?_|refine AG ?_)|(with_reducible apply AO;(exact kc _ _ h);intro _ _)|(with_reducible apply AO;(exact EY _ _ _ _ _ ae);intro _ _)|(with_reducible apply AO;(exact o63 _ (by assumption));intro _ _)|with_reducible refine AU ?_ ?_))<;>exact A0
 have o:∀(a:List Prb) (l:List Bool),a.length<=10->l.length=s.messages.length->Ok (Sum.elim (λy:List Prb=>y.length<=20971540/\(y.length=0->∀(i:Nat) (m:Msg),s.messages[i]?=some m->GdM0 s m)) No) (Aj (Zm s l) Ag (0,a)):=by
  intro a l b hl;refine BC (λv:Nat×List Prb=>v.1<=s.messages.length/\v.2.length<=10+20*AS ((s.messages.take v.1).map AH)/\(v.2.length=0->∀(i:Nat) (m:Msg),i<v.1->s.messages[i]?=some m->GdM0 s m)) (λv:Nat×List Prb=>s.messages.length-v.1) ⟨by simp,EF b (PY _ _),λ_ i m hi=>by simp at hi⟩ (B9 ae) λv g=>?_;obtain⟨v,r⟩:=v;obtain⟨c,d,f⟩:=g;dsimp only at c d f;have a1:=Om AH s.messages v;have j:=Om AH s.messages (v+1);dsimp only[Zm,bQ,bt,br,ix,vz,wg,vs,ln,Af,lc,aq,cl,wa,tw,fl,Ah,br]
  (repeat' (first|with_reducible (first|refine AR (λ_=>?_) λ_=>?_|refine AG ?_|refine B4 ?_ λ_ _ _=>?_)|(with_reducible apply AO;(exact o66 _ _ _ h (h.m _ (by assumption)) hl);intro _ _)|with_reducible refine AU ?_ ?_))<;>first|(have a3:=Wh AH ‹s.messages[v]?=some _›;exact A0)|exact A0
 have p:∀a:List Prb,a.length<=20971540->Ok (Sum.elim (λy:List Prb=>a.length<=y.length/\y.length<=41943080/\(y.length=0->∀(i:Nat) (e:Enm),s.enums[i]?=some e->M6 e)) No) (Aj (T8 s) Ag (0,a)):=by
  intro a b;refine BC (λv:Nat×List Prb=>v.1<=s.enums.length/\v.2.length<=20971540+20*AS ((s.enums.take v.1).map BN)/\a.length<=v.2.length/\(v.2.length=0->∀(i:Nat) (e:Enm),i<v.1->s.enums[i]?=some e->M6 e)) (λv:Nat×List Prb=>s.enums.length-v.1) ⟨by simp,EF b (PY _ _),by simp,λ_ i e hi=>by simp at hi⟩ (B9 ae) λv g=>?_;obtain⟨v,r⟩:=v;obtain⟨c,d,f,k⟩:=g;dsimp only at c d f k;have a1:=Om BN s.enums v;have j:=Om BN s.enums (v+1);dsimp only[T8,jt,jH,br,ix,vz,wg,vs,ln,Af,lc,aq,cl,wa,tw,fl,Ah,br]
  (repeat' (first|with_reducible (first|refine AR (λ_=>?_) λ_=>?_|refine AG ?_|refine B4 ?_ λ_ _ _=>?_)|(with_reducible apply AO;(exact o67 _ (h.e _ (by assumption)));intro _ _)|with_reducible refine AU ?_ ?_))<;>first|(have a3:=Wh BN ‹s.enums[v]?=some _›;exact A0)|exact A0
 have q:∀a:List Prb,a.length<=41943080->Ok (Sum.elim (λy:List Prb=>a.length<=y.length) No) (Aj (Zo s) Ag (0,a)):=by
  intro a b;refine BC (λv:Nat×List Prb=>v.1<=s.services.length/\v.2.length<=41943080+20*AS ((s.services.take v.1).map DM)/\a.length<=v.2.length) (λv:Nat×List Prb=>s.services.length-v.1) ⟨by simp,EF b (PY _ _),by simp⟩ (B9 ae) λv g=>?_;obtain⟨v,r⟩:=v;obtain⟨c,d,f⟩:=g;dsimp only at c d f;have a1:=Om DM s.services v;have j:=Om DM s.services (v+1);dsimp only[Zo,i6,jD,br,ix,vz,wg,vs,ln,Af,lc,aq,cl,wa,tw,fl,Ah,br]
  (repeat' (first|with_reducible (first|refine AR (λ_=>?_) λ_=>?_|refine AG ?_|refine B4 ?_ λ_ _ _=>?_)|(with_reducible apply AO;(exact o68 _ _ h (h.w _ (by assumption)));intro _ _)|with_reducible refine AU ?_ ?_))<;>first|(have a3:=Wh DM ‹s.services[v]?=some _›;exact A0)|exact A0
 dsimp only[fc,vz,vw,wg,lr,lc,cl,Az,fl,fr]
 (repeat' (first|with_reducible (first|refine AR (λ_=>?_) λ_=>?_|refine AG ?_)|(with_reducible apply BU;(exact n);all_goals(intro _ _;try dsimp only))|(with_reducible apply BU;(exact o _ _ ae (by assumption));all_goals(intro _ _;try dsimp only))|(with_reducible apply BU;(exact p _ ae);all_goals(intro _ _;try dsimp only))|(with_reducible apply BU;(exact q _ ae);all_goals(intro _ _;try dsimp only))|(with_reducible apply AO;(exact kc _ _ h);intro _ _)|(with_reducible apply AO;(exact z7 _ _ (by assumption) (by assumption));intro _ _)|(with_reducible apply AO;(exact z8 _ h);intro _ _)|(with_reducible apply AO;(exact EY _ _ _ _ _ ae);intro _ _)|(with_reducible apply Bw;(exact λ_=>kc _ _ h);intro _)|(with_reducible apply Bw;(exact λ_=>z7 _ _ (by assumption) (by assumption));intro _)|(with_reducible apply Bw;(exact λ_=>z8 _ h);intro _)|(with_reducible apply Bw;(exact λ_=>EY _ _ _ _ _ ae);intro _)|with_reducible refine AU ?_ ?_))<;>exact A0
theorem o16{s:Scm}(hs:An (Al s)<=1048576):Ok (λb=>b=true->∀(i:Nat) (m:Msg),s.messages[i]?=some m->GdM s m) (Vn s):=by
 have k:Ok (λb=>b=true->(∀(i:Nat) (m:Msg),s.messages[i]?=some m->GdM0 s m)/\∀(i:Nat) (e:Enm),s.enums[i]?=some e->M6 e) (Vn s):=by
  dsimp only[Vn,vz,wg,lr,cl,Ah]
  (repeat' (first|with_reducible (first|refine AR (λ_=>?_) λ_=>?_|refine AG ?_)|(with_reducible apply AO;(exact o37 hs);intro _ _)|with_reducible refine AU ?_ ?_))<;>exact A0
 exact k.mono λb h a i m hm=>⟨((h a).1 i m hm).asc,((h a).1 i m hm).df,(h a).2⟩
abbrev AN(v:Val):Prop:=An (Ae v)<=1048576
theorem I1{v x:Val}(h:AN v)(hx:x∈v.list):AN x:=by
 have a:=Dr (e:=AE) hx;rw[Hj]at a;unfold AN at*
 conv at h=>unfold Ae
 simp only[An,bk]at h;omega
theorem DJ{v:Val}{x:Pr}(h:AN v)(hx:x∈v.pairs):AN x.key/\AN x.val:=by
 have a:=Dr (e:=Ap) hx;have e:Ap x=Ae x.key++Ae x.val:=by rw[Mw];rfl
 rw[e,On]at a;unfold AN at*
 conv at h=>unfold Ae
 simp only[An,bk]at h;omega
theorem GC{v:Val}{x:Slt}(h:AN v)(hx:x∈v.slots):AN x.val:=by
 have a:=Dr (e:=Am) hx;have e:Am x=D.int .i64 x.num::Ae x.val:=by rw[Mn];rfl
 rw[e,An]at a;unfold AN at*
 conv at h=>unfold Ae
 simp only[An,bk]at h;omega
theorem h9{α:Type}(p:α->Bool):∀l:List α,l.find? p=(l.findIdx? p).bind λi=>l[i]?
 |[]=>rfl
 |x::l=>by
  rw[List.find?_cons,List.findIdx?_cons];cases h:p x with
  |true=>simp
  |false=>
   rw[h9 p l];cases List.findIdx? p l<;>simp
def Dt{α:Type}[Inhabited α](l:List α)(z:α)(p:α->Bool):α×Bool:=(l.find? p).elim (z,false) λx=>(x,true)
theorem Ou{α:Type}[Inhabited α](l:List α)(z:α)(p:α->Bool):Dt l z p=match l.findIdx? p with|some i=>(l.getD i default,true)|none=>(z,false):=by
 unfold Dt;rw[h9];cases h:l.findIdx? p with
 |none=>rfl
 |some i=>
  have:=(Nc.1 h).1;simp[this]
def zM:Msg:=.mk ⟨#[]⟩ [] [] [] []
def zF:Fld:=.mk 0 ⟨#[]⟩ 0 0 (.mk 0 ⟨#[]⟩) ⟨#[]⟩ false (.mk 0 0 ⟨#[]⟩ [] [] [] []) []
theorem j7(s:Scm)(n:ByteArray)(h:s.messages.length<=1048576):NR s n=some (Dt s.messages zM λm=>decide (m.name=n)):=by
 have c:=Ep (B:=Sw s n) (N:=Ag) s.messages (λm=>decide (m.name=n)) (λi=>(s.messages.getD i default,true)) () (λi x hx=>by
  have a:=A5 hx;have d:=(Yb.1 hx).1;have b:i+1<9223372036854775808:=ae
  dsimp only[Sw,br,ix,vz,wg,vs,Ar,ln,Af,wa,Ah,br];simp only[a,b,hx,Yn,Yq,Ya,Yj,YK];cases decide (x.name=n)<;>simp) (by simp[Sw,br,ix,vz,wg,vs,Ar,ln,Af,wa,Ah,br]) (AM ae)
 dsimp only[NR,wg,lr,lc];rw[c,Ou];cases s.messages.findIdx? λm=>decide (m.name=n)<;>rfl
theorem m84(l:List Msg)(n:ByteArray)(h:l.length<=1048576):Vm l (λz=>NW z n)=some (Dt l zM λm=>decide (m.name=n)):=by
 have c:=Ep (B:=SF l λz=>NW z n) (N:=Ag) l (λm=>decide (m.name=n)) (λi=>(l.getD i default,true)) () (λi x hx=>by
  have a:=A5 hx;have d:=(Yb.1 hx).1;have b:i+1<9223372036854775808:=ae
  have e:NW x n=some (decide (x.name=n)):=rfl;dsimp only[SF,br,ix,wg,vs,Ar,ln,Af,cf,wa,br];simp only[a,b,hx,e,Yn,Yq,Ya,Yj,YK];cases decide (x.name=n)<;>simp) (by simp[SF,br,ix,wg,vs,Ar,ln,Af,cf,wa,br]) (AM ae)
 dsimp only[Vm,vz,wg,lr,lc,Ah];rw[c,Ou];cases l.findIdx? λm=>decide (m.name=n)<;>rfl
theorem Ms{s:Scm}(h:SzS s)(n:ByteArray):(Dt s.messages zM λm=>decide (m.name=n)).1.fields.length<=1048576:=by
 unfold Dt;cases e:s.messages.find? λm=>decide (m.name=n)with
 |none=>simp[zM]
 |some m=>exact(h.m _ (J5 e)).fl
theorem Zr{v x:Val}(hx:x∈v.list):An (Ae x)<An (Ae v):=by
 have a:=Dr (e:=AE) hx;rw[Hj]at a
 conv=>rhs;unfold Ae
 simp only[An,bk];omega
theorem MP{v:Val}{x:Pr}(hx:x∈v.pairs):An (Ae x.key)<An (Ae v)/\An (Ae x.val)<An (Ae v):=by
 have b:=Dr (e:=Ap) hx;have e:Ap x=Ae x.key++Ae x.val:=by rw[Mw];rfl
 rw[e,On]at b;have a:An (Ae v)=An [.int .i64 v.kind,.int .u64 v.bits,.str v.text,.list (v.list.map AE),.list (v.pairs.map Ap),.list (v.slots.map Am),.list (v.raws.map Aw)]:=rfl;rw[a];simp only[An,bk];omega
theorem XB{v:Val}{x:Slt}(hx:x∈v.slots):An (Ae x.val)<An (Ae v):=by
 have a:=Dr (e:=Am) hx;have e:Am x=D.int .i64 x.num::Ae x.val:=by rw[Mn];rfl
 rw[e,An]at a;have b:An (Ae v)=An [.int .i64 v.kind,.int .u64 v.bits,.str v.text,.list (v.list.map AE),.list (v.pairs.map Ap),.list (v.slots.map Am),.list (v.raws.map Aw)]:=rfl;rw[b];simp only[An,bk]at a⊢;omega
def Bh(F:List Fld)(k:Int):Fld×Bool:=Dt F zF λf=>decide (f.num=k)
def AC(F:List Fld)(k:Int):Fld:=(Bh F k).1
def AA(s:Scm)(n:ByteArray):List Fld:=(Dt s.messages zM λm=>decide (m.name=n)).1.fields
theorem ZK(s:Scm)(n:ByteArray)(h:s.messages.length<=1048576):Mb s n=some (Dt s.messages zM λm=>decide (m.name=n)):=by dsimp only[Mb,wg,lr,cs];rw[m84 _ _ h];rfl
theorem n74(l:List Fld)(k:Int)(h:l.length<=1048576):Vs l (λz=>NZ z k)=some (Bh l k):=by
 have c:=Ep (B:=SU l λz=>NZ z k) (N:=Ag) l (λf=>decide (f.num=k)) (λi=>(l.getD i default,true)) () (λi x hx=>by
  have a:=A5 hx;have d:=(Yb.1 hx).1;have b:i+1<9223372036854775808:=ae
  have e:NZ x k=some (decide (x.num=k)):=rfl;dsimp only[SU,br,ix,wg,vs,Ar,ln,Af,cf,wa,br];simp only[a,b,hx,e,Yn,Yq,Ya,Yj,YK];cases decide (x.num=k)<;>simp) (by simp[SU,br,ix,wg,vs,Ar,ln,Af,cf,wa,br]) (AM ae)
 dsimp only[Vs,vz,wg,lr,lc,Ah];unfold Bh;rw[c,Ou];cases l.findIdx? λm=>decide (m.num=k)<;>rfl
theorem S5(m:Msg)(k:Int)(h:m.fields.length<=1048576):fR m k=some (Bh m.fields k):=by dsimp only[fR,wg,lr,cs];rw[n74 _ _ h];rfl
theorem j9(m:Msg)(k:Int)(h:m.fields.length<=1048576):eH m k=some (Bh m.fields k):=by
 have c:=Ep (B:=RP m k) (N:=Ag) m.fields (λf=>decide (f.num=k)) (λi=>(m.fields.getD i default,true)) () (λi x hx=>by
  have a:=A5 hx;have d:=(Yb.1 hx).1;have b:i+1<9223372036854775808:=ae
  dsimp only[RP,br,ix,vz,wg,vs,Ar,ln,Af,wa,Ah,br];simp only[a,b,hx,Yn,Yq,Ya,Yj,YK];cases decide (x.num=k)<;>simp) (by simp[RP,br,ix,vz,wg,vs,Ar,ln,Af,wa,Ah,br]) (AM ae)
 dsimp only[eH,wg,lr,lc];unfold Bh;rw[c,Ou];cases m.fields.findIdx? λf=>decide (f.num=k)<;>rfl
def Do{α:Type}(l:List α)(p:α->Bool):Int:=match l.findIdx? p with
 |some i=>(i:Int)
 |none=>-1
theorem yp{α:Type}(l:List α)(p:α->Bool):decide (0<=Do l p)=l.any p:=by
 unfold Do;rw[<-LB];cases l.findIdx? p with
 |none=>rfl
 |some i=>simp
theorem z2(l:List Slt)(f:Slt->Option Bool)(p:Slt->Bool)(d:∀x∈l,f x=some (p x))(h:l.length<4611686018427387904):QR l f=some (Do l p):=by
 have e:=Ep (B:=SY l f) (N:=Ag) l p (λi=>(i:Int)) () (λi x hx=>by
  have a:=A5 hx;have g:=(Yb.1 hx).1;have b:i+1<9223372036854775808:=ae
  have c:=d x (Yg hx);dsimp only[SY,br,ix,vs,Ar,ln,Af,cf,wa,br];simp only[a,b,c,hx,Yn,Yq,Ya];cases p x<;>simp) (by simp[SY,br,ix,vs,Ar,ln,Af,cf,wa,br]) (AM h)
 dsimp only[QR,vz,lr,lc,Ah];rw[e];unfold Do;cases l.findIdx? p<;>rfl
def Bt(l:List Slt)(k:Int):Bool:=l.any λx=>decide (x.num=k)
theorem n19(v:Val)(k:Int)(h:v.slots.length<4611686018427387904):fC v k=some (Bt v.slots k):=by dsimp only[fC,wg,lr,cl,vu,lr,cs];rw[z2 v.slots (λz=>VF z k) (λx=>decide (x.num=k)) (λx _=>rfl) h];simp only[Ya];rw[yp];rfl
theorem pi{v:Val}{x:Raw}(h:AN v)(hx:x∈v.raws):x.data.size<=1048576:=by
 have a:=Dr (e:=Aw) hx;unfold AN at h
 conv at h=>unfold Ae
 simp only[An,bk,Aw]at h a;omega
theorem Mk{F:List Fld}{k:Int}(h:(Bh F k).2=true):(AC F k).num=k:=by
 unfold AC Bh Dt at*;cases e:F.find? λf=>decide (f.num=k)with
 |none=>rw[e]at h;cases h
 |some f=>exact Y7 (p:=f.num=k) (aR (p:=λf:Fld=>decide (f.num=k)) e)
abbrev XD:=Scm->Fld->Val->Int->Bool->Option Int
def BR{α:Type}(f:Nat->α->Int):List α->Nat->Int
 |[],_=>0
 |x::l,i=>if f i x=0 then BR f l (i+1)else f i x
theorem IW{α:Type}(f:Nat->α->Int):∀(l:List α) (i:Nat),BR f l i=0↔∀(j:Nat) (x:α),l[j]?=some x->f (i+j) x=0
 |[],i=>by simp[BR]
 |x::l,i=>by
  unfold BR;have a:=IW f l (i+1);by_cases h:f i x=0
  ·rw[Yi h,a];constructor
   ·intro k j y hy;cases j with
    |zero=>cases hy;exact h
    |succ j=>have:=k j y hy;rw[show i+(j+1)=i+1+j by omega];exact this
   ·intro k j y hy;have:=k (j+1) y hy;rw[show i+(j+1)=i+1+j by omega]at this;exact this
  ·rw[Yh h];exact⟨λe=>absurd e h,λk=>k 0 x rfl⟩
theorem HW{α ξ ρ:Type}{B:Nat->Option (Lv Nat ξ ρ)}{N:Nat}(l:List α)(f:Nat->α->Int)(r:Int->ρ)(e:ξ)
  (hs:∀(i:Nat) (x:α),l[i]?=some x->(∀(j:Nat) (y:α),j<i->l[j]?=some y->f j y=0)->B i=some (if f i x=0 then .nx (i+1)else .rt (r (f i x))))
  (he:B l.length=some (.ex e)) (hN:l.length<N):Aj B N 0=some (if BR f l 0=0 then .inl e else .inr (r (BR f l 0))):=by
 suffices H:∀k i N,i+k=l.length->(∀(j:Nat) (y:α),j<i->l[j]?=some y->f j y=0)->k<N->Aj B N i=some (if BR f (l.drop i) i=0 then .inl e else .inr (r (BR f (l.drop i) i)))by have:=H l.length 0 N ae (λj y c=>absurd c ae) hN;rwa [HQ]at this
 intro k
 induction k with
 |zero=>
  intro i N hi _ hN;obtain⟨N,rfl⟩:∃m,N=m+1:=⟨N-1,ae⟩;have:i=l.length:=ae
  subst this;rw[Aj,he,TT];rfl
 |succ k d=>
  intro i N hi b hN;obtain⟨N,rfl⟩:∃m,N=m+1:=⟨N-1,ae⟩;have a:i<l.length:=ae
  rw[Aj,hs i l[i] (Ye a) b,IH a,BR];by_cases h:f i l[i]=0
  ·rw[Yi h,Yi h];refine d (i+1) N ae (λj y c hy=>?_) ae;by_cases e:j=i
   ·subst e;rw[Ye a]at hy;cases hy;exact h
   ·exact b j y ae hy
  ·rw[Yh h,Yh h,Yh h]
def BF(v:Val):Bool:=decide ((v.kind≠11/\0<v.list.length)\/(v.kind≠12/\0<v.pairs.length)\/(v.kind≠10/\(0<v.slots.length\/0<v.raws.length))\/(v.text≠⟨#[]⟩/\¬(v.kind=7\/v.kind=8))\/(v.bits≠0/\(v.kind=7\/v.kind=8\/v.kind=10\/v.kind=11\/v.kind=12)))
def CH(x:ByteArray)(p:Nat)(lo hi:Nat):Bool:=decide (p<x.size)&&decide (lo<=(x.get! p).toNat)&&decide ((x.get! p).toNat<=hi)
def B2(x:ByteArray)(p:Nat):Nat:=
 let b:=(x.get! p).toNat
 if b<0x80 then 1
 else if 0xc2<=b/\b<=0xdf/\CH x (p+1) 0x80 0xbf=true then 2
 else if b=0xe0/\CH x (p+1) 0xa0 0xbf=true/\CH x (p+2) 0x80 0xbf=true then 3
 else if b=0xed/\CH x (p+1) 0x80 0x9f=true/\CH x (p+2) 0x80 0xbf=true then 3
 else if 0xe1<=b/\b<=0xef/\b≠0xed/\CH x (p+1) 0x80 0xbf=true/\CH x (p+2) 0x80 0xbf=true then 3
 else if b=0xf0/\CH x (p+1) 0x90 0xbf=true/\CH x (p+2) 0x80 0xbf=true/\CH x (p+3) 0x80 0xbf=true then 4
 else if 0xf1<=b/\b<=0xf3/\CH x (p+1) 0x80 0xbf=true/\CH x (p+2) 0x80 0xbf=true/\CH x (p+3) 0x80 0xbf=true then 4
 else if b=0xf4/\CH x (p+1) 0x80 0x8f=true/\CH x (p+2) 0x80 0xbf=true/\CH x (p+3) 0x80 0xbf=true then 4
 else 0
def GK(x:ByteArray):Nat->Nat->Bool
 |0,_=>true
 |n+1,p=>if p<x.size then(if B2 x p=0 then false else GK x n (p+B2 x p))else true
def EQ(x:ByteArray):Bool:=GK x (x.size+1) 0
def Jr(n b:Int):Bool:=if n=1 then decide (b<=1)else if n=2 then decide (-2147483648<=IntKind.i64.wrap b/\IntKind.i64.wrap b<=2147483647)else if n=4 then decide (b<=4294967295)else if n=9 then decide (b<=2147483647)else true
def Fp(v:Val):Bool:=decide (v.list.length=0/\v.pairs.length=0/\v.slots.length=0/\v.raws.length=0)
def DN(n:Int):Bool:=decide (n=7\/n=8)
def F2(n:Int)(v:Val):Bool:=decide (1<=n/\n<=9/\v.kind=n)&&Fp v&&(if DN n then decide (v.bits=0/\v.text.size<=4096)&&(decide (n=8)||EQ v.text)else decide (v.text=⟨#[]⟩)&&Jr n v.bits)
def CA(n:Int)(v:Val):Int:=if v.kind≠n\/BF v=true then 12 else if 4096<v.text.size then 3 else if F2 n v=true then 0 else if n=7 then 7 else 12
def zE:Enm:=.mk ⟨#[]⟩ false [] [] []
def AK(s:Scm)(n:ByteArray):Msg×Bool:=Dt s.messages zM λm=>decide (m.name=n)
def Cg(s:Scm)(n:ByteArray):Enm×Bool:=Dt s.enums zE λe=>decide (e.name=n)
def GZ(e:Enm)(b:Int):Bool:=e.items.any λx=>decide (IntKind.u64.wrap x.num=b)
def BL(R:Msg->Val->Int)(s:Scm)(t:Typ)(v:Val):Int:=
 if t.kind=10 then(if(AK s t.name).2=true then R (AK s t.name).1 v else 10)
 else if t.kind<1\/9<t.kind then 12
 else if CA t.kind v≠0\/t.kind≠9 then CA t.kind v
 else if(Cg s t.name).2=false then 10
 else if(Cg s t.name).1.opn=false/\GZ (Cg s t.name).1 v.bits=false then 16 else 0
def FY(a b:Val):Bool:=decide (a.bits=b.bits)&&decide (a.text=b.text)
def GL(E:Val->Int)(key:Int)(k:Bool)(l:List Pr)(i:Nat)(p:Pr):Int:=
 if CA key p.key≠0 then CA key p.key else if k=true/\((l.take i).any λq=>FY q.key p.key)=true then 9 else E p.val
def A7(R:Msg->Val->Int)(s:Scm)(k:Bool)(f:Fld)(v:Val):Int:=
 if f.card=4 then(if v.kind≠11\/BF v=true then 12 else BR (λ_ x=>BL R s f.type x) v.list 0)
 else if f.card=5 then(if v.kind≠12\/BF v=true then 12 else BR (GL (BL R s f.type) f.key k v.pairs) v.pairs 0)
 else BL R s f.type v
def HB(F:List Fld)(l:List Slt)(u:ByteArray):Bool:=!decide (u=⟨#[]⟩)&&l.any λy=>decide ((AC F y.num).union=u)
def Ee(R:Fld->Val->Int)(F:List Fld)(l:List Slt)(i:Nat)(x:Slt):Int:=
 if(Bh F x.num).2=false then 8 else if Bt (l.take i) x.num=true then 9 else if HB F (l.take i) (AC F x.num).union=true then 15 else R (AC F x.num) x.val
def GU(l:List Slt)(f:Fld):Int:=if f.card=1/\Bt l f.num=false then 14 else 0
def Sh(s:Scm)(f:Fld)(x:Raw):Bool:=decide (f.type.kind=9)&&(Cg s f.type.name).2&&!(Cg s f.type.name).1.opn&&!decide (f.card=5)&&decide (x.wire=0)&&decide (x.bits<2147483648)&&!GZ (Cg s f.type.name).1 x.bits
def GW(s:Scm)(F:List Fld)(x:Raw):Int:=
 if x.num<1\/65535<x.num\/x.wire<0\/6<x.wire\/(x.wire<=2/\x.data≠⟨#[]⟩)\/(2<x.wire/\x.bits≠0)then 1
 else if(Bh F x.num).2=true/\Sh s (AC F x.num) x=false then 1
 else if(x.wire=3/\4096<x.data.size)\/65536<x.data.size then 3 else 0
def AL(s:Scm)(k:Bool):Nat->Msg->Val->Int
 |0,_,v=>if v.kind≠10\/BF v=true then 12 else 17
 |d+1,m,v=>
  if v.kind≠10\/BF v=true then 12
  else if BR (Ee (A7 (AL s k d) s k) m.fields v.slots) v.slots 0≠0 then BR (Ee (A7 (AL s k d) s k) m.fields v.slots) v.slots 0
  else if BR (λ_ f=>GU v.slots f) m.fields 0≠0 then BR (λ_ f=>GU v.slots f) m.fields 0
  else BR (λ_ x=>GW s m.fields x) v.raws 0
mutual
def cnt:Val->Nat
 |.mk _ _ _ l p s r=>1+r.length+A1 l+Bz p+B0 s
def A1:List Val->Nat
 |[]=>0
 |v::l=>cnt v+A1 l
def Lc:Pr->Nat
 |.mk k v=>cnt k+cnt v
def Bz:List Pr->Nat
 |[]=>0
 |p::l=>Lc p+Bz l
def K8:Slt->Nat
 |.mk _ v=>cnt v
def B0:List Slt->Nat
 |[]=>0
 |x::l=>K8 x+B0 l
end
def GF(s:Scm)(k:Bool)(n:ByteArray)(v:Val):Int:=
 if(AK s n).2=false then 10 else if AL s k 16 (AK s n).1 v≠0 then AL s k 16 (AK s n).1 v else if 4096<cnt v then 3 else 0
end Go.Proofs.YthcplkfhnnlafaaGreat
