import Derived.Test.YtalafnjhcecdpaaGreatDoorZa24
import Derived.Test.YtalafnjhcecdpaaGreatDoorZa27
import Derived.Test.YtalafnjhcecdpaaGreatDoorZa25
import Derived.Test.YtalafnjhcecdpaaGreatDoorZa21
import Derived.Test.YtalafnjhcecdpaaGreatDoorCards
import Derived.Test.YtalafnjhcecdpaaGreatDoorTie
import Derived.Lib.LaidTab
import Derived.WalkKit
import Derived.ProofKit
import Derived.OpenShut
import Derived.JoinedCond
import Derived.Test.YtalafnjhcecdpaaGreatDoorZa00
namespace Go.Proofs.YtalafnjhcecdpaaGreatDoor
set_option linter.all false
open Go Go.Eng
structure GdT (s:Scm) (t:Typ):Prop where
 en:t.kind=9->(B8 s t.name).2=true
 ms:t.kind=10->(A4 s t.name).2=true
 ty:1<=t.kind/\t.kind<=10
theorem GdF.t{s:Scm}{f:Fld}(h:GdF s f):GdT s f.type:=⟨h.en,h.ms,h.ty⟩
def TE(R:N4)(s:Scm)(d:Nat):Prop:=∀d':Nat,d=d'+1->∀(f:Fld) (x:Val),GdF s f->AK x->R s f x (16-(d':Int))=some (BN (AP s true d') s true f x)
theorem zX{s:Scm}(hs:Ap (Al s)<=1048576)(m:Msg)(x:Raw)(hm:m.fields.length<=1048576)(hx:x.data.size<=1048576):dq s m x=some (Ga s m.fields x):=by
 have h:=DX hs;have o:x.data.size<4611686018427387904:=ae
 have k:=u1 s (AU m.fields x.num).type.name h.el;have l:=rE (B8 s (AU m.fields x.num).type.name).1 x.bits (UL h _);have p:(BG m.fields x.num).1=AU m.fields x.num:=rfl;have n:dA s (AU m.fields x.num) x=some (Rj s (AU m.fields x.num) x):=by unfold Rj;dsimp only[dA,wg,lr,cl,Ax];rw[k,Ya,l];generalize B8 s (AU m.fields x.num).type.name=g;generalize AU m.fields x.num=f;simp only[Y0,CQ,Yp,YI];congr 1;cases g.2<;>cases g.1.opn<;>cases decide (f.type.kind=9)<;>cases decide (f.card=5)<;>cases decide (x.wire=0)<;>cases decide (x.bits<2147483648)<;>cases Gl g.1 x.bits<;>rfl
 dsimp only[dq,br,vy,wg,lr,cl,Ax,A1,br];rw[gW _ _ hm,Ya,p,n];unfold Ga;generalize Rj s (AU m.fields x.num) x=kp;have j:(if((decide (x.wire=3)&&decide ((4096:Int)<x.data.size))||decide ((65536:Int)<x.data.size))=true then some (3:Int)else some 0)=some (if(x.wire=3/\4096<x.data.size)\/65536<x.data.size then 3 else 0):=by
  by_cases c:(x.wire=3/\4096<x.data.size)\/65536<x.data.size
  ·rw[Ym c,Ym];simp only[YB,Yb,Yr];omega
  ·rw[Yk c,Yk];simp only[YB,Yb,Yr];omega
 simp only[o,CQ,Yp,Y0,YI];by_cases a:x.num<1\/65535<x.num\/x.wire<0\/6<x.wire
 ·have a1:(((decide (x.num<1)||decide (65535<x.num))||decide (x.wire<0))||decide (6<x.wire))=true:=by simp only[YB,Yr];omega
  rw[Ym a1,Ym ae]
 ·have a1:¬(((decide (x.num<1)||decide (65535<x.num))||decide (x.wire<0))||decide (6<x.wire))=true:=by simp only[YB,Yr];omega
  rw[Yk a1];by_cases b:(x.wire<=2/\x.data≠⟨#[]⟩)\/(2<x.wire/\x.bits≠0)
  ·have d:((decide (x.wire<=2)&&!decide (x.data=⟨#[]⟩))||((!decide (x.wire<=2))&&!decide (x.bits=0)))=true:=(by by_cases i:x.data=⟨#[]⟩<;>simp only[i,Yo,Yx,YN,YQ,Gp,H2,Gq,YB,Yb,YO,Yr,YE,ne_eq,H4,Gu,FG,Ie,Mr]at b⊢<;>omega);have e:x.num<1\/65535<x.num\/x.wire<0\/6<x.wire\/(x.wire<=2/\x.data≠⟨#[]⟩)\/(2<x.wire/\x.bits≠0):=.inr (.inr (.inr (.inr b)));rw[Ym e,d];rfl
  ·have d:((decide (x.wire<=2)&&!decide (x.data=⟨#[]⟩))||((!decide (x.wire<=2))&&!decide (x.bits=0)))=false:=(by by_cases i:x.data=⟨#[]⟩<;>simp only[i,Yo,Yx,YN,YQ,Gp,H2,Gq,Ic,Ia,Sf,Yr,YE,ne_eq,H4,Gu,FG,Ie,Mr]at b⊢<;>omega);have e:¬(x.num<1\/65535<x.num\/x.wire<0\/6<x.wire\/(x.wire<=2/\x.data≠⟨#[]⟩)\/(2<x.wire/\x.bits≠0)):=λh=>by
    rcases h with h|h|h|h|h
    ·exact a (.inl h)
    ·exact a (.inr (.inl h))
    ·exact a (.inr (.inr (.inl h)))
    ·exact a (.inr (.inr (.inr h)))
    ·exact b h
   rw[Yk e,d,j];cases(BG m.fields x.num).2<;>cases kp<;>simp
theorem jC(R:N4){s:Scm}(hs:Ap (Al s)<=1048576)(g:GdS s)(n:ByteArray)(v:Val)(d:Nat)(K:d<=16)(p:AK v)(A:TE R s d):TR R s (A4 s n).1 v (17-(d:Int))=some (AP s true d (A4 s n).1 v):=by
 have h:=DX hs;have hm:(A4 s n).1.fields.length<=1048576:=ND h n;have w:Ds (A4 s n).1.fields (A4 s n).1.fields.length:=g.asc n;have b:∀f∈(A4 s n).1.fields,GdF s f:=g.fl n;generalize (A4 s n).1=m at hm w b;have D:=Cm p;obtain⟨s1,s2,L,y,M⟩:=Cm p;have H:m.fields.length<4611686018427387904:=ae
 have I:v.slots.length<4611686018427387904:=ae
 have J:v.raws.length<4611686018427387904:=ae
 dsimp only[TR,br,vz,wg,lr,lc,Ax,Ai,br];rw[fW D];by_cases c:v.kind≠10\/BO v=true
 ·have z:AP s true d m v=12:=by cases d<;>(unfold AP;rw[Ym c])
  rw[z];by_cases a:v.kind=10
  ·have o:BO v=true:=c.resolve_left λe=>e a;simp[a,o]
  ·simp[a]
 ·have a:v.kind=10:=Decidable.not_not.1 λe=>c (.inl e);have o:BO v=false:=by
   cases h:BO v with
   |false=>rfl
   |true=>exact absurd (.inr h) c
  cases d with
  |zero=>
   unfold AP;rw[Yk c];simp[a,o]
  |succ d=>
   have t:¬(16:Int)<17-((d+1:Nat):Int):=ae;have E:=Ho (B:=Ri s m v (17-((d+1:Nat):Int)) R) (N:=Ah) v.slots (DR (BN (AP s true d) s true) m.fields v.slots) id () (λi x hx _=>by
    have e:=w5 R (BN (AP s true d) s true) s m v.slots i x (17-((d+1:Nat):Int)) w hm y hx λf r=>by have:=A d rfl f x.val (b f r) (GQ p (Yh hx));rw[show 17-((d+1:Nat):Int)=16-(d:Int)by omega];exact this
    have j:=A5 hx;have k:i+1<9223372036854775808:=(by have:=(Yc.1 hx).1;omega);dsimp only[Ri,br,wg,vs,v2,Aq,ln,Af,cs,wa,br];simp only[j,k,e,Yo,Yp,Ya];by_cases hy:DR (BN (AP s true d) s true) m.fields v.slots i x=0<;>simp[hy]) (by dsimp only[Ri,br,wg,vs,v2,Aq,ln,Af,cs,wa,br];simp) (AM ae)
   have F:=Ho (B:=Q5 s m v R) (N:=Ah) m.fields (λ_ f=>Gi v.slots f) id () (λi f b _=>by have j:=A5 b;have k:i+1<9223372036854775808:=(by have:=(Yc.1 b).1;omega);have e:=z8 v.slots f y;unfold Gi;dsimp only[Q5,br,ix,wg,vs,Aq,ln,Af,CF,wa,br];simp only[j,k,b,e,Yo,Yp,Ya,CQ,Y0,YI];by_cases C:f.card=1<;>cases CU v.slots f.num<;>simp[C]) (by dsimp only[Q5,br,ix,wg,vs,Aq,ln,Af,CF,wa,br];simp) (AM ae);have G:=Ho (B:=Q8 s m v R) (N:=Ah) v.raws (λ_ x=>Ga s m.fields x) id () (λi x hx _=>by have j:=A5 hx;have k:i+1<9223372036854775808:=(by have:=(Yc.1 hx).1;omega);have e:=zX hs m x hm (ke p (Yh hx));dsimp only[Q8,br,ix,wg,vs,Aq,ln,Af,cl,wa,br];simp only[j,k,hx,e,Yo,Yp,Ya];by_cases hy:Ga s m.fields x=0<;>simp[hy]) (by dsimp only[Q8,br,ix,wg,vs,Aq,ln,Af,cl,wa,br];simp) (AM ae);unfold AP;rw[Yk c];simp only[a,o,t,H,I,J,E,F,G,Yo,Yx,YN,YQ,KS,Yi,Jw,Y0,YI,Yp,YC,Ya];by_cases l:BT (DR (BN (AP s true d) s true) m.fields v.slots) v.slots 0=0
   ·by_cases q:BT (λ_ f=>Gi v.slots f) m.fields 0=0
    ·by_cases u:BT (λ_ x=>Ga s m.fields x) v.raws 0=0
     ·simp[l,q,u]
     ·simp[l,q,u]
    ·simp[l,q]
   ·simp[l]
theorem vn(R:N4){s:Scm}(hs:Ap (Al s)<=1048576)(g:GdS s)(t:Typ)(a:GdT s t)(v:Val)(d:Nat)(j:d<=16)(b:AK v)(i:TE R s d):Nm R s t v (16-(d:Int))=some (B3 (AP s true d) s t v):=by
 have h:=DX hs;have e:Nc s t.name=some (A4 s t.name):=gX s _ h.ml;have hm:=jC R hs g t.name v d j b i;have w: -9223372036854775808<=17-(d:Int)/\17-(d:Int)<9223372036854775808:=ae
 have wl:16-(d:Int)+1=17-(d:Int):=ae
 dsimp only[Nm,br,wg,vs,lr,cl,cs,wi,br];by_cases c:t.kind=10
 ·have f:=a.ms c;unfold B3;rw[Ym c,Ym f,e];simp only[c,Yo,Yp,Ya,w,B5,wl,hm]
 ·rw[jc s t h (Cm b),xY (R:=AP s true d) a.ty.1 (by have:=a.ty.2;omega) a.en];simp only[c,Yx,Yi,YC,Ya]
theorem zy(R:N4){s:Scm}(hs:Ap (Al s)<=1048576)(g:GdS s)(f:Fld)(C:GdF s f)(H:f.card=5)(l:List Pr)(hl:l.length<=1048576)(A:∀p∈l,AK p.key/\AK p.val)(d:Nat)(J:d<=16)(I:TE R s d):TU R s f l (16-(d:Int))=some (BT (GY (B3 (AP s true d) s f.type) f.key true l) l 0):=by
 have h:=DX hs;have y:=λ(x:Val) (hx:AK x)=>vn R hs g f.type C.t x d J hx I;have K:=C.ky H;have w2:l.length<4611686018427387904:=ae
 generalize 16-(d:Int)=M at y;have O:=Ho (B:=NH s f l M R) (N:=Ah) l (GY (B3 (AP s true d) s f.type) f.key true l) id () (λi p a G=>by
  have v:=A5 a;have hi:=(Yc.1 a).1;have w:i+1<9223372036854775808:=ae
  have F:i<=l.length:=ae
  have Eu:=A p (Yh a);have t:=jc s (.mk f.key ⟨#[]⟩) h (Cm Eu.1);have u:MD s (.mk f.key ⟨#[]⟩) p.key=CD f.key p.key:=by unfold MD;rw[Ym (.inr (show f.key≠9 by omega))]
  rw[u]at t;have D:=y p.val Eu.2;have L:∀q∈l.take i,CD f.key q.key=0:=λq m=>by
   obtain⟨j,k⟩:=YP.1 m;rw[Y6]at k;split at k
   ·have:=G j q (by assumption) k;unfold GY at this;by_cases c:CD f.key q.key=0
    ·exact c
    ·rw[Ym c]at this;exact absurd this c
   ·cases k
  unfold GY;by_cases n:CD f.key p.key=0
  ·have E:PG (l.take i) (λz=>PR z p)=some ((l.take i).any λq=>GU q.key p.key):=Zwi _ _ _ (λq m=>by have b:=L q m;have kd:=(MV b).1;have e:=ZQT (d:=q.key) (x:=p.key) (by rw[kd];omega) (A q (Sc m)).1 Eu.1;rw[zT K b n]at e;dsimp only[PR,wg,lr,cl];rw[e];rfl) (by rw[YD];omega);dsimp only[NH,br,ix,wg,vs,Aq,ln,Af,cl,cs,wa,sL,br];simp only[v,w,F,a,t,D,E,n,Bd.c,Bd.vl,OQ,Hh,Yo,Yp,Ya,B5,Cn];by_cases o:((l.take i).any λq=>GU q.key p.key)=true
   ·simp[o]
   ·by_cases r:B3 (AP s true d) s f.type p.val=0
    ·simp only[o,r];simp
    ·simp only[o,r];simp[r]
  ·dsimp only[NH,br,ix,wg,vs,Aq,ln,Af,cl,cs,wa,sL,br];simp only[v,w,a,t,Yo,Yp,Ya];simp[n]) (by dsimp only[NH,br,ix,wg,vs,Aq,ln,Af,cl,cs,wa,sL,br];simp) (AM ae)
 dsimp only[TU,vz,lr,lc,Ai];rw[O];by_cases c6:BT (GY (B3 (AP s true d) s f.type) f.key true l) l 0=0
 ·simp[c6,w2]
 ·simp[c6,w2]
theorem ZJS(R:N4){s:Scm}(hs:Ap (Al s)<=1048576)(g:GdS s)(f:Fld)(n:GdF s f)(v:Val)(d:Nat)(m:d<=16)(j:AK v)(l:TE R s d):VT R s f v (16-(d:Int))=some (BN (AP s true d) s true f v):=by
 have h:=DX hs;have w:=Cm j;obtain⟨s1,s2,A,C,D⟩:=Cm j;have o:v.list.length<4611686018427387904:=ae
 have k:=λ(x:Val) (hx:AK x)=>vn R hs g f.type n.t x d m hx l;have hN:=λt=>zy R hs g f n t v.pairs A (λp u=>Dr j u) d m l;generalize 16-(d:Int)=y at k hN;have z:=Ho (B:=QS s f v y R) (N:=Ah) v.list (λ_ x=>B3 (AP s true d) s f.type x) id () (λi x hx _=>by
  have q:=A5 hx;have r:i+1<9223372036854775808:=by have:=(Yc.1 hx).1;omega
  have e:=k x (Hx j (Yh hx));dsimp only[QS,br,ix,wg,vs,v2,Aq,ln,Af,cs,wa,br];simp only[q,r,hx,e,Yo,Yp,Ya];by_cases hy:B3 (AP s true d) s f.type x=0<;>simp[hy]) (by dsimp only[QS,br,ix,wg,vs,v2,Aq,ln,Af,cs,wa,br];simp) (AM ae)
 have e0:=k v j;unfold BN;dsimp only[VT,br,vz,wg,lr,lc,Ax,cs,Ai,br];rw[fW w,z,e0];by_cases b:f.card=4
 ·by_cases a:v.kind=11
  ·cases BO v with
   |true=>simp[b,a]
   |false=>
    by_cases c6:BT (λ_ x=>B3 (AP s true d) s f.type x) v.list 0=0
    ·simp[b,a,c6,o]
    ·simp[b,a,c6,o]
  ·simp[b,a]
 ·by_cases c:f.card=5
  ·have hN:=hN c;by_cases a:v.kind=12
   ·cases BO v with
    |true=>simp[c,a]
    |false=>simp[c,a,hN]
   ·simp[c,a]
  ·simp[b,c]
theorem tH{s:Scm}(hs:Ap (Al s)<=1048576)(g:GdS s):∀(a d:Nat),d<a->d<=16->∀(f:Fld) (v:Val),GdF s f->AK v->Ls a s f v (16-(d:Int))=some (BN (AP s true d) s true f v)
 |0,d,b,_,_,_,_,_=>absurd b (Y2 _)
 |a+1,d,b,c,f,v,h,j=>ZJS (Ls a) hs g f h v d c j λd' e k x i hx=>tH hs g a d' ae ae k x i hx
theorem ZIt{s:Scm}(hs:Ap (Al s)<=1048576)(g:GdS s)(n:ByteArray)(v:Val)(b:AK v):dg s n v=some (Fp s true n v):=by
 have h:=DX hs;have j:Nc s n=some (A4 s n):=gX s _ h.ml;have i:=jC (Ls Ah) hs g n v 16 (Yf _) b λd' e f x l hx=>tH hs g Ah d' (by have:=Zw;omega) ae f x l hx;rw[show(17:Int)-((16:Nat):Int)=1 by decide]at i;have k:=uU Ah v (by have m:Ap (Ae v)<=1048576:=b;exact AM ae) b;unfold Fp;dsimp only[dg,br,wg,lr,cl,br];rw[j,Ya,i,k];cases(A4 s n).2 with
 |false=>simp
 |true=>
  by_cases c:AP s true 16 (A4 s n).1 v=0
  ·by_cases d:4096<cnt v
   ·have a:(4096:Int)<cnt v:=ae;simp[c,d,a]
   ·have a:¬(4096:Int)<cnt v:=ae;simp[c,d,a]
  ·simp[c]
end Go.Proofs.YtalafnjhcecdpaaGreatDoor
namespace Go.Proofs.YtalafnjhcecdpaaGreatDoor
set_option linter.all false
open Go Go.Eng
theorem jg{v:Val}(h:AK v):Uc v=some (CC v):=by
 obtain⟨n,d,f,g⟩:=NC h;obtain⟨y,e,a⟩:=pH f;rw[<-d]at e;unfold CC;dsimp only[Uc,br,wg,lr,Ax,br];rw[e,g];by_cases c:v.kind=6
 ·cases b:HK n with
  |true=>
   rw[b,Yr]at a;simp[c,a]
  |false=>
   rw[b,YE]at a;simp[c,a]
 ·simp[c]
theorem ZI2{v:Val}(h:SzV v):cP v=some (MA v):=by have a:Ni v.kind=some (decide (1<=v.kind)&&decide (v.kind<=9)):=rfl;dsimp only[cP,wg,lr,cl,Ax];rw[a,ul h,Ya];unfold MA;rw[OX];cases(decide (1<=v.kind)&&decide (v.kind<=9))<;>cases EQ v<;>cases decide (v.bits=0)<;>cases decide (v.text=⟨#[]⟩)<;>cases Dw v.kind<;>rfl
theorem Zyy(l:List Slt)(h:l.length<549755813888):T2 l=some l:=by
 cases l with
 |nil=>rfl
 |cons x r=>
  dsimp only[T2,al,br,vw,lr,a0,mv,br];simp only[D0]at h;simp;omega
theorem Zyd(l:List Raw)(h:l.length<549755813888):Ue l=some l:=by
 cases l with
 |nil=>rfl
 |cons x r=>
  dsimp only[Ue,al,br,vw,lr,a0,mv,br];simp only[D0]at h;simp;omega
theorem y0{N:Fld->Val->Val}{F:List Fld}(h:Ds F F.length){l:List Slt}(i:l.Pairwise λa b=>a.num≠b.num)(n:∀x∈l,(BG F x.num).2=true):((Cq EU l).filter λx=>!Bo (AU F x.num) x.val).map (λx=>Slt.mk x.num (N (AU F x.num) x.val))=CN N F l:=by
 have j:∀x∈l,AU F x.num∈F/\(AU F x.num).num=x.num:=λx hx=>by
  rcases Qe F x.num with⟨c,_⟩|⟨k,m⟩
  ·rw[n x hx]at c;cases c
  ·exact⟨m,Uu k⟩
 refine th (R4.2 ((rU i).sublist List.filter_sublist)) (sY (vx h) i) λz=>?_;rw[uc];simp only[YV,Hf,(JX l).mem_iff,YO];constructor
 ·rintro⟨x,⟨hx,d⟩,rfl⟩;obtain⟨c,e⟩:=j x hx;exact⟨AU F x.num,c,x,hx,e.symm,d,by rw[e]⟩
 ·rintro⟨f,hm,x,hx,e,d,rfl⟩;obtain⟨c,o⟩:=j x hx;have g:AU F x.num=f:=yR h c hm ae;exact⟨x,⟨hx,by rw[g];exact d⟩,by rw[g,e]⟩
theorem Zx4{l:List Slt}(A:l.Pairwise λa b=>a.num≠b.num)(hl:l.length<=4194304):de l=some (Cq EU l):=by
 have s:=Zyy l ae;have q:=rU A;have el:(Cq EU l).length=l.length:=(JX l).length_eq;have m:FN l (λz0 k=>Nd z0 k)=some (Cq EU l):=by have h:=gP (pf:=λz0 k=>Nd z0 k) (cmp:=EU) fw l (λx _ y _=>by dsimp only[Nd,wg,lr,cl];rw[M0];rfl) hl;rw[cS (show CmpLaw EU from NF Slt.num) l]at h;exact h
 generalize Cq EU l=r at q el m⊢;have C:r.length<=4194304:=ae
 have e:=DB (B:=NV r) (N:=Ah) (ρ:=List Slt) r (λp=>p) (λi b=>(b,i)) id (λi p d=>by
  have n:=A5 d;have hi:=(Yc.1 d).1;have j:i+1<9223372036854775808:=ae
  have o:((i+1:Nat):Int)=r.length↔i+1=r.length:=ae
  have f:(r.take i).length<549755813887:=by rw[YD];omega
  generalize r.take i=out at f⊢;dsimp only[NV,br,vz,vw,wg,vs,vg,ln,Af,ap,wa,ir,ca,fl,A1,br];by_cases c:i+1=r.length
  ·simp only[n,j,o,c,d,f,hi,Yo,YN,Ha,Yi,Ya,H3,Yp,YC,Dl];have z:r.length<9223372036854775808:=ae;simp[z]
  ·have g:i+1<r.length:=ae;have t:r.getD (i+1) Rw.z=r[i+1]:=(by rw[Yg,Yd g];rfl);have u:r[i]=p:=(Yc.1 d).2;have v:=Sa.1 q i (i+1) hi g ae;rw[u]at v;have w:¬p.num=(r.getD (i+1) Rw.z).num:=(by rw[t];omega);simp only[n,j,o,c,g,d,w,hi,Yo,Yx,YQ,Gq,OP,Ya,Y0,YI,forall_const,Yp,C1];simp[j,f]) (by dsimp only[NV,br,vz,vw,wg,vs,vg,ln,Af,ap,wa,ir,ca,fl,A1,br];simp) (AM ae)
 have e:Aj (NV r) Ah ([],0)=some (.inl r):=e;dsimp only[de,vz,vw,lr,lc,rn,fl,fr,A1];rw[s,Ya,m,Ya]
 first|rw[Ym rfl,e];rfl|(rw[Ym el,e];rfl)|simp[e,el]
theorem wR{g:Pr->Pr}(d:∀x,(g x).key=x.key)(l:List Pr):DG (l.map g)=(DG l).map g:=by
 have c:∀x y,Bc (g x) (g y)=Bc x y:=λx y=>by unfold Bc;rw[d,d]
 refine sh (et _) ?_ λz=>?_
 ·exact R4.2 ((et l).imp fun {x y} h=>by show Bc (g x) (g y)<0;rw[c];exact h)
 ·rw[Nx,YV];constructor
  ·rintro⟨j,a,h⟩;rw[YR,H8]at a;obtain⟨x,hx,rfl⟩:=a;refine⟨x,Nx.2 ⟨j,hx,λk y b e=>h k (g y) ?_ ?_⟩,rfl⟩
   ·rw[YR,b];rfl
   ·rw[c];exact e
  ·rintro⟨x,hx,rfl⟩;obtain⟨j,a,h⟩:=Nx.1 hx;refine⟨j,by rw[YR,a];rfl,λk y b e=>?_⟩;rw[YR,H8]at b;obtain⟨w,f,rfl⟩:=b;rw[c]at e;exact h k w f e
theorem zb(l:List Pr):(DG l).length=0↔l.length=0:=by
 have a:=Uy l l.length;have a:(DG l).length<=l.length:=a;refine⟨λh=>?_,λh=>ae⟩;by_cases c:l.length=0
 ·exact c
 ·have hi:l.length-1<l.length:=ae
  have hm:l[l.length-1]∈DG l:=Nx.2 ⟨l.length-1,Yd hi,λk y b _=>by have:=(Yc.1 b).1;omega⟩;have:=List.length_pos_of_mem hm;omega
theorem ZHY{l:List Pr}{p:Pr}(h:p∈DG l):p∈l:=by obtain⟨j,a,_⟩:=Nx.1 h;exact Yh a
def RX(k:Bool)(s:Scm)(R:Scm->Fld->Val->Option (Val×Bool))(d:Nat):Prop:=∀(f:Fld) (v:Val),GdF s f->AK v->BN (AP s k d) s k f v=0->R s f v=some (B2 (A0 s d) f v,!Bo f v)
theorem s9{s:Scm}{k:Bool}(hs:Ap (Al s)<=1048576)(g:GdS s)(R:Scm->Fld->Val->Option (Val×Bool))(d:Nat)(I:RX k s R d)(n:ByteArray)(v:Val)(z:AK v)(h:OkM s k d (A4 s n).1 v):PS R s n v=some (A0 s (d+1) n v):=by
 have A:=Cm z;have O:=A.s;have M:=A.r;have C:Nc s n=some (A4 s n):=gX s _ (DX hs).ml;have pw:v.slots.Pairwise λa b=>a.num≠b.num:=h.pw.imp λh=>h.1;have D:=Zyd v.raws ae;have u:=Zx4 pw ae;have E:FN v.raws (λz0 q=>Nb z0 q)=some (ES v.raws):=by have h:=gP (pf:=λz0 q=>Nb z0 q) (cmp:=Je) fw v.raws (λx _ y _=>by dsimp only[Nb,wg,lr,cl];rw[M0];rfl) ae;rw[cS (show CmpLaw Je from NF Raw.num) v.raws,<-sD]at h;exact h
 have el:(Cq EU v.slots).length=v.slots.length:=(JX v.slots).length_eq;have hm:∀x∈Cq EU v.slots,x∈v.slots:=λx hx=>(JX v.slots).mem_iff.1 hx;have f:=y0 (N:=B2 (A0 s d)) (g.asc n) pw λx hx=>(h.sl x hx).1;generalize Cq EU v.slots=r at u el hm f;have w2:r.length<4611686018427387904:=ae
 have o:(A4 s n).1.fields.length<=1048576:=ND (DX hs) n;have j:=DB (B:=N9 s R (A4 s n) v.raws r) (N:=Ah) (ρ:=Val) r (λp=>(p.filter λx=>!Bo (AU (Bg s n) x.num) x.val).map (λx=>Slt.mk x.num (B2 (A0 s d) (AU (Bg s n) x.num) x.val))) (λi b=>(i,b)) id (λi x hx=>by
  have G:=A5 hx;have hi:=(Yc.1 hx).1;have m:i+1<9223372036854775808:=ae
  have e:=hm x (Yh hx);have t:(((r.take i).filter λx=>!Bo (AU (Bg s n) x.num) x.val).map (λx=>Slt.mk x.num (B2 (A0 s d) (AU (Bg s n) x.num) x.val))).length<549755813887:=by rw[YF];have H:=Sb (λx:Slt=>!Bo (AU (Bg s n) x.num) x.val) (r.take i);rw[YD]at H;omega
  have f:=gW (A4 s n).1 x.num o;obtain⟨K,L⟩:=h.sl x e;have J:GdF s (AU (A4 s n).1.fields x.num):=by
   rcases Qe (A4 s n).1.fields x.num with⟨c,_⟩|⟨_,c⟩
   ·rw[K]at c;cases c
   ·exact g.fl n _ c
  have F:R s (BG (A4 s n).1.fields x.num).1 x.val=some (B2 (A0 s d) (AU (Bg s n) x.num) x.val,!Bo (AU (Bg s n) x.num) x.val):=I _ _ J (GQ z e) L;rw[KN,D1];generalize ((r.take i).filter λx=>!Bo (AU (Bg s n) x.num) x.val).map (λx=>Slt.mk x.num (B2 (A0 s d) (AU (Bg s n) x.num) x.val))=out at t⊢;dsimp only[N9,br,ix,vz,vw,wg,vs,ln,Af,ap,cl,cs,wa,fl,br];simp only[w2,G,m,hx,f,F,Yo,Yp,Ya];cases w:Bo (AU (Bg s n) x.num) x.val with
  |true=>simp[w,m]
  |false=>simp[w,m,t]) (by dsimp only[N9,br,ix,vz,vw,wg,vs,ln,Af,ap,cl,cs,wa,fl,br];simp[w2]) (AM ae)
 rw[f]at j;have j:Aj (N9 s R (A4 s n) v.raws r) Ah (0,[])=some (.inl (CN (B2 (A0 s d)) (Bg s n) v.slots)):=j;dsimp only[PS,HS,vz,vw,wg,vs,lr,lc,cl,fl,fr,HS,Ai];rw[C,Ya,D,Ya,u];have l:v.raws.length=(ES v.raws).length:=by rw[sD];exact(JX v.raws).length_eq.symm
 simp only[w2,Yp,Ya,j,C2,E]
 first|rfl|(rw[Ym l];rfl)
theorem gp{s:Scm}{k:Bool}(hs:Ap (Al s)<=1048576)(g:GdS s)(R:Scm->Fld->Val->Option (Val×Bool))(d:Nat)(f:∀d':Nat,d=d'+1->RX k s R d')(t:Typ)(v:Val)(b:AK v)(h:B3 (AP s k d) s t v=0):Gw R s t v=some (BF (A0 s d) t v):=by
 unfold BF;dsimp only[Gw,br,wg,lr,cl,cs,br];by_cases c:t.kind=10
 ·unfold B3 at h;rw[Ym c]at h;cases a:(A4 s t.name).2 with
  |false=>rw[a]at h;cases h
  |true=>
   rw[a,Ym rfl]at h;cases d with
   |zero=>
    unfold AP at h;split at h<;>cases h
   |succ d=>
    have e:=s9 hs g R d (f d rfl) t.name v b (Vv.1 h);rw[Ym (Yq c),e,Ym c];rfl
 ·rw[Yk (by simp[c]),jg b,Yk c];rfl
theorem tM(n:Nat):decide ((0:Int)<(n:Int))=!decide (n=0):=by
 cases n with
 |zero=>rfl
 |succ n=>simp
theorem zz{s:Scm}{k:Bool}(hs:Ap (Al s)<=1048576)(g:GdS s)(R:Scm->Fld->Val->Option (Val×Bool))(d:Nat)(z:∀d':Nat,d=d'+1->RX k s R d')(f:Fld)(v:Val)(G:GdF s f)(m:AK v)(h:BN (AP s k d) s k f v=0):SS R s f v=some (B2 (A0 s d) f v,!Bo f v):=by
 have C:=Cm m;have J:=C.l;have K:=C.p;have D:v.list.length<4611686018427387904:=ae
 unfold BN at h;dsimp only[SS,gh,fK,XV,VH,dV,fM,WK,ep,vz,vw,wg,lr,lc,cl,Ax,cs,tw,du,fl,fr,Ai,A1];by_cases c:f.card=4
 ·rw[Ym c]at h;rw[ZQK c];have t:(!Bo f v)=decide ((0:Int)<((v.list.map (BF (A0 s d) f.type)).length:Int)):=by unfold Bo;rw[Ym c,tM,YF]
  split at h
  ·cases h
  ·rw[Ny]at h;have q:=DB (B:=NZ s f v R) (N:=Ah) (ρ:=Val×Bool) v.list (λp=>p.map (BF (A0 s d) f.type)) (λi b=>(i,b)) id (λi x hx=>by have w:=A5 hx;have hi:=(Yc.1 hx).1;have y:i+1<9223372036854775808:=ae;have hm:=Yh hx;have e:=gp hs g R d z f.type x (Hx m hm) (h x hm);have a1:((v.list.take i).map (BF (A0 s d) f.type)).length<549755813887:=(by rw[YF,YD];omega);rw[D1];generalize (v.list.take i).map (BF (A0 s d) f.type)=out at a1⊢;dsimp only[NZ,Wl,WC,br,ix,vz,vw,wg,vs,ln,Af,lc,ap,cs,wa,tw,fl,br];simp only[D,w,y,hx,e,a1,Yo,Yp,Ya,YZ,E6]) (by dsimp only[NZ,Wl,WC,br,ix,vz,vw,wg,vs,ln,Af,lc,ap,cs,wa,tw,fl,br];simp[D]) (AM ae);have q:Aj (NZ s f v R) Ah (0,[])=some (.inl (v.list.map (BF (A0 s d) f.type))):=q;rw[t];simp only[c,D,Yo,Yp,q,Ya,C2]
 ·rw[Yk c]at h;by_cases l:f.card=5
  ·rw[Ym l]at h;rw[ZQF l];split at h
   ·cases h
   ·rw[NK]at h;have A:∀p∈v.pairs,p.key.kind=f.key/\B3 (AP s k d) s f.type p.val=0:=λp a=>by obtain⟨j,H⟩:=YP.1 a;have:=h j p H;rw[Zj]at this;exact⟨(MV this.1).1,this.2.2⟩
    have I:=G.ky l;have E:∀p∈v.pairs,CC p.key=p.key:=λp a=>by unfold CC;rw[Yk];have:=(A p a).1;omega
    have o:=Zyj v.pairs ae λp a=>by have:=(A p a).1;exact⟨ae,(Dr m a).1⟩
    have F:(v.pairs.map λp=>Pr.mk (CC p.key) (BF (A0 s d) f.type p.val))=v.pairs.map λp=>Pr.mk p.key (BF (A0 s d) f.type p.val):=Fa λp a=>by rw[E p a]
    rw[F,wR (g:=λp=>Pr.mk p.key (BF (A0 s d) f.type p.val)) λ_=>rfl];have t:(!Bo f v)=decide ((0:Int)<(((DG v.pairs).map λp=>Pr.mk p.key (BF (A0 s d) f.type p.val)).length:Int)):=(by unfold Bo;rw[Yk c,Ym l,tM,YF];exact congrArg _ (decide_eq_decide.2 (zb v.pairs).symm));have hl:=Uy v.pairs v.pairs.length;have hl:(DG v.pairs).length<=v.pairs.length:=hl;have n:∀p∈DG v.pairs,p∈v.pairs:=λp a=>ZHY a;generalize DG v.pairs=r at o t hl n⊢;have w2:r.length<4611686018427387904:=ae;have q:=DB (B:=N7 s f R r) (N:=Ah) (ρ:=Val×Bool) r (λp=>p.map λp=>Pr.mk p.key (BF (A0 s d) f.type p.val)) (λi b=>(i,b)) id (λi p a=>by have w:=A5 a;have hi:=(Yc.1 a).1;have y:i+1<9223372036854775808:=ae;have hm:=n p (Yh a);have e:=gp hs g R d z f.type p.val (Dr m hm).2 (A p hm).2;have u:Uc p.key=some p.key:=(by rw[jg (Dr m hm).1,E p hm]);have a1:((r.take i).map λp=>Pr.mk p.key (BF (A0 s d) f.type p.val)).length<549755813887:=(by rw[YF,YD];omega);rw[D1];generalize (r.take i).map (λp=>Pr.mk p.key (BF (A0 s d) f.type p.val))=out at a1⊢;dsimp only[N7,VE,J4,Qw,br,ix,vz,vw,wg,vs,ln,Af,lc,ap,cl,cs,wa,tw,fl,br];simp only[w2,w,y,a,e,u,a1,Yo,Yp,Ya,YZ,E6]) (by dsimp only[N7,VE,J4,Qw,br,ix,vz,vw,wg,vs,ln,Af,lc,ap,cl,cs,wa,tw,fl,br];simp[w2]) (AM ae);have q:Aj (N7 s f R r) Ah (0,[])=some (.inl (r.map λp=>Pr.mk p.key (BF (A0 s d) f.type p.val))):=q;rw[t];simp only[c,l,w2,Yo,Yx,Yi,YC,Yp,o,q,Ya,C2]
    first|done|simp[w2,q]
  ·rw[Yk l]at h;rw[ZQI c l];have e:=gp hs g R d z f.type v m h;have u:=ZI2 C;have o:(!Bo f v)=((!decide (f.card=3))||(!MA v)):=(by unfold Bo;rw[Yk c,Yk l,Bool.not_and]);rw[o];simp only[c,l,Yx,Yi,YC,e,u,Ya,Y0,YI,CQ,Yp]
theorem wu{s:Scm}{k:Bool}(hs:Ap (Al s)<=1048576)(g:GdS s):∀a d:Nat,d<a->RX k s (Ig a) d
 |0,d,h=>ae
 |a+1,d,h=>λf v c i b=>zz hs g (Ig a) d (λd' e=>wu hs g a d' ae) f v c i b
mutual
def dp:Val->Nat
 |.mk k _ _ l p s _=>max (max (WS l) (WT p)) (WU s)+if k=10 then 1 else 0
def WS:List Val->Nat
 |[]=>0
 |v::l=>max (dp v) (WS l)
def aV:Pr->Nat
 |.mk k v=>max (dp k) (dp v)
def WT:List Pr->Nat
 |[]=>0
 |p::l=>max (aV p) (WT l)
def ZN:Slt->Nat
 |.mk _ v=>dp v
def WU:List Slt->Nat
 |[]=>0
 |x::l=>max (ZN x) (WU l)
end
mutual
theorem VQ:∀v:Val,dp v<=cnt v
 |.mk k b t l p s r=>by have a:=ju l;have c:=jz p;have d:=jG s;rw[dp,cnt];split<;>omega
theorem ju:∀l:List Val,WS l<=AY l
 |[]=>Cn _
 |v::l=>by have a:=VQ v;have b:=ju l;rw[WS,AY];omega
theorem yq:∀p:Pr,aV p<=J6 p
 |.mk k v=>by have a:=VQ k;have b:=VQ v;rw[aV,J6];omega
theorem jz:∀l:List Pr,WT l<=Bs l
 |[]=>Cn _
 |v::l=>by have a:=yq v;have b:=jz l;rw[WT,Bs];omega
theorem xp:∀x:Slt,ZN x<=Kb x
 |.mk n v=>by have a:=VQ v;rw[ZN,Kb];omega
theorem jG:∀l:List Slt,WU l<=BU l
 |[]=>Cn _
 |v::l=>by have a:=xp v;have b:=jG l;rw[WU,BU];omega
end
theorem ZOh(xs ys:List Raw)(h:xs.length<=4194304)(j:ys.length<=4194304):Br xs ys (Nj xs ys):=by
 have w:xs.length<4611686018427387904:=ae
 have w2:ys.length<4611686018427387904:=ae
 by_cases e:xs.length=ys.length
 ·obtain⟨r,q,a⟩:=JU (B:=Rz xs ys) (N:=Ah) xs ys () e (λi x y hx hy=>by have f:=A5 hx;have g:i+1<9223372036854775808:=(by have:=(Yc.1 hx).1;omega);refine⟨decide (x.num=y.num)&&(decide (x.wire=y.wire)&&(decide (x.bits=y.bits)&&decide (x.data=y.data))),by simp only[Yb,Yr,vD],?_⟩;dsimp only[Rz,br,ix,vs,Aq,ln,Af,wa,br];simp only[w,w2,f,hx,hy,Yo,Yp,Ya,H2];cases decide (x.num=y.num)&&(decide (x.wire=y.wire)&&(decide (x.bits=y.bits)&&decide (x.data=y.data)))<;>simp[g]) (by dsimp only[Rz,br,ix,vs,Aq,ln,Af,wa,br];simp) (AM ae);have c:Nj xs ys=some (match r with|.inl _=>true|.inr b=>b):=by dsimp only[Nj,br,vz,lr,lc,Ai,br];cases r<;>simp[e,w,w2,q]
  rw[c];cases r with
  |inl u=>exact Br.yes a
  |inr b=>obtain⟨rfl,a⟩:=a;exact Br.no a
 ·have c:Nj xs ys=some false:=by dsimp only[Nj,br,vz,lr,lc,Ai,br];have d:¬(xs.length:Int)=ys.length:=ae;simp[d,e,w,w2]
  rw[c];exact Br.no λh=>e (by rw[h])
theorem ZLJ(xs ys:List Val)(h:xs.length<=4194304)(m:ys.length<=4194304)(f:Val->Val->Option Bool)(l:∀x∈xs,∀y∈ys,Br x y (f x y)):Br xs ys (Lp xs ys f):=by
 have w:xs.length<4611686018427387904:=ae
 have w2:ys.length<4611686018427387904:=ae
 by_cases e:xs.length=ys.length
 ·obtain⟨r,q,a⟩:=JU (B:=QY xs ys f) (N:=Ah) xs ys () e (λi x y hx hy=>by have j:=A5 hx;have k:i+1<9223372036854775808:=(by have:=(Yc.1 hx).1;omega);obtain⟨r,d,a⟩:=l x (Yh hx) y (Yh hy);refine⟨r,a,?_⟩;dsimp only[QY,br,ix,wg,vs,Aq,ln,Af,cf,wa,br];simp only[j,hx,hy,d,Yo,Yp,Ya];cases r<;>simp[k]) (by dsimp only[QY,br,ix,wg,vs,Aq,ln,Af,cf,wa,br];simp) (AM ae);have c:Lp xs ys f=some (match r with|.inl _=>true|.inr b=>b):=by dsimp only[Lp,br,vz,lr,lc,Ai,br];cases r<;>simp[e,w,w2,q]
  rw[c];cases r with
  |inl u=>exact Br.yes a
  |inr b=>obtain⟨rfl,a⟩:=a;exact Br.no a
 ·have c:Lp xs ys f=some false:=by dsimp only[Lp,br,vz,lr,lc,Ai,br];have g:¬(xs.length:Int)=ys.length:=ae;simp[g,e,w,w2]
  rw[c];exact Br.no λh=>e (by rw[h])
theorem ZNE(xs ys:List Pr)(h:xs.length<=4194304)(m:ys.length<=4194304)(f:Pr->Pr->Option Bool)(l:∀x∈xs,∀y∈ys,Br x y (f x y)):Br xs ys (Lr xs ys f):=by
 have w:xs.length<4611686018427387904:=ae
 have w2:ys.length<4611686018427387904:=ae
 by_cases e:xs.length=ys.length
 ·obtain⟨r,q,a⟩:=JU (B:=RA xs ys f) (N:=Ah) xs ys () e (λi x y hx hy=>by have j:=A5 hx;have k:i+1<9223372036854775808:=(by have:=(Yc.1 hx).1;omega);obtain⟨r,d,a⟩:=l x (Yh hx) y (Yh hy);refine⟨r,a,?_⟩;dsimp only[RA,br,ix,wg,vs,Aq,ln,Af,cf,wa,br];simp only[j,hx,hy,d,Yo,Yp,Ya];cases r<;>simp[k]) (by dsimp only[RA,br,ix,wg,vs,Aq,ln,Af,cf,wa,br];simp) (AM ae);have c:Lr xs ys f=some (match r with|.inl _=>true|.inr b=>b):=by dsimp only[Lr,br,vz,lr,lc,Ai,br];cases r<;>simp[e,w,w2,q]
  rw[c];cases r with
  |inl u=>exact Br.yes a
  |inr b=>obtain⟨rfl,a⟩:=a;exact Br.no a
 ·have c:Lr xs ys f=some false:=by dsimp only[Lr,br,vz,lr,lc,Ai,br];have g:¬(xs.length:Int)=ys.length:=ae;simp[g,e,w,w2]
  rw[c];exact Br.no λh=>e (by rw[h])
theorem ZMM(xs ys:List Slt)(h:xs.length<=4194304)(m:ys.length<=4194304)(f:Slt->Slt->Option Bool)(l:∀x∈xs,∀y∈ys,Br x y (f x y)):Br xs ys (Lq xs ys f):=by
 have w:xs.length<4611686018427387904:=ae
 have w2:ys.length<4611686018427387904:=ae
 by_cases e:xs.length=ys.length
 ·obtain⟨r,q,a⟩:=JU (B:=Rr xs ys f) (N:=Ah) xs ys () e (λi x y hx hy=>by have j:=A5 hx;have k:i+1<9223372036854775808:=(by have:=(Yc.1 hx).1;omega);obtain⟨r,d,a⟩:=l x (Yh hx) y (Yh hy);refine⟨r,a,?_⟩;dsimp only[Rr,br,ix,wg,vs,Aq,ln,Af,cf,wa,br];simp only[j,hx,hy,d,Yo,Yp,Ya];cases r<;>simp[k]) (by dsimp only[Rr,br,ix,wg,vs,Aq,ln,Af,cf,wa,br];simp) (AM ae);have c:Lq xs ys f=some (match r with|.inl _=>true|.inr b=>b):=by dsimp only[Lq,br,vz,lr,lc,Ai,br];cases r<;>simp[e,w,w2,q]
  rw[c];cases r with
  |inl u=>exact Br.yes a
  |inr b=>obtain⟨rfl,a⟩:=a;exact Br.no a
 ·have c:Lq xs ys f=some false:=by dsimp only[Lq,br,vz,lr,lc,Ai,br];have g:¬(xs.length:Int)=ys.length:=ae;simp[g,e,w,w2]
  rw[c];exact Br.no λh=>e (by rw[h])
theorem QX:∀(d:Nat) (a b:Val),Ap (Ae a)<d->AK a->AK b->Br a b (Hk d a b)
 |0,a,b,h,_,_=>ae
 |d+1,a,b,h,e,f=>by
  obtain⟨t1,t2,t3,t4,t5⟩:=Cm e;obtain⟨s1,s2,T,U,V⟩:=Cm f;have e0:∀v:Val,AK v->dt v=some (.mk v.kind v.bits v.text (v.list.length:Int) (v.pairs.length:Int) (v.slots.length:Int) (v.raws.length:Int)):=λv k=>by
   obtain⟨t1,t2,t3,t4,t5⟩:=Cm k;have N:v.list.length<4611686018427387904:=ae;have O:v.pairs.length<4611686018427387904:=ae;have P:v.slots.length<4611686018427387904:=ae;have Q:v.raws.length<4611686018427387904:=ae;dsimp only[dt,vz,wg,lr,Ai]
   first|done|simp[N,O,P,Q]
  obtain⟨p,F,J⟩:=ZOh a.raws b.raws ae ae;obtain⟨s,G,K⟩:=ZLJ a.list b.list ae ae (λz0 l=>Hk d z0 l) λx hx y hy=>QX d x y (by have:=Wb hx;omega) (Hx e hx) (Hx f hy);obtain⟨u,H,L⟩:=ZNE a.pairs b.pairs ae ae (λz0 l=>PI (Hk d) z0 l) λx hx y hy=>by obtain⟨r,R,S⟩:=QX d x.key y.key (by have:=(LP hx).1;omega) (Dr e hx).1 (Dr f hy).1;obtain⟨t,n,o⟩:=QX d x.val y.val (by have:=(LP hx).2;omega) (Dr e hx).2 (Dr f hy).2;refine⟨r&&t,?_,by show(r&&t)=true↔x=y;rw[Yb,S,o,nU]⟩;dsimp only[PI,wg,lr,cs,CF];cases r<;>cases t<;>simp[R,n]
  obtain⟨B,I,M⟩:=ZMM a.slots b.slots ae ae (λz0 l=>PH (Hk d) z0 l) λx hx y hy=>by obtain⟨t,n,o⟩:=QX d x.val y.val (by have:=VY hx;omega) (GQ e hx) (GQ f hy);refine⟨decide (x.num=y.num)&&t,?_,by show(decide (x.num=y.num)&&t)=true↔x=y;rw[Yb,o,jr,Yr]⟩;dsimp only[PH,wg,lr,CF];by_cases c:x.num=y.num<;>cases t<;>simp[c,n]
  show Br a b (Lb (Hk d) a b);by_cases c:a.kind=b.kind/\a.bits=b.bits/\a.text=b.text/\a.list.length=b.list.length/\a.pairs.length=b.pairs.length/\a.slots.length=b.slots.length/\a.raws.length=b.raws.length
  ·obtain⟨w,z,A,C,D,c6,E⟩:=c;have q:Lb (Hk d) a b=some (p&&(s&&(u&&B))):=(by dsimp only[Lb,br,wg,lr,cl,Ax,cs,CF,br];rw[e0 a e,e0 b f];cases p<;>cases s<;>cases u<;>simp[w,z,A,C,D,c6,E,F,G,H,I]);rw[q];refine⟨_,rfl,?_⟩;simp only[Yb,J,K,L,M,jM (a:=a) (b:=b)];exact⟨λ⟨g,i,j,m⟩=>⟨w,z,A,i,j,m,g⟩,λ⟨_,_,_,i,j,m,g⟩=>⟨g,i,j,m⟩⟩
  ·have q:Lb (Hk d) a b=some false:=(by have Av:(decide (a.kind=b.kind)&&(decide (a.bits=b.bits)&&(decide (a.text=b.text)&&(decide ((a.list.length:Int)=(b.list.length:Int))&&(decide ((a.pairs.length:Int)=(b.pairs.length:Int))&&(decide ((a.slots.length:Int)=(b.slots.length:Int))&&(decide ((a.raws.length:Int)=(b.raws.length:Int))&&true)))))))=false:=(by rw[Bool.eq_false_iff];intro h;simp only[Yb,Yr,Ie]at h;obtain⟨g,i,j,m,W,X,Y⟩:=h;exact c ⟨g,i,j,ae,ae,ae,ae⟩);dsimp only[Lb,br,wg,lr,cl,Ax,cs,CF,br];rw[e0 a e,e0 b f];simp only[Ya];rw[Av];simp);rw[q];exact Br.no λh=>c (by rw[h];exact⟨rfl,rfl,rfl,rfl,rfl,rfl,rfl⟩)
theorem ZRa:qh=some true:=aC
theorem ZRB{v:Val}(h:AK v):Ap (Ae v)<Ah:=AM (by have a:Ap (Ae v)<=1048576:=h;omega)
theorem lM{s:Scm}{k:Bool}(hs:Ap (Al s)<=1048576)(g:GdS s)(n:ByteArray)(v:Val)(a:AK v)(h:OkM s k 15 (A4 s n).1 v):PS (Ig Ah) s n v=some (A0 s 16 n v):=s9 hs g _ 15 (wu hs g Ah 15 (AM ae)) n v a h
theorem zJ{s:Scm}(hs:Ap (Al s)<=1048576)(g:GdS s)(n:ByteArray)(v:Val)(a:AK v):Ok (λb:Bool=>b=true↔Fp s true n v=0/\v=A0 s 16 n v) (cJ s n v):=by
 have d:=ZIt hs g n v a;dsimp only[cJ,wg,lr,cl,Ax];rw[d];by_cases c:Fp s true n v=0
 ·have i:AK (A0 s 16 n v):=D2 (U3 g.asc 16 n v) a;have e:=lM hs g n v a (fP.1 c).2.1;obtain⟨b,f,h⟩:=QX Ah v (A0 s 16 n v) (ZRB a) a i;refine⟨b,?_,by simp[c,h]⟩;simp[c,e,f]
 ·exact⟨false,by simp[c],by simp[c]⟩
theorem yO{s:Scm}(hs:Ap (Al s)<=1048576)(n:ByteArray)(v:Val)(a:AK v):cm s n v=some (decide (Fp s false n v=0)):=by dsimp only[cm,wg,lr,cl];rw[tc hs false n v a];rfl
theorem Zmp{s:Scm}{n:ByteArray}{v:Val}(hs:Ap (Al s)<=1048576)(_:(0:Nat)<=1)(x:Ap (Ae v)<=1048576):bK s n v=some true:=by
 obtain⟨f,j,t⟩:=o16 hs;dsimp only[bK,br,wg,lr,cl,Ax,br];rw[j,ZRa];cases f with
 |false=>simp
 |true=>
 have g:=ZI9 (t rfl) hs;have a:AK v:=x;obtain⟨h,k,u⟩:=Zx5 hs g n v a;obtain⟨i,l,w⟩:=zJ hs g n v a;have m:=yO hs n v a;have r:i=h:=KQ.2 (w.trans u.symm);subst r;rw[k,l,m];by_cases c:Fp s false n v=0
 ·have ok:=(fP.1 c).2.1;have e:AK (A0 s 16 n v):=D2 (U3 g.asc 16 n v) a;have o:=lM hs g n v a ok;have p:=sC hs g n v a ok;obtain⟨b,q,d⟩:=mN e e;have d:=d.2 rfl;subst d;simp[c,o,p,q]
 ·simp[c]
end Go.Proofs.YtalafnjhcecdpaaGreatDoor
namespace Go.Proofs.YtalafnjhcecdpaaGreatDoor
set_option linter.all false
open Go Go.Eng Go.ChangeShapes Go.WideShapes Go.ChangeAt Go.RowKit
theorem own:ownKnob Tryz.prog.godebug=none:=aC
def ZHl:Obj->Obj
 |.cells _ t frozen=>.cells #[.int .u64 1,.int .u64 10,.int .u64 100,.int .u64 1000,.int .u64 10000,.int .u64 100000,.int .u64 1000000,.int .u64 10000000,.int .u64 100000000,.int .u64 1000000000,.int .u64 10000000000,.int .u64 100000000000,.int .u64 1000000000000,.int .u64 10000000000000,.int .u64 100000000000000,.int .u64 1000000000000000,.int .u64 10000000000000000,.int .u64 100000000000000000,.int .u64 1000000000000000000,.int .u64 10000000000000000000] t frozen
 |o=>o
def ZLX:Obj->Obj
 |.cells _ t frozen=>.cells #[.int .u8 0,.int .u8 1,.int .u8 28,.int .u8 2,.int .u8 29,.int .u8 14,.int .u8 24,.int .u8 3,.int .u8 30,.int .u8 22,.int .u8 20,.int .u8 15,.int .u8 25,.int .u8 17,.int .u8 4,.int .u8 8,.int .u8 31,.int .u8 27,.int .u8 13,.int .u8 23,.int .u8 21,.int .u8 19,.int .u8 16,.int .u8 7,.int .u8 26,.int .u8 12,.int .u8 18,.int .u8 6,.int .u8 11,.int .u8 5,.int .u8 10,.int .u8 9] t frozen
 |o=>o
def ZMV:Obj->Obj
 |.cells _ t frozen=>.cells #[.int .u8 0,.int .u8 1,.int .u8 56,.int .u8 2,.int .u8 57,.int .u8 49,.int .u8 28,.int .u8 3,.int .u8 61,.int .u8 58,.int .u8 42,.int .u8 50,.int .u8 38,.int .u8 29,.int .u8 17,.int .u8 4,.int .u8 62,.int .u8 47,.int .u8 59,.int .u8 36,.int .u8 45,.int .u8 43,.int .u8 51,.int .u8 22,.int .u8 53,.int .u8 39,.int .u8 33,.int .u8 30,.int .u8 24,.int .u8 18,.int .u8 12,.int .u8 5,.int .u8 63,.int .u8 55,.int .u8 48,.int .u8 27,.int .u8 60,.int .u8 41,.int .u8 37,.int .u8 16,.int .u8 46,.int .u8 35,.int .u8 44,.int .u8 21,.int .u8 52,.int .u8 32,.int .u8 23,.int .u8 11,.int .u8 54,.int .u8 26,.int .u8 40,.int .u8 15,.int .u8 34,.int .u8 20,.int .u8 31,.int .u8 10,.int .u8 25,.int .u8 14,.int .u8 19,.int .u8 9,.int .u8 13,.int .u8 8,.int .u8 7,.int .u8 6] t frozen
 |o=>o
noncomputable def dJ(os:Os):World:=
 {World.holding Tryz.prog os ⟨#[],#[],[]⟩with heap:=(((World.holding Tryz.prog os ⟨#[],#[],[]⟩).heap.modify 0 ZHl).modify 2 ZLX).modify 3 ZMV }
namespace ValueNorms
open Go.Proofs.YtalafnjhcecdpaaGreatDoor
set_option maxRecDepth 100000 in
theorem ZxV(H:Type)(enc:TypeId×Value->H)(W:World)(base:Nat)(args:Array Value)(ds gs:List (DataW H))(before:List MemPlace)
  (hval:∀(j:Nat) t v,Tryz.f3.params[j]?=some t->args[j]?=some v->Value.okWide Tryz.prog W .any base t v)
  (hW:DataW.Whole enc Tryz.prog Tryz.f3.params.toList Rows.valueNormsSpec.vars false W args.toList ds gs before) (hk:Rows.uptoSmall H (ds++gs)=true):
  Calls Tryz.prog 3 args W λe W'=>∃v,e=.returned v/\Rows.valueNormsSpec.post enc Tryz.prog Tryz.f3 false true false false W args v W':=by
 obtain⟨p,q,hA0,hV,rfl,hfz,hnd⟩:=id hW;have hA:DataW.TrodAll enc Tryz.prog W 0 (λ_=>true) true Tryz.f3.params.toList args.toList ds p:=hA0;rw[Tryz.params3]at hA hval;obtain⟨v0,vs0,d0,ds0,p0,q0,hargs,rfl,rfl,h0,r0⟩:=trodAll_cons hA;obtain⟨v1,vs1,d1,ds1,p1,q1,rfl,rfl,rfl,h1,r1⟩:=trodAll_cons r0;obtain⟨v2,vs2,d2,ds2,p2,q2,rfl,rfl,rfl,h2,r2⟩:=trodAll_cons r1;obtain⟨rfl,rfl,rfl⟩:=trodAll_nil r2;obtain rfl:args=#[v0,v1,v2]:=by cases args;simp_all
 have hb:Rows.uptoBulkAll ([d0,d1,d2]++gs)<=1048576:=Y9 hk;simp only[H5,He,Rows.uptoBulkAll]at hb;obtain⟨s,re0,fe0⟩:=tU zt Tryz.underlying26 (hval 0 26 v0 rfl rfl) h0;obtain⟨n,re1,fe1⟩:=y4 Tryz.underlying9 (hval 1 9 v1 rfl rfl) h1;obtain⟨v,re2,fe2⟩:=tU fy Tryz.underlying33 (hval 2 33 v2 rfl rfl) h2;obtain⟨rfl,rfl⟩:=trodVars_none hV;have A:=(wL s n v).k 0 iF true (Zmp ae ae ae);refine(A.2 (λ_=>⟨0,0,0⟩) (· <W.heap.size) W #[v0,v1,v2] (ok0 _) (zf (xs:=[.agg ((Al s).map .d),.d (.str n),.agg ((Ae v).map .d)]) (vs:=[v0,v1,v2]) ⟨re0 _ _,re1 _ _ _ _,re2 _ _,trivial⟩)).mono λe W' ⟨r,v,H',m',S',he,hp,hO,hr,hx⟩=>?_;obtain⟨hp,_⟩:=hp;subst he;subst hp;cases hr;rename_i hd;cases hd;exact⟨_,rfl,Ztt hW rfl aC (by rw[Tryz.params3];exact(by decide+kernel)) aC Tryz.underlying4 rfl ⟨hx.os,hx.tape,hx.output,hx.size,hx.blk⟩⟩
theorem Zyh(os:Os):laidMet Tryz.prog Rows.valueNormsUptoRow.laid ((dJ os).forCall (λ_ _=>0) ⟨#[],#[.agg #[.slice none 0 0,.slice none 0 0,.slice none 0 0],.string ⟨#[]⟩,.agg #[.int .i64 0,.int .u64 0,.string ⟨#[]⟩,.slice none 0 0,.slice none 0 0,.slice none 0 0,.slice none 0 0]],[]⟩).memory:=
 laidMet_of_run' 8 aC aC
theorem ZLZ(os:Os){H:Type}(enc:TypeId×Value->H):∃a,DataW.whole enc Tryz.prog ((dJ os).forCall (λ_ _=>0) ⟨#[],#[.agg #[.slice none 0 0,.slice none 0 0,.slice none 0 0],.string ⟨#[]⟩,.agg #[.int .i64 0,.int .u64 0,.string ⟨#[]⟩,.slice none 0 0,.slice none 0 0,.slice none 0 0,.slice none 0 0]],[]⟩).memory Tryz.f3.params.toList Rows.valueNormsSpec.vars false (#[.agg #[.slice none 0 0,.slice none 0 0,.slice none 0 0],.string ⟨#[]⟩,.agg #[.int .i64 0,.int .u64 0,.string ⟨#[]⟩,.slice none 0 0,.slice none 0 0,.slice none 0 0,.slice none 0 0]]:Array Value).toList 8=some ([.agg [.nil,.nil,.nil],.lit (.string []),.agg [.lit (.int .i64 0),.lit (.int .u64 0),.lit (.string []),.nil,.nil,.nil,.nil]],[],a):=
 ⟨[],aC⟩
set_option maxRecDepth 100000 in
theorem Zqt(os:Os)(started:os.Started)(H:Type)(enc:TypeId×Value->H)(F:Stop.Interp):
  ReturnsInHanded {} Tryz.checked os 3 .any ((Rows.OpenSpec.upto Rows.valueNormsSpec).preRow enc Tryz.prog Tryz.f3 Rows.valueNormsUptoRow.domain false Rows.valueNormsUptoRow.laid) (((Rows.OpenSpec.upto Rows.valueNormsSpec).at F).post enc Tryz.prog Tryz.f3 false true false false):=by
 obtain⟨places,hx⟩:=ZLZ os enc;refine returnsInHanded_of_row (C:=Tryz.checked) (s:=Rows.OpenSpec.upto Rows.valueNormsSpec) own started aC Tryz.func3
  (witness_row_at (enc:=enc) (C:=Tryz.checked) false (dJ os) #[.agg #[.slice none 0 0,.slice none 0 0,.slice none 0 0],.string ⟨#[]⟩,.agg #[.int .i64 0,.int .u64 0,.string ⟨#[]⟩,.slice none 0 0,.slice none 0 0,.slice none 0 0,.slice none 0 0]] rfl aC aC aC
   (OpenSpec.preRow_of_cond 8 hx aC (λk hk=>by cases hk;kernel_rfl) aC (Zyh os))) ?_
 intro W base args ds gs before hval hW _ hcond _ hL _ _;exact ZxV H enc W base args ds gs before hval hW (hcond _ rfl)
end ValueNorms
end Go.Proofs.YtalafnjhcecdpaaGreatDoor
namespace Go.Proofs.YtalafnjhcecdpaaGreatDoor
set_option linter.all false
open Go Go.ChangeShapes Go.WideShapes Go.ChangeAt Go.RowKit
namespace ValueNorms
open Go.Proofs.YtalafnjhcecdpaaGreatDoor
theorem BY{a b:Bool}(c:a=true)(d:b=true):(a&&b)=true:=by rw[c,d];rfl
set_option maxRecDepth 100000 in
set_option maxHeartbeats 4000000 in
theorem xi:joinedFacts Tryz.pinned.checked.prog 3 Tryz.f3 (Rows.OpenSpec.upto Rows.valueNormsSpec).bare Rows.valueNormsUptoRow=true:=by
 unfold joinedFacts;refine BY (BY (BY (BY (BY (BY (BY (BY (BY (BY (BY (BY (BY (BY (BY (BY (BY (BY (BY (BY (BY (BY (BY (BY (BY (BY (BY (BY (BY (BY (BY ?_ ?_) ?_) ?_) ?_) ?_) ?_) ?_) ?_) ?_) ?_) ?_) ?_) ?_) ?_) ?_) ?_) ?_) ?_) ?_) ?_) ?_) ?_) ?_) ?_) ?_) ?_) ?_) ?_) ?_) ?_) ?_
 all_goals(as_aux_lemma=>kernel_rfl)
end ValueNorms
end Go.Proofs.YtalafnjhcecdpaaGreatDoor
