import Derived.Test.YtalafnjhcecdpaaGreatDoorZa23
import Derived.Test.YtalafnjhcecdpaaGreatDoorZa22
import Derived.Test.YtalafnjhcecdpaaGreatDoorZa00
namespace Go.Proofs.YtalafnjhcecdpaaGreatDoor
set_option linter.all false
open Go Go.Eng
theorem Uw{α ξ ρ:Type}{B:Nat->Option (Lv Nat ξ ρ)}{N:Nat}(l:List α)(p:α->Bool)(r:ρ)(e:ξ)
  (hs:∀i x,l[i]?=some x->B i=some (if p x=true then .rt r else .nx (i+1))) (he:B l.length=some (.ex e)) (hN:l.length<N):Aj B N 0=some (if l.any p=true then .inr r else .inl e):=by
 rw[Ez l p (λ_=>r) e hs he hN,<-Mk];cases l.findIdx? p<;>rfl
theorem w8(v:Val)(k:Int)(h:v.slots.length<=1048576):bN v k=some (CU v.slots k):=by
 have c:v.slots.length<4611686018427387904:=ae
 have d:=Ez (B:=Qx v k) (N:=Ah) v.slots (λx=>decide (x.num=k)) (λ_=>true) () (λi x hx=>by
  have a:=A5 hx;have e:=(Yc.1 hx).1;have b:i+1<9223372036854775808:=ae
  dsimp only[Qx,br,ix,vz,wg,vs,Aq,ln,Af,wa,Ai,br];simp only[c,a,b,hx,Yo,Yp,Ya];cases decide (x.num=k)<;>simp) (by simp[Qx,br,ix,vz,wg,vs,Aq,ln,Af,wa,Ai,br]) (AM ae)
 dsimp only[bN,lr,lc];unfold CU;rw[d,<-Mk];cases v.slots.findIdx? λx=>decide (x.num=k)<;>rfl
theorem yG{s:Scm}(hs:Ap (Al s)<=1048576)(m:Msg)(x:Raw)(hm:m.fields.length<=1048576)(hx:x.data.size<=1048576):b5 s m x=some (Ga s m.fields x):=by
 have h:=DX hs;have A:x.data.size<4611686018427387904:=ae
 have o:=vW s (AU m.fields x.num).type.name h.el;have d:x.bits<2147483648->PL (B8 s (AU m.fields x.num).type.name).1 x.bits=_:=λy=>uv _ _ (UL h _) (tu hs _) ae;have w:(BG m.fields x.num).1=AU m.fields x.num:=rfl;dsimp only[b5,dO,br,vy,wg,lr,cl,Ax,A1,br];rw[gV _ _ hm,Ya,w];unfold Ga Rj;have j:((((((decide (x.num<1)||decide (65535<x.num))||decide (x.wire<0))||decide (6<x.wire))||(((decide (x.wire=0)||decide (x.wire=1))||decide (x.wire=2))&&!decide (x.data=⟨#[]⟩)))||((!((decide (x.wire=0)||decide (x.wire=1))||decide (x.wire=2)))&&!decide (x.bits=0)))=true)=(x.num<1\/65535<x.num\/x.wire<0\/6<x.wire\/(x.wire<=2/\x.data≠⟨#[]⟩)\/(2<x.wire/\x.bits≠0)):=by by_cases p:x.data=⟨#[]⟩<;>simp only[p,Yo,Yx,YN,YQ,Gp,H2,Mp,YB,Yb,YO,Yr,YE,Ic,ne_eq,H4,Gu,FG,Ie,Mr,eq_iff_iff]<;>omega
 have b:(if((decide (x.wire=3)&&decide ((4096:Int)<x.data.size))||decide ((65536:Int)<x.data.size))=true then some (3:Int)else some 0)=some (if(x.wire=3/\4096<x.data.size)\/65536<x.data.size then 3 else 0):=by
  by_cases c:(x.wire=3/\4096<x.data.size)\/65536<x.data.size
  ·rw[Ym c,Ym];simp only[YB,Yb,Yr];omega
  ·rw[Yk c,Yk];simp only[YB,Yb,Yr];omega
 by_cases c:x.num<1\/65535<x.num\/x.wire<0\/6<x.wire\/(x.wire<=2/\x.data≠⟨#[]⟩)\/(2<x.wire/\x.bits≠0)
 ·rw[Ym c,Ym (j▸c)]
 ·rw[Yk c,Yk (j▸c)];cases z:(BG m.fields x.num).2 with
  |false=>
   simp only[Yi,YC,Dl];exact b
  |true=>
   simp only[Yp,C1];rw[o,Ya];generalize (B8 s (AU m.fields x.num).type.name)=a at d⊢;generalize AU m.fields x.num=f at d⊢;by_cases k:f.type.kind=9/\a.2=true/\a.1.opn=false/\¬f.card=5/\x.wire=0/\x.bits<2147483648
   ·obtain⟨q,r,t,u,l,n⟩:=k;have i:¬(2147483648<=x.bits):=ae;simp only[q,r,t,u,l,n,i,d n,Yo,Yx,YN,YQ,KS,Gq,Jw,Y0,YI,Yp,H1,Y4];cases Gl a.1 x.bits with
    |true=>simp only[Yp,YN]
    |false=>
     simp only[Yi,YC,YQ,reduceCtorEq];rw[l]at b;simpa using b
   ·have i:((((((!decide (f.type.kind=9))||(!a.2))||a.1.opn)||decide (f.card=5))||(!decide (x.wire=0)))||decide (2147483648<=x.bits))=true:=(by simp only[YB,YO,Yr,YE];cases e:a.2<;>cases g:a.1.opn<;>simp only[e,g,C1,Ie,Dl,FG,reduceCtorEq,Gu,true_or,or_true,Mr,or_false]at k⊢<;>omega);have v:(decide (f.type.kind=9)&&a.2&&!a.1.opn&&!decide (f.card=5)&&decide (x.wire=0)&&decide (x.bits<2147483648)&&!Gl a.1 x.bits)=false:=(by rw[Ia];left;cases e:a.2<;>cases g:a.1.opn<;>simp only[e,g,Gp,Y5,YN,YQ,H2]at k⊢;simp only[Ia,Sf,YE,Yr];simp only[C1]at k;omega);simp only[i,v,YN,Yi,H3,Yp,Ha]
theorem Zvb(R:V7)(l:Fld->Val->Int)(s:Scm)(m:Msg)(v:Val)(i:Nat)(x:Slt)(a:Int)(k:Bool)(hm:m.fields.length<=1048576)(hl:v.slots.length<=1048576)(hx:v.slots[i]?=some x)(F:1<=a/\a<=16)(t:∀f:Fld,(BG m.fields x.num)=(f,true)->R s f x.val (a+1) k=some (l f x.val)):TK R s m v i a k=some (DR l m.fields v.slots i x):=by
 have hi:=(Yc.1 hx).1;have c:(v.slots.take i).length=i:=by rw[YD];omega
 have b:∀(j:Nat) (y:Slt),(v.slots.take i)[j]?=some y->j<i/\v.slots[j]?=some y:=λj y hy=>by
  rw[Y6]at hy;split at hy
  ·exact⟨by assumption,hy⟩
  ·cases hy
 have A:∀y:Fld×Bool,Aj (NG s m v i a k R y) Ah 0=some (if CU (v.slots.take i) y.1.num=true then .inr 9 else .inl ()):=λy=>by have q:=Uw (B:=NG s m v i a k R y) (N:=Ah) (v.slots.take i) (λz=>decide (z.num=y.1.num)) (9:Int) () (λj z h=>by obtain⟨p,d⟩:=b j z h;have e:(j:Int)<i:=ae;have g:j+1<9223372036854775808:=ae;dsimp only[NG,br,ix,wg,vs,Aq,ln,Af,wa,br];simp only[d,e,g,Yo,Yp,Ya];cases decide (z.num=y.1.num)<;>simp) (by rw[c];dsimp only[NG,br,ix,wg,vs,Aq,ln,Af,wa,br];simp) (by rw[c];exact AM ae);exact q
 have C:∀y:Fld×Bool,Aj (NJ s m v i a k R y) Ah 0=some (if G0 m.fields (v.slots.take i) y.1.union=true then .inr 15 else .inl ()):=λy=>by
  have q:=Uw (B:=NJ s m v i a k R y) (N:=Ah) (v.slots.take i) (λz=>(!decide (y.1.union=⟨#[]⟩))&&decide ((AU m.fields z.num).union=y.1.union)) (15:Int) () (λj z h=>by obtain⟨p,d⟩:=b j z h;have e:(j:Int)<i:=ae;have g:j+1<9223372036854775808:=ae;have r:(BG m.fields z.num).1=AU m.fields z.num:=rfl;dsimp only[NJ,UZ,br,ix,wg,vs,Aq,ln,Af,lc,cl,wa,du,br];simp only[d,e,g,gV _ _ hm,r,Yo,Yp,Ya];cases(!decide (y.1.union=⟨#[]⟩))&&decide ((AU m.fields z.num).union=y.1.union)<;>simp) (by rw[c];dsimp only[NJ,UZ,br,ix,wg,vs,Aq,ln,Af,lc,cl,wa,du,br];simp) (by rw[c];exact AM ae);rw[q];congr 2;unfold G0;by_cases o:y.1.union=⟨#[]⟩
  ·simp only[o,Yo,YN,Y5,eq_iff_iff,Yi,iff_false,YU,not_exists,FG,Gu,CQ]
  ·simp only[o,Yx,YQ,Y4]
 have w0:(0:Int)<=i/\(i:Int)<v.slots.length:=ae
 have D:(BG m.fields x.num).1=AU m.fields x.num:=rfl;have w2: -9223372036854775808<=a+1/\a+1<9223372036854775808:=ae
 have E:(v.slots.getD i Rw.z)=x:=by rw[Yg,hx];rfl
 unfold DR;dsimp only[TK,eK,br,Di,vw,wg,vs,lr,lc,cl,cs,wi,du,br];simp only[YW,hx,w0,E,B5,Yp,gV _ _ hm,Ya,A,C,D,w2];cases n:(BG m.fields x.num).2 with
 |false=>simp
 |true=>
  have u:(AU m.fields x.num).num=x.num:=Uu n;have w:=t (AU m.fields x.num) (Prod.ext rfl n);rw[u];cases CU (v.slots.take i) x.num with
  |true=>simp
  |false=>
   cases G0 m.fields (v.slots.take i) (AU m.fields x.num).union with
   |true=>simp
   |false=>simp[w]
theorem tN(R:V7){s:Scm}(hs:Ap (Al s)<=1048576)(m:Msg)(v:Val)(d:Nat)(K:d<=16)(k:Bool)(hm:m.fields.length<=1048576)(o:AK v)(D:∀d':Nat,d=d'+1->∀(f:Fld) (x:Val),AK x->R s f x (17-(d':Int)) k=some (BN (AP s k d') s k f x)):PD R s m v (17-(d:Int)) k=some (AP s k d m v):=by
 have h:=DX hs;have F:=Cm o;obtain⟨s1,s2,L,t,M⟩:=Cm o;have u:m.fields.length<4611686018427387904:=ae
 have w:v.slots.length<4611686018427387904:=ae
 have y:v.raws.length<4611686018427387904:=ae
 dsimp only[PD,br,wg,lr,lc,Ax,br];rw[fh F];by_cases c:v.kind≠10\/BO v=true
 ·have z:AP s k d m v=12:=by cases d<;>(unfold AP;rw[Ym c])
  rw[z];by_cases a:v.kind=10
  ·have n:BO v=true:=c.resolve_left λe=>e a;simp[a,n]
  ·simp[a]
 ·have a:v.kind=10:=Decidable.not_not.1 λe=>c (.inl e);have n:BO v=false:=by
   cases h:BO v with
   |false=>rfl
   |true=>exact absurd (.inr h) c
  cases d with
  |zero=>
   unfold AP;rw[Yk c];simp[a,n]
  |succ d=>
   have G:(1:Int)<=17-((d+1:Nat):Int)/\17-((d+1:Nat):Int)<=16:=ae;have q:¬(16:Int)<17-((d+1:Nat):Int):=ae;have H:=Ho (B:=QW s m v (17-((d+1:Nat):Int)) k R) (N:=Ah) v.slots (DR (BN (AP s k d) s k) m.fields v.slots) id () (λi x hx _=>by
    have e:=Zvb R (BN (AP s k d) s k) s m v i x _ k hm t hx G λf j=>by have:=D d rfl f x.val (GQ o (Yh hx));rw[show 17-((d+1:Nat):Int)+1=17-(d:Int)by omega];exact this
    have b:=A5 hx;have g:i+1<9223372036854775808:=(by have:=(Yc.1 hx).1;omega);dsimp only[QW,br,vz,wg,vs,v2,Aq,ln,Af,cs,wa,Ai,br];simp only[w,b,g,e,Yo,Yp,Ya];by_cases hy:DR (BN (AP s k d) s k) m.fields v.slots i x=0<;>simp[hy]) (by dsimp only[QW,br,vz,wg,vs,v2,Aq,ln,Af,cs,wa,Ai,br];simp[w]) (AM ae)
   have I:=Ho (B:=Rn s m v R) (N:=Ah) m.fields (λ_ f=>Gi v.slots f) id () (λi f j _=>by have b:=A5 j;have g:i+1<9223372036854775808:=(by have:=(Yc.1 j).1;omega);have A:m.fields.getD i Rw.z=f:=(by rw[Yg,j];rfl);have C:(0:Int)<=i/\(i:Int)<m.fields.length:=⟨ae,b⟩;have e:=w8 v f.num t;unfold Gi;dsimp only[Rn,br,ix,AW,vz,wg,vs,Aq,ln,Af,Ax,wa,Ai,br];simp only[u,b,g,A,C,j,e,YW,Yo,Yp,Ya,B5,CQ,Y0,YI];by_cases E:f.card=1<;>cases CU v.slots f.num<;>simp[E]) (by dsimp only[Rn,br,ix,AW,vz,wg,vs,Aq,ln,Af,Ax,wa,Ai,br];simp[u]) (AM ae);have J:=Ho (B:=Rc s m v R) (N:=Ah) v.raws (λ_ x=>Ga s m.fields x) id () (λi x hx _=>by have b:=A5 hx;have g:i+1<9223372036854775808:=(by have:=(Yc.1 hx).1;omega);have e:=yG hs m x hm (ke o (Yh hx));dsimp only[Rc,br,ix,vz,wg,vs,Aq,ln,Af,cl,wa,Ai,br];simp only[y,b,g,hx,e,Yo,Yp,Ya];by_cases hy:Ga s m.fields x=0<;>simp[hy]) (by dsimp only[Rc,br,ix,vz,wg,vs,Aq,ln,Af,cl,wa,Ai,br];simp[y]) (AM ae);unfold AP;rw[Yk c];simp only[a,n,q,H,I,J,Yo,Yx,YN,YQ,KS,Yi,Jw,Y0,YI,Yp,YC,Ya];by_cases l:BT (DR (BN (AP s k d) s k) m.fields v.slots) v.slots 0=0
   ·by_cases p:BT (λ_ f=>Gi v.slots f) m.fields 0=0
    ·by_cases r:BT (λ_ x=>Ga s m.fields x) v.raws 0=0
     ·simp[l,p,r]
     ·simp[l,p,r]
    ·simp[l,p]
   ·simp[l]
theorem zp(R:V7){s:Scm}(hs:Ap (Al s)<=1048576)(t:Typ)(v:Val)(d:Nat)(p:d<=16)(k:Bool)(l:AK v)(o:∀d':Nat,d=d'+1->∀(f:Fld) (x:Val),AK x->R s f x (17-(d':Int)) k=some (BN (AP s k d') s k f x)):M5 R s t v (17-(d:Int)) k=some (B3 (AP s k d) s t v):=by
 have h:=DX hs;have hm:=tN R hs (A4 s t.name).1 v d p k (ND h _) l o;have n:v.bits<9223372036854775808->PL (B8 s t.name).1 v.bits=_:=λi=>uv _ _ (UL h _) (tu hs _) i;have m:M4 s t.name=some (A4 s t.name):=gO s _ h.ml;dsimp only[M5,br,wg,lr,cl,Ax,cs,br];rw[m,mg _ (Cm l),vW s _ h.el];simp only[Ya];unfold B3;by_cases c:t.kind=10
 ·simp only[c,Yo,Yp,hm,Ya];cases(A4 s t.name).2<;>simp
 ·by_cases e:t.kind<1\/9<t.kind
  ·have g:(decide (t.kind<1)||decide (9<t.kind))=true:=(by simpa using e);simp only[c,e,g,Yx,Yi,YC,Yp]
  ·have g:(decide (t.kind<1)||decide (9<t.kind))=false:=(by rw[Ic,YE,YE];omega);simp only[c,e,g,Yx,Yi,YC];by_cases a:CD t.kind v=0/\t.kind=9
   ·obtain⟨a,b⟩:=a;have i:v.bits<9223372036854775808:=by
     rw[b]at a;unfold CD at a;by_cases a1:v.kind≠9\/BO v=true
     ·rw[Ym a1]at a;cases a
     ·rw[Yk a1]at a;by_cases j:4096<v.text.size
      ·rw[Ym j]at a;cases a
      ·rw[Yk j]at a;cases a3:Fr 9 v with
       |false=>rw[a3]at a;simp at a
       |true=>
        unfold Fr at a3;simp only[Yb]at a3;have a4:=a3.2;rw[Yk (by decide)]at a4;simp only[Yb]at a4;have a5:=a4.2;unfold IR at a5;rw[Yk (by decide),Yk (by decide),Yk (by decide),Ym rfl,Yr]at a5;omega
    rw[n i,a,b];cases(B8 s t.name).2<;>cases(B8 s t.name).1.opn<;>cases Gl (B8 s t.name).1 v.bits<;>simp
   ·have b:((!decide (CD t.kind v=0))||!decide (t.kind=9))=true:=(by simp only[YB,YO,YE];omega);rw[Ym b,Ym ae]
theorem yE(R:V7){s:Scm}(hs:Ap (Al s)<=1048576)(f:Fld)(v:Val)(d:Nat)(S:d<=16)(k:Bool)(t:AK v)(Q:∀d':Nat,d=d'+1->∀(f:Fld) (x:Val),AK x->R s f x (17-(d':Int)) k=some (BN (AP s k d') s k f x)):Wp R s f v (17-(d:Int)) k=some (BN (AP s k d) s k f v):=by
 have h:=DX hs;have l:=Cm t;obtain⟨s1,s2,Y,Z,s5⟩:=Cm t;have G:v.list.length<4611686018427387904:=ae
 have w2:v.pairs.length<4611686018427387904:=ae
 have y:=λ(x:Val) (hx:AK x)=>zp R hs f.type x d S k hx Q;generalize 17-(d:Int)=A at y;have U:=Ho (B:=QG s f v A k R) (N:=Ah) v.list (λ_ x=>B3 (AP s k d) s f.type x) id () (λi x hx _=>by
  have w:=A5 hx;have g:i+1<9223372036854775808:=by have:=(Yc.1 hx).1;omega
  have e:=y x (Hx t (Yh hx));dsimp only[QG,br,ix,vz,wg,vs,v2,Aq,ln,Af,cs,wa,Ai,br];simp only[G,w,g,hx,e,Yo,Yp,Ya];by_cases hy:B3 (AP s k d) s f.type x=0<;>simp[hy]) (by dsimp only[QG,br,ix,vz,wg,vs,v2,Aq,ln,Af,cs,wa,Ai,br];simp[G]) (AM ae)
 have W:∀(i:Nat) (p:Pr),v.pairs[i]?=some p->Aj (LK s f v A k R i) Ah 0=some (if k=true/\((v.pairs.take i).any λq=>GU q.key p.key)=true then .inr 9 else .inl ()):=λi p c=>by
  have hi:=(Yc.1 c).1;have F:(v.pairs.take i).length=i:=by rw[YD];omega
  cases k with
  |false=>
   obtain⟨X,D⟩:∃b,Ah=b+1:=⟨Ah-1,by have:=AM (n:=20) ae;omega⟩;rw[D,Aj];dsimp only[LK,br,ix,AW,wg,vs,Aq,ln,Af,wa,br];simp
  |true=>
   have q:=Uw (B:=LK s f v A true R i) (N:=Ah) (v.pairs.take i) (λq=>GU q.key p.key) (9:Int) () (λj z l=>by
    have T:j<i/\v.pairs[j]?=some z:=by
     rw[Y6]at l;split at l
     ·exact⟨by assumption,l⟩
     ·cases l
    obtain⟨w,g⟩:=T;have J:(j:Int)<i:=ae;have K:j+1<9223372036854775808:=ae;have L:v.pairs.getD j Rw.z=z:=(by rw[Yg,g];rfl);have M:v.pairs.getD i Rw.z=p:=(by rw[Yg,c];rfl);have O:(0:Int)<=j/\(j:Int)<v.pairs.length:=ae;have P:(0:Int)<=i/\(i:Int)<v.pairs.length:=ae;unfold GU;dsimp only[LK,br,ix,AW,wg,vs,Aq,ln,Af,wa,br];simp only[g,J,K,L,M,O,P,c,YW,Yo,H2,Yp,Ya,B5,CQ];cases decide (z.key.bits=p.key.bits)&&decide (z.key.text=p.key.text)<;>simp) (by rw[F];dsimp only[LK,br,ix,AW,wg,vs,Aq,ln,Af,wa,br];simp) (by rw[F];exact AM ae)
   rw[q];simp
 have V:=Ho (B:=Qv s f v A k R) (N:=Ah) v.pairs (GY (B3 (AP s k d) s f.type) f.key k v.pairs) id () (λi p c _=>by
  have w:=A5 c;have g:i+1<9223372036854775808:=by have:=(Yc.1 c).1;omega
  have E:=Dr t (Yh c);have H:=mg f.key (Cm E.1);have I:=y p.val E.2;unfold GY;dsimp only[Qv,br,ix,vz,wg,vs,Aq,ln,Af,lc,cl,cs,wa,Ai,br];simp only[w2,w,g,c,H,I,W i p c,Yo,Yp,Ya];by_cases u:CD f.key p.key=0
  ·by_cases m:k=true/\((v.pairs.take i).any λq=>GU q.key p.key)=true
   ·simp[u,m]
   ·by_cases C:B3 (AP s k d) s f.type p.val=0
    ·rw[Yk m];simp only[u,m,C];simp
    ·rw[Yk m];simp only[u,m,C];simp[C]
  ·simp[u]) (by dsimp only[Qv,br,ix,vz,wg,vs,Aq,ln,Af,lc,cl,cs,wa,Ai,br];simp[w2]) (AM ae)
 have e0:=y v t;unfold BN;dsimp only[Wp,br,wg,lr,lc,Ax,cs,br];rw[fh l,U,V,e0];by_cases o:f.card=4
 ·by_cases a:v.kind=11
  ·cases BO v with
   |true=>simp[o,a]
   |false=>
    by_cases c6:BT (λ_ x=>B3 (AP s k d) s f.type x) v.list 0=0
    ·simp[o,a,c6]
    ·simp[o,a,c6]
  ·simp[o,a]
 ·by_cases r:f.card=5
  ·by_cases a:v.kind=12
   ·cases BO v with
    |true=>simp[r,a]
    |false=>
     by_cases c6:BT (GY (B3 (AP s k d) s f.type) f.key k v.pairs) v.pairs 0=0
     ·simp[r,a,c6]
     ·simp[r,a,c6]
   ·simp[r,a]
  ·simp[o,r]
theorem sK{s:Scm}(hs:Ap (Al s)<=1048576)(k:Bool):∀(a d:Nat),d<a->d<=16->∀(f:Fld) (v:Val),AK v->JO a s f v (17-(d:Int)) k=some (BN (AP s k d) s k f v)
 |0,d,b,_,_,_,_=>absurd b (Y2 _)
 |a+1,d,b,c,f,v,h=>yE (JO a) hs f v d c k h λd' e g x hx=>sK hs k a d' ae ae g x hx
theorem Zw:20<Ah:=AM ae
theorem Zwu{s:Scm}(hs:Ap (Al s)<=1048576)(m:Msg)(v:Val)(k:Bool)(hm:m.fields.length<=1048576)(a:AK v):PD (JO Ah) s m v 1 k=some (AP s k 16 m v):=
 tN (JO Ah) hs m v 16 (Yf _) k hm a λd' e f x hx=>sK hs k Ah d' (by have:=Zw;omega) ae f x hx
end Go.Proofs.YtalafnjhcecdpaaGreatDoor
namespace Go.Proofs.YtalafnjhcecdpaaGreatDoor
set_option linter.all false
open Go Go.Eng
mutual
theorem QH:∀v:Val,cnt v<=2*Ap (AE v)+1
 |.mk k b t l p s r=>by have a:=tg l;have c:=tj p;have d:=ud s;have f:=CH (e:=Ay) r;simp only[cnt,AE,Ap,bk];omega
theorem tg:∀l:List Val,AY l<=2*AR (NU l)
 |[]=>by simp[AY]
 |v::l=>by have a:=QH v;have b:=tg l;simp only[AY,NU,AR];omega
theorem ZuT:∀p:Pr,J6 p<=2*Ap (An p)+2
 |.mk k v=>by have a:=QH k;have b:=QH v;simp only[J6,An,NE];omega
theorem tj:∀l:List Pr,Bs l<=2*AR (MY l)
 |[]=>by simp[Bs]
 |v::l=>by have a:=ZuT v;have b:=tj l;simp only[Bs,MY,AR];omega
theorem Zw5:∀x:Slt,Kb x<=2*Ap (Ar x)+1
 |.mk n v=>by have a:=QH v;simp only[Kb,Ar,Ap,bk];omega
theorem ud:∀l:List Slt,BU l<=2*AR (N1 l)
 |[]=>by simp[BU]
 |v::l=>by have a:=Zw5 v;have b:=ud l;simp only[BU,N1,AR];omega
end
theorem fm(v:Val):cnt v=1+v.raws.length+AY v.list+Bs v.pairs+BU v.slots:=by cases v;simp only[cnt,Val.raws,Val.list,Val.pairs,Val.slots]
theorem eu(p:Pr):J6 p=cnt p.key+cnt p.val:=by cases p;simp only[J6,Pr.key,Pr.val]
theorem eB(x:Slt):Kb x=cnt x.val:=by cases x;simp only[Kb,Slt.val]
theorem J0:∀a b:List Val,AY (a++b)=AY a+AY b
 |[],b=>by simp[AY]
 |x::a,b=>by rw[H5,AY,AY,J0 a b];omega
theorem Uz:∀a b:List Pr,Bs (a++b)=Bs a+Bs b
 |[],b=>by simp[Bs]
 |x::a,b=>by rw[H5,Bs,Bs,Uz a b];omega
theorem Us:∀a b:List Slt,BU (a++b)=BU a+BU b
 |[],b=>by simp[BU]
 |x::a,b=>by rw[H5,BU,BU,Us a b];omega
theorem ur{v:Val}(h:AK v):cnt v<=2097153:=by have:=QH v;rw[GE]at this;have h:Ap (Ae v)<=1048576:=h;omega
theorem Ztn(l:List Val)(i:Nat):AY (l.take i)<=AY l:=by
 conv=>rhs;rw[<-H9 i l,J0]
 omega
theorem Zuk(l:List Pr)(i:Nat):Bs (l.take i)<=Bs l:=by
 conv=>rhs;rw[<-H9 i l,Uz]
 omega
theorem ZtT(l:List Slt)(i:Nat):BU (l.take i)<=BU l:=by
 conv=>rhs;rw[<-H9 i l,Us]
 omega
theorem sk{l:List Val}{i:Nat}{x:Val}(h:l[i]?=some x):AY (l.take i)+cnt x<=AY l:=by obtain⟨a,rfl⟩:=Yc.1 h;have:=Ztn l (i+1);rw[H6 a,J0,AY,AY]at this;omega
theorem ZwH{l:List Pr}{i:Nat}{x:Pr}(h:l[i]?=some x):Bs (l.take i)+J6 x<=Bs l:=by obtain⟨a,rfl⟩:=Yc.1 h;have:=Zuk l (i+1);rw[H6 a,Uz,Bs,Bs]at this;omega
theorem Zyr{l:List Slt}{i:Nat}{x:Slt}(h:l[i]?=some x):BU (l.take i)+Kb x<=BU l:=by obtain⟨a,rfl⟩:=Yc.1 h;have:=ZtT l (i+1);rw[H6 a,Us,BU,BU]at this;omega
theorem Qq:∀(g:Nat) (v:Val),Ap (Ae v)<g->AK v->JP g v=some (cnt v:Int)
 |0,v,h,_=>ae
 |g+1,v,h,k=>by
  obtain⟨s1,s2,D,E,F⟩:=Cm k;have y:=ur k;rw[fm]at y;have q:v.list.length<4611686018427387904:=ae
  have r:v.pairs.length<4611686018427387904:=ae
  have s:v.slots.length<4611686018427387904:=ae
  have z:v.raws.length<4611686018427387904:=ae
  have A:1+v.raws.length<9223372036854775808:=ae
  have t:=DB (B:=Rt v (JP g)) (N:=Ah) (ρ:=Int) v.list (λp=>((1+v.raws.length+AY p:Nat):Int)) (λi b=>(b,i)) id (λi x hx=>by have j:=A5 hx;have l:i+1<9223372036854775808:=(by have:=(Yc.1 hx).1;omega);have hm:=Yh hx;have e:=Qq g x (by have:=Wb hm;omega) (Hx k hm);have m:=sk hx;have d:((1+v.raws.length+AY (v.list.take i):Nat):Int)+(cnt x:Int)=((1+v.raws.length+AY (v.list.take i++[x]):Nat):Int):=(by rw[J0,AY,AY];omega);have f: -9223372036854775808<=((1+v.raws.length+AY (v.list.take i):Nat):Int)+(cnt x:Int)/\((1+v.raws.length+AY (v.list.take i):Nat):Int)+(cnt x:Int)<9223372036854775808:=ae;generalize ((1+v.raws.length+AY (v.list.take i):Nat):Int)=a at d f⊢;generalize ((1+v.raws.length+AY (v.list.take i++[x]):Nat):Int)=b at d⊢;generalize (cnt x:Int)=c at e d f;dsimp only[Rt,br,ix,vz,wg,vs,v2,ln,Af,cs,wa,wi,Ai,br];simp only[q,j,hx,Yo,Yp,Ya];rw[e,Ya,Ym f,Ym l,d]) (by dsimp only[Rt,br,ix,vz,wg,vs,v2,ln,Af,cs,wa,wi,Ai,br];simp[q]) (AM ae);have u:=DB (B:=Ro v (JP g)) (N:=Ah) (ρ:=Int) v.pairs (λp=>((1+v.raws.length+AY v.list+Bs p:Nat):Int)) (λi b=>(b,i)) id (λi x hx=>by have j:=A5 hx;have l:i+1<9223372036854775808:=(by have:=(Yc.1 hx).1;omega);have hm:=Yh hx;have e:=Qq g x.key (by have:=(LP hm).1;omega) (Dr k hm).1;have o:=Qq g x.val (by have:=(LP hm).2;omega) (Dr k hm).2;have m:=ZwH hx;rw[eu]at m;have d:((1+v.raws.length+AY v.list+Bs (v.pairs.take i):Nat):Int)+((cnt x.key:Int)+(cnt x.val:Int))=((1+v.raws.length+AY v.list+Bs (v.pairs.take i++[x]):Nat):Int):=(by rw[Uz,Bs,Bs,eu];omega);have f: -9223372036854775808<=((1+v.raws.length+AY v.list+Bs (v.pairs.take i):Nat):Int)+((cnt x.key:Int)+(cnt x.val:Int))/\((1+v.raws.length+AY v.list+Bs (v.pairs.take i):Nat):Int)+((cnt x.key:Int)+(cnt x.val:Int))<9223372036854775808:=ae;have n: -9223372036854775808<=(cnt x.key:Int)+(cnt x.val:Int)/\(cnt x.key:Int)+(cnt x.val:Int)<9223372036854775808:=ae;generalize ((1+v.raws.length+AY v.list+Bs (v.pairs.take i):Nat):Int)=a at d f⊢;generalize ((1+v.raws.length+AY v.list+Bs (v.pairs.take i++[x]):Nat):Int)=b at d⊢;generalize (cnt x.key:Int)=c at e d f n;generalize (cnt x.val:Int)=C at o d f n;dsimp only[Ro,br,ix,vz,wg,vs,ln,Af,cs,wa,wi,Ai,br];simp only[r,j,hx,Yo,Yp,Ya];rw[e,Ya,o,Ya,Ym n,Ym f,Ym l,d]) (by dsimp only[Ro,br,ix,vz,wg,vs,ln,Af,cs,wa,wi,Ai,br];simp[r]) (AM ae);have w:=DB (B:=QU v (JP g)) (N:=Ah) (ρ:=Int) v.slots (λp=>((1+v.raws.length+AY v.list+Bs v.pairs+BU p:Nat):Int)) (λi b=>(b,i)) id (λi x hx=>by have j:=A5 hx;have l:i+1<9223372036854775808:=(by have:=(Yc.1 hx).1;omega);have hm:=Yh hx;have e:=Qq g x.val (by have:=VY hm;omega) (GQ k hm);have m:=Zyr hx;rw[eB]at m;have d:((1+v.raws.length+AY v.list+Bs v.pairs+BU (v.slots.take i):Nat):Int)+(cnt x.val:Int)=((1+v.raws.length+AY v.list+Bs v.pairs+BU (v.slots.take i++[x]):Nat):Int):=(by rw[Us,BU,BU,eB];omega);have f: -9223372036854775808<=((1+v.raws.length+AY v.list+Bs v.pairs+BU (v.slots.take i):Nat):Int)+(cnt x.val:Int)/\((1+v.raws.length+AY v.list+Bs v.pairs+BU (v.slots.take i):Nat):Int)+(cnt x.val:Int)<9223372036854775808:=ae;generalize ((1+v.raws.length+AY v.list+Bs v.pairs+BU (v.slots.take i):Nat):Int)=a at d f⊢;generalize ((1+v.raws.length+AY v.list+Bs v.pairs+BU (v.slots.take i++[x]):Nat):Int)=b at d⊢;generalize (cnt x.val:Int)=c at e d f;dsimp only[QU,br,ix,vz,wg,vs,ln,Af,cs,wa,wi,Ai,br];simp only[s,j,hx,Yo,Yp,Ya];rw[e,Ya,Ym f,Ym l,d]) (by dsimp only[QU,br,ix,vz,wg,vs,ln,Af,cs,wa,wi,Ai,br];simp[s]) (AM ae);simp only[AY,Bs,BU,E2,id]at t u w;show Ss (JP g) v=_;dsimp only[Ss,vz,wg,vs,lr,lc,wa,Ai];simp only[z,A,Yp,t,u,w,Ya,C2];rw[fm]
theorem tc{s:Scm}(hs:Ap (Al s)<=1048576)(k:Bool)(n:ByteArray)(v:Val)(b:AK v):bI s n v k=some (Fp s k n v):=by
 have h:=DX hs;have e:M4 s n=some (A4 s n):=gO s _ h.ml;have f:=Zwu hs (A4 s n).1 v k (ND h _) b;have g:=Qq Ah v (by have i:Ap (Ae v)<=1048576:=b;exact AM ae) b;unfold Fp;dsimp only[bI,br,wg,lr,cl,br];rw[e,Ya,f,g];cases(A4 s n).2 with
 |false=>simp
 |true=>
  by_cases c:AP s k 16 (A4 s n).1 v=0
  ·by_cases d:4096<cnt v
   ·have a:(4096:Int)<cnt v:=ae;simp[c,d,a]
   ·have a:¬(4096:Int)<cnt v:=ae;simp[c,d,a]
  ·simp[c]
theorem y1{s:Scm}(hs:Ap (Al s)<=1048576)(n:ByteArray)(v:Val)(a:AK v):bR s n v=some (Fp s true n v):=by dsimp only[bR,wg,lr,cl];rw[tc hs true n v a];rfl
def D4(v:Val):List Val:=v.list++v.pairs.flatMap (λp=>[p.key,p.val])++v.slots.map λx=>x.val
theorem VF(l:List Pr):(l.flatMap λp=>[p.key,p.val]).length=2*l.length:=by
 induction l with
 |nil=>rfl
 |cons p l a=>rw[Xw,Yt,a];simp;omega
theorem zd(l:List Pr):AY (l.flatMap λp=>[p.key,p.val])=Bs l:=by
 induction l with
 |nil=>rfl
 |cons p l a=>rw[Xw,J0,a,Bs,eu,AY,AY,AY];omega
theorem yB(l:List Slt):AY (l.map λx=>x.val)=BU l:=by
 induction l with
 |nil=>rfl
 |cons p l a=>rw[YZ,AY,a,BU,eB]
theorem sI(v:Val):1+v.raws.length+AY (D4 v)=cnt v:=by unfold D4;rw[J0,J0,zd,yB,fm];omega
theorem Zwr{v x:Val}(e:AK v)(hx:x∈D4 v):AK x/\Ap (Ae x)+1<=Ap (Ae v):=by
 unfold D4 at hx;rcases Hg.1 hx with d|d
 ·rcases Hg.1 d with c|c
  ·exact⟨Hx e c,by have:=Wb c;omega⟩
  ·obtain⟨p,a,b⟩:=List.mem_flatMap.1 c;have g:=LP a;have f:=Dr e a;rcases Yy.1 b with rfl|b
   ·exact⟨f.1,ae⟩
   ·rcases Yy.1 b with rfl|b
    ·exact⟨f.2,ae⟩
    ·cases b
 ·obtain⟨y,a,rfl⟩:=YV.1 d;exact⟨GQ e a,by have:=VY a;omega⟩
theorem Zyb(l:List Val)(h:l.length<549755813888):T9 l=some l:=by
 cases l with
 |nil=>rfl
 |cons x r=>
  dsimp only[T9,al,br,vw,lr,a0,mv,br];simp only[D0]at h;simp;omega
theorem yi{v:Val}(h:SzV v):cW v=some (D4 v):=by
 obtain⟨t1,t2,t3,t4,t5⟩:=h;have e:=DB (B:=RC v) (N:=Ah) (ρ:=List Val) v.pairs (λp=>v.list++p.flatMap λp=>[p.key,p.val]) (λi b=>(b,i)) id (λi y hy=>by
  have a:=A5 hy;have g:=(Yc.1 hy).1;have c:i+1<9223372036854775808:=ae
  have d:(v.list++(v.pairs.take i).flatMap λp=>[p.key,p.val]).length<549755813800:=by rw[Yt,VF,YD];omega
  rw[List.flatMap_append,<-DZ];generalize (v.list++(v.pairs.take i).flatMap λp=>[p.key,p.val])=L at d⊢;dsimp only[RC,br,ix,vz,vw,wg,vs,ln,Af,gy,wa,fl,br];simp[a,hy,c]<;>omega) (by have:(v.list++v.pairs.flatMap λp=>[p.key,p.val]).length<549755813800:=(by rw[Yt,VF];omega);dsimp only[RC,br,ix,vz,vw,wg,vs,ln,Af,gy,wa,fl,br];simp) (AM ae)
 have f:=DB (B:=Rq v) (N:=Ah) (ρ:=List Val) v.slots (λp=>(v.list++v.pairs.flatMap λp=>[p.key,p.val])++p.map λx=>x.val) (λi b=>(b,i)) id (λi y hy=>by
  have a:=A5 hy;have g:=(Yc.1 hy).1;have c:i+1<9223372036854775808:=ae
  have d:((v.list++v.pairs.flatMap λp=>[p.key,p.val])++(v.slots.take i).map λx=>x.val).length<549755813800:=by rw[Yt,Yt,VF,YF,YD];omega
  rw[D1,<-DZ];generalize ((v.list++v.pairs.flatMap λp=>[p.key,p.val])++(v.slots.take i).map λx=>x.val)=L at d⊢;dsimp only[Rq,br,ix,vz,vw,wg,vs,ln,Af,ap,wa,fl,br];simp[a,hy,c]<;>omega) (by dsimp only[Rq,br,ix,vz,vw,wg,vs,ln,Af,ap,wa,fl,br];simp) (AM ae)
 rw[show(v.list++([]:List Pr).flatMap λp=>[p.key,p.val])=v.list by simp]at e;rw[show((v.list++v.pairs.flatMap λp=>[p.key,p.val])++([]:List Slt).map λx=>x.val)=(v.list++v.pairs.flatMap λp=>[p.key,p.val])by simp]at f;dsimp only[cW,vz,wg,lr,lc,fl,fr,Ai];rw[Zyb _ ae];simp only[Ya,e,f,id,C2];rfl
theorem ZxO{v:Val}(h:SzV v):(D4 v).length<=4194304:=by obtain⟨t1,t2,t3,t4,t5⟩:=h;unfold D4;rw[Yt,Yt,VF,YF];omega
theorem uU:∀(d:Nat) (v:Val),Ap (Ae v)<d->AK v->M9 d v=some (cnt v:Int)
 |0,v,h,_=>ae
 |d+1,v,h,k=>by
  have j:=Cm k;have u:=j.r;have hl:=ZxO j;have o:=ur k;rw[<-sI]at o;have q:v.raws.length<4611686018427387904:=ae
  have r:1+v.raws.length<9223372036854775808:=ae
  have s:(D4 v).length<4611686018427387904:=ae
  have l:=DB (B:=Q1 (M9 d) (D4 v)) (N:=Ah) (ρ:=Int) (D4 v) (λp=>((1+v.raws.length+AY p:Nat):Int)) (λi b=>(b,i)) id (λi x hx=>by have m:=A5 hx;have n:i+1<9223372036854775808:=(by have:=(Yc.1 hx).1;omega);have hm:=Zwr k (Yh hx);have e:=uU d x ae hm.1;have t:=sk hx;have f:((1+v.raws.length+AY ((D4 v).take i):Nat):Int)+(cnt x:Int)=((1+v.raws.length+AY ((D4 v).take i++[x]):Nat):Int):=(by rw[J0,AY,AY];omega);have g: -9223372036854775808<=((1+v.raws.length+AY ((D4 v).take i):Nat):Int)+(cnt x:Int)/\((1+v.raws.length+AY ((D4 v).take i):Nat):Int)+(cnt x:Int)<9223372036854775808:=ae;generalize ((1+v.raws.length+AY ((D4 v).take i):Nat):Int)=a at f g⊢;generalize ((1+v.raws.length+AY ((D4 v).take i++[x]):Nat):Int)=b at f⊢;generalize (cnt x:Int)=c at e f g;dsimp only[Q1,br,ix,wg,vs,v2,ln,Af,cs,wa,wi,br];simp only[m,hx,Yo,Yp,Ya];rw[e,Ya,Ym g,Ym n,f]) (by dsimp only[Q1,br,ix,wg,vs,v2,ln,Af,cs,wa,wi,br];simp) (AM ae);simp only[AY,E2,id]at l;show SV (M9 d) v=_;dsimp only[SV,vz,wg,vs,lr,lc,cl,wa,Ai];rw[yi j];simp only[q,r,s,Yp,l,Ya,C2];rw[sI]
theorem U1{l:List Fld}(h:Ds l l.length):∀(d i:Nat) (a b:Fld),l[i]?=some a->l[i+1+d]?=some b->a.num<b.num
 |0,i,a,b,e,c=>h i a b (Yc.1 c).1 e c
 |d+1,i,a,b,e,c=>by
  have g:=(Yc.1 c).1;have f:i+1+d<l.length:=ae
  have j:=U1 h d i a l[i+1+d] e (Yd f);have k:=h (i+1+d) l[i+1+d] b ae (Yd f) c;omega
theorem zC{l:List Fld}(h:Ds l l.length){i:Nat}{f:Fld}(a:l[i]?=some f):∀g∈l.take i,g.num≠f.num:=λg b=>by obtain⟨j,c,rfl⟩:=iP.1 b;have:=U1 h (i-(j+1)) j _ f (Yd ae) (by rw[show j+1+(i-(j+1))=i by omega];exact a);omega
def wJ(F:List Fld):Prop:=∀f∈F,Jl f/\AK f.dflt
theorem Qe(F:List Fld)(k:Int):((BG F k).2=false/\AU F k=zF)\/((BG F k).2=true/\AU F k∈F):=by
 unfold AU BG Df;cases e:F.find? λf=>decide (f.num=k)with
 |none=>exact .inl ⟨rfl,rfl⟩
 |some f=>exact .inr ⟨rfl,Mm e⟩
theorem ZsH{F:List Fld}(h:Ds F F.length){i:Nat}{f:Fld}(a:F[i]?=some f):F=F.take i++f::F.drop (i+1)/\(∀g∈F.take i,g.num≠f.num)/\∀g∈F.drop (i+1),g.num≠f.num:=by
 obtain⟨hi,e⟩:=Yc.1 a;refine⟨?_,zC h a,λg c=>?_⟩
 ·rw[<-e,List.getElem_cons_drop,H9]
 ·obtain⟨d,b⟩:=YP.1 c;rw[YY]at b;have:=U1 h d i f g a b;omega
theorem NS{F:List Fld}(h:Ds F F.length){i:Nat}{f:Fld}(c:F[i]?=some f):BG F f.num=(f,true):=by
 obtain⟨e,b,j⟩:=ZsH h c;have a:F.find? (λg=>decide (g.num=f.num))=some f:=by rw[e,List.find?_append,List.find?_eq_none.2 λg d=>by simpa using b g d];simp
 unfold BG Df;rw[a];rfl
theorem yt{s:Scm}(h:∀(i:Nat) (m:Msg),s.messages[i]?=some m->GdM s m)(hs:Ap (Al s)<=1048576)(n:ByteArray):Ds (Bg s n) (Bg s n).length/\wJ (Bg s n)/\(Bg s n).length<=1048576:=by
 have hl:=ND (DX hs) n;unfold Bg Df at*;cases e:s.messages.find? λm=>decide (m.name=n)with
 |none=>exact⟨λi a b hi=>by simp[zM]at hi,λf c=>by simp[zM]at c,by simp[zM]⟩
 |some m=>
  rw[e]at hl;have hm:=Mm e;obtain⟨i,hi⟩:=YP.1 hm;have g:=h i m hi;refine⟨g.asc,λf c=>?_,hl⟩;obtain⟨j,k⟩:=YP.1 c;refine⟨(g.df j f k).1,?_⟩;have d:=Da (e:=AD) hm;have l:=Da (e:=Au) (show f∈m.fields from c);simp only[Al,Ap,bk]at hs;simp only[AD,Ap,bk]at d;have e:Ap (Ae f.dflt)<=Ap (Au f):=by simp only[Au,Ae,Ap,bk];omega
  show Ap (Ae f.dflt)<=1048576;omega
structure GdF (s:Scm) (f:Fld):Prop where
 en:f.type.kind=9->(B8 s f.type.name).2=true
 ms:f.type.kind=10->(A4 s f.type.name).2=true
 ty:1<=f.type.kind/\f.type.kind<=10
 un:f.union≠⟨#[]⟩->f.card=2
 cd:f.card≠5->1<=f.card/\f.card<=4
 np:f.type.kind=10->f.card≠3
 ky:f.card=5->f.key=1\/f.key=2\/f.key=3\/f.key=4\/f.key=5\/f.key=7
structure GdS (s:Scm):Prop where
 fl:∀(n:ByteArray) (f:Fld),f∈Bg s n->GdF s f
 asc:∀n:ByteArray,Ds (Bg s n) (Bg s n).length
theorem MV{n:Int}{v:Val}(h:CD n v=0):v.kind=n/\BO v=false/\v.text.size<=4096/\Fr n v=true:=by
 unfold CD at h;by_cases a1:v.kind≠n\/BO v=true
 ·rw[Ym a1]at h;cases h
 ·rw[Yk a1]at h;by_cases a:4096<v.text.size
  ·rw[Ym a]at h;cases h
  ·rw[Yk a]at h;cases a3:Fr n v with
   |false=>
    rw[a3]at h;rw[Yk (by decide)]at h;split at h<;>cases h
   |true=>
    refine⟨Decidable.not_not.1 λe=>a1 (.inl e),?_,ae,rfl⟩;cases b:BO v with
    |false=>rfl
    |true=>exact absurd (.inr b) a1
theorem xY{s:Scm}{t:Typ}{v:Val}{R:Msg->Val->Int}(a:1<=t.kind)(b:t.kind<=9)(he:t.kind=9->(B8 s t.name).2=true):MD s t v=B3 R s t v:=by
 unfold MD B3;rw[Yk (by omega:¬t.kind=10),Yk (by omega:¬(t.kind<1\/9<t.kind))];by_cases c:CD t.kind v≠0\/t.kind≠9
 ·rw[Ym c,Ym c]
 ·rw[Yk c,Yk c,he ae,Yk (by decide:¬true=false)]
theorem zT{n:Int}{a b:Val}(l:n=1\/n=2\/n=3\/n=4\/n=5\/n=7)(j:CD n a=0)(k:CD n b=0):WV a b=GU a b:=by
 obtain⟨a1,h,_,_⟩:=MV j;obtain⟨d,i,_,_⟩:=MV k;obtain⟨_,a3,a4⟩:=eF (n:=n) ae ae a1 h;obtain⟨_,e,f⟩:=eF (n:=n) ae ae d i;unfold WV GU;rw[a1,d,Yq rfl,Y4];unfold Dw at a3 a4 e f;by_cases c:n=7
 ·rw[a3 (Yq (.inl c)),e (Yq (.inl c)),Ym (.inl c)];simp
 ·have g:decide (n=7\/n=8)=false:=Ys ae;rw[a4 g,f g,Yk ae,Yk ae];simp
theorem Zwi(l:List Pr)(f:Pr->Option Bool)(p:Pr->Bool)(d:∀x∈l,f x=some (p x))(h:l.length<=1048576):PG l f=some (l.any p):=by
 have e:=Ez (B:=Qr l f) (N:=Ah) l p (λi=>(i:Int)) () (λi x hx=>by
  have a:=A5 hx;have g:=(Yc.1 hx).1;have b:i+1<9223372036854775808:=ae
  have c:=d x (Yh hx);dsimp only[Qr,br,ix,vs,Aq,ln,Af,cf,wa,br];simp only[a,b,c,hx,Yo,Yp,Ya];cases p x<;>simp) (by simp[Qr,br,ix,vs,Aq,ln,Af,cf,wa,br]) (AM ae)
 dsimp only[PG,lr,cs,cN,vz,lr,lc,Ai];rw[e,<-Mk];cases l.findIdx? p with
 |none=>rfl
 |some i=>simp
theorem eA(l:List Slt)(f:Slt->Option Bool)(p:Slt->Bool)(a:∀x∈l,f x=some (p x))(h:l.length<=1048576):M8 l f=some (l.any p):=by dsimp only[M8,lr,cs];rw[n70 l f p a ae];simp only[Ya];rw[xE]
theorem zx(l:List Slt)(f:Fld)(h:l.length<=1048576):T8 l f=some (CU l f.num):=by dsimp only[T8,lr,cs];rw[eA l (λz=>TT z f) (λx=>decide (x.num=f.num)) (λx _=>rfl) h];rfl
theorem ZJ3(l:List Slt)(f:Fld)(h:l.length<=1048576):Ua l f=some (CU l f.num):=by dsimp only[Ua,lr,cs];rw[eA l (λz=>TZ z f) (λx=>decide (x.num=f.num)) (λx _=>rfl) h];rfl
theorem z8(l:List Slt)(f:Fld)(h:l.length<=1048576):T7 l f=some (CU l f.num):=by dsimp only[T7,lr,cs];rw[eA l (λz=>T0 z f) (λx=>decide (x.num=f.num)) (λx _=>rfl) h];rfl
def HW(F:List Fld)(u:ByteArray):List Fld:=if u=⟨#[]⟩then[]else F.filter λf=>decide (f.union=u)
theorem x6(m:Msg)(u:ByteArray)(h:m.fields.length<=1048576):cT m u=some (HW m.fields u):=by
 unfold HW;by_cases c:u=⟨#[]⟩
 ·subst c;rfl
 ·dsimp only[cT,br,vz,wg,lr,lc,fl,fr,br];rw[m58 _ ae,Ya,m57 m.fields (λz=>TV z u) (λf=>!decide (f.union=u)) (λf _=>rfl) ae,Ya];simp[c]
theorem tt(F:List Fld)(u:ByteArray):(HW F u).length<=F.length:=by
 unfold HW;split
 ·exact Cn _
 ·exact Sb _ _
theorem U7{F:List Fld}(h:Ds F F.length){g:Fld}(a:g∈F):BG F g.num=(g,true):=by obtain⟨i,hi⟩:=YP.1 a;exact NS h hi
theorem zG{F:List Fld}(h:Ds F F.length)(l:List Slt)(k:Int)(j:CU l k=false)(u:ByteArray):((HW F u).any λg=>(!decide (g.num=k))&&CU l g.num)=G0 F l u:=by
 unfold HW G0;by_cases c:u=⟨#[]⟩
 ·simp[c]
 ·rw[Yk c,Ys c,YQ,Y4,KQ,YU,YU];constructor
  ·rintro⟨g,d,a⟩;obtain⟨m,n⟩:=Hf.1 d;rw[Yb]at a;obtain⟨y,o,i⟩:=YU.1 (show(l.any λx=>decide (x.num=g.num))=true from a.2);rw[Yr]at i;refine⟨y,o,?_⟩;unfold AU;rw[i,U7 h m];exact n
  ·rintro⟨y,d,a⟩;rw[Yr]at a;rcases Qe F y.num with⟨f,b⟩|⟨f,b⟩
   ·rw[b]at a;exact absurd a.symm c
   ·have p:=Uu f;refine⟨AU F y.num,Hf.2 ⟨b,Yq a⟩,?_⟩;rw[p,Yb];have hy:CU l y.num=true:=YU.2 ⟨y,d,Yq rfl⟩;refine⟨?_,hy⟩;rw[YO,YE];intro e;rw[e]at hy;rw[hy]at j;cases j
abbrev N4:=Scm->Fld->Val->Int->Option Int
theorem w5(R:N4)(n:Fld->Val->Int)(s:Scm)(m:Msg)(l:List Slt)(i:Nat)(x:Slt)(d:Int)(E:Ds m.fields m.fields.length)(hm:m.fields.length<=1048576)(hl:l.length<=1048576)(hx:l[i]?=some x)(D:∀f:Fld,f∈m.fields->R s f x.val d=some (n f x.val)):T4 R s m l i d=some (DR n m.fields l i x):=by
 have hi:=(Yc.1 hx).1;have t:(l.take i).length<=1048576:=by rw[YD];omega
 have w0:(0:Int)<=i/\(i:Int)<l.length:=ae
 have b:(0:Int)<=i/\(i:Int)<=l.length:=ae
 have c:i<=l.length:=ae
 have v:(BG m.fields x.num).1=AU m.fields x.num:=rfl;have I:(l.getD i Rw.z)=x:=by rw[Yg,hx];rfl
 have H:∀y:Fld×Bool,CU (l.take i) y.1.num=false->Aj (N2 s l i d R y (HW m.fields y.1.union)) Ah 0=some (if G0 m.fields (l.take i) y.1.union=true then .inr 15 else .inl ()):=λy hy=>by have u:=tt m.fields y.1.union;have q:=Uw (B:=N2 s l i d R y (HW m.fields y.1.union)) (N:=Ah) (HW m.fields y.1.union) (λg=>(!decide (g.num=y.1.num))&&CU (l.take i) g.num) (15:Int) () (λj g k=>by have A:=A5 k;have C:j+1<9223372036854775808:=(by have:=(Yc.1 k).1;omega);have e:=ZJ3 (l.take i) g t;dsimp only[N2,br,ix,wg,vs,Aq,ln,Af,CF,wa,br];simp only[A,C,k,b,c,e,YW,Bd.c,Bd.vl,OQ,Hh,Yo,Yp,Ya,B5,CQ,Y0,YI,Cn];cases(!decide (g.num=y.1.num))&&CU (l.take i) g.num<;>simp) (by dsimp only[N2,br,ix,wg,vs,Aq,ln,Af,CF,wa,br];simp) (AM ae);rw[q,zG E _ _ hy]
 have w:=zx (l.take i) (AU m.fields x.num) t;have z:=x6 m (AU m.fields x.num).union hm;have u:(HW m.fields (AU m.fields x.num).union).length<4611686018427387904:=by have:=tt m.fields (AU m.fields x.num).union;omega
 unfold DR;dsimp only[T4,Zk,br,Di,vz,vw,wg,lr,lc,cl,cs,sL,du,Ai,br];simp only[YW,hx,w0,b,c,I,B5,Yp,gW _ _ hm,Ya,v,Bd.c,Bd.vl,OQ,Hh,w,z,u,Cn];cases p:(BG m.fields x.num).2 with
 |false=>simp
 |true=>
  have r:(AU m.fields x.num).num=x.num:=Uu p;have a:AU m.fields x.num∈m.fields:=by
   rcases Qe m.fields x.num with⟨h,o⟩|⟨h,o⟩
   ·rw[p]at h;cases h
   ·exact o
  have G:=D _ a;have q:=H (BG m.fields x.num);rw[v,r]at q;rw[r];cases F:CU (l.take i) x.num with
  |true=>simp
  |false=>
   have q:=q F;simp only[q,YN,Yi,YC,Ya];cases G0 m.fields (l.take i) (AU m.fields x.num).union with
   |true=>simp
   |false=>simp[G]
theorem s7{α:Type}[Inhabited α]{l:List α}{z:α}{p:α->Bool}{x:α}(hx:x∈l)(a:p x=true):(Df l z p).2=true:=by
 unfold Df;cases e:l.find? p with
 |none=>exact absurd a (List.find?_eq_none.1 e x hx)
 |some y=>rfl
theorem ZI9{s:Scm}(h:∀(i:Nat) (m:Msg),s.messages[i]?=some m->GdM s m)(hs:Ap (Al s)<=1048576):GdS s:=by
 refine⟨λn f a=>?_,λn=>(yt h hs n).1⟩;unfold Bg Df at a;cases e:s.messages.find? λm=>decide (m.name=n)with
 |none=>rw[e]at a;cases a
 |some m=>
  rw[e]at a;obtain⟨i,hi⟩:=YP.1 (Mm e);obtain⟨j,g⟩:=YP.1 (show f∈m.fields from a);obtain⟨_,c,⟨t1,t2,t3⟩,u⟩:=(h i m hi).df j f g;refine⟨λk=>?_,λk=>?_,t3,u,λk=>⟨(c.1 k).1,(c.1 k).2.1⟩,λk=>(t2 k).2,c.2⟩
  ·obtain⟨x,b,d⟩:=t1 k;exact s7 b (Yq d)
  ·obtain⟨⟨x,b,d⟩,_⟩:=t2 k;exact s7 b (Yq d)
theorem JU{α ξ:Type}{B:Nat->Option (Lv Nat ξ Bool)}{N:Nat}(xs ys:List α)(e:ξ)(hl:xs.length=ys.length)
  (hs:∀(i:Nat) (x y:α),xs[i]?=some x->ys[i]?=some y->∃b:Bool,(b=true↔x=y)/\B i=some (if b=true then .nx (i+1)else .rt false)) (he:B xs.length=some (.ex e)) (hN:xs.length<N):
  Ok (Sum.elim (λ_=>xs=ys) (λr:Bool=>r=false/\xs≠ys)) (Aj B N 0):=by
 refine Bu (λi:Nat=>i<=xs.length/\∀j:Nat,j<i->xs[j]?=ys[j]?) (λi:Nat=>xs.length-i) ⟨Cn _,λj c=>absurd c (Y2 _)⟩ ae λi hi=>?_;obtain⟨k,d⟩:=hi;by_cases h:i<xs.length
 ·have hx:=Yd h;have hy:=Yd (hl▸h:i<ys.length);obtain⟨b,f,g⟩:=hs i _ _ hx hy;rw[g];cases b with
  |true=>
   refine⟨_,rfl,⟨⟨h,λj c=>?_⟩,by show xs.length-(i+1)<xs.length-i;omega⟩⟩;by_cases a:j=i
   ·subst a;rw[hx,hy,f.1 rfl]
   ·exact d j ae
  |false=>
   refine⟨_,rfl,rfl,λa=>?_⟩;subst a;exact absurd (f.2 rfl) (by decide)
 ·have a:i=xs.length:=ae
  subst a;rw[he];refine⟨_,rfl,List.ext_getElem? λj=>?_⟩;by_cases c:j<xs.length
  ·exact d j c
  ·rw[YT ae,YT ae]
abbrev Br{α:Type}(x y:α)(o:Option Bool):Prop:=Ok (λb:Bool=>b=true↔x=y) o
theorem Br.no{α:Type}{x y:α}(h:x≠y):Br x y (some false):=⟨false,rfl,Iff.intro (λe=>absurd e (by decide)) λe=>absurd e h⟩
theorem Br.yes{α:Type}{x y:α}(h:x=y):Br x y (some true):=⟨true,rfl,Iff.intro (λ_=>h) λ_=>rfl⟩
theorem jM{a b:Val}:a=b↔a.kind=b.kind/\a.bits=b.bits/\a.text=b.text/\a.list=b.list/\a.pairs=b.pairs/\a.slots=b.slots/\a.raws=b.raws:=by cases a;cases b;simp only[Val.kind,Val.bits,Val.text,Val.list,Val.pairs,Val.slots,Val.raws,Val.mk.injEq]
theorem nU{a b:Pr}:a=b↔a.key=b.key/\a.val=b.val:=by cases a;cases b;simp only[Pr.key,Pr.val,Pr.mk.injEq]
theorem jr{a b:Slt}:a=b↔a.num=b.num/\a.val=b.val:=by cases a;cases b;simp only[Slt.num,Slt.val,Slt.mk.injEq]
theorem vD{a b:Raw}:a=b↔a.num=b.num/\a.wire=b.wire/\a.bits=b.bits/\a.data=b.data:=by cases a;cases b;simp only[Raw.mk.injEq]
structure SzL (v:Val):Prop where
 l:v.list.length<=4194304
 p:v.pairs.length<=4194304
 s:v.slots.length<=4194304
 r:v.raws.length<=4194304
theorem SzV.l'{v:Val}(h:SzV v):SzL v:=⟨by have:=h.l;omega,by have:=h.p;omega,by have:=h.s;omega,by have:=h.r;omega⟩
theorem ZqK(R:Val->Val->Option Bool)(a b:Val)(L:SzL a)(z:SzL b)(hl:∀x∈a.list,∀y∈b.list,Br x y (R x y))(M:∀x∈a.pairs,∀y∈b.pairs,Br x.key y.key (R x.key y.key)/\Br x.val y.val (R x.val y.val))(hs:∀x∈a.slots,∀y∈b.slots,Br x.val y.val (R x.val y.val)):Br a b (Ta R a b):=by
 obtain⟨a1,X,a3,a4⟩:=L;obtain⟨Y,Z,b3,b4⟩:=z;have F:a.list.length<4611686018427387904:=ae
 have G:a.pairs.length<4611686018427387904:=ae
 have H:a.slots.length<4611686018427387904:=ae
 have I:a.raws.length<4611686018427387904:=ae
 have k1:b.list.length<4611686018427387904:=ae
 have k2:b.pairs.length<4611686018427387904:=ae
 have k3:b.slots.length<4611686018427387904:=ae
 have k4:b.raws.length<4611686018427387904:=ae
 have O:a.list.length=b.list.length->Ok (Sum.elim (λ_=>a.list=b.list) (λr:Bool=>r=false/\a.list≠b.list)) (Aj (Q9 a b R) Ah 0):=λe=>JU a.list b.list () e (λi x y hx hy=>by
  have d:=A5 hx;have g:i+1<9223372036854775808:=by have:=(Yc.1 hx).1;omega
  obtain⟨r,f,k⟩:=hl x (Yh hx) y (Yh hy);refine⟨r,k,?_⟩;dsimp only[Q9,br,ix,vz,wg,vs,Aq,ln,Af,cs,wa,Ai,br];simp only[F,d,hx,hy,Yo,Yp,Ya];rw[f];cases r<;>simp[g]) (by dsimp only[Q9,br,ix,vz,wg,vs,Aq,ln,Af,cs,wa,Ai,br];simp[F]) (AM ae)
 have P:a.pairs.length=b.pairs.length->Ok (Sum.elim (λ_=>a.pairs=b.pairs) (λr:Bool=>r=false/\a.pairs≠b.pairs)) (Aj (QZ a b R) Ah 0):=λe=>JU a.pairs b.pairs () e (λi x y hx hy=>by
  have d:=A5 hx;have g:i+1<9223372036854775808:=by have:=(Yc.1 hx).1;omega
  have q:=A5 hy;have s:a.pairs.getD i Rw.z=x:=by rw[Yg,hx];rfl
  have u:b.pairs.getD i Rw.z=y:=by rw[Yg,hy];rfl
  have v:(0:Int)<=i/\(i:Int)<a.pairs.length:=⟨ae,d⟩;have w:(0:Int)<=i/\(i:Int)<b.pairs.length:=⟨ae,q⟩;obtain⟨⟨r,f,k⟩,⟨t,p,N⟩⟩:=M x (Yh hx) y (Yh hy);refine⟨r&&t,by rw[Yb,k,N,nU],?_⟩;dsimp only[QZ,br,ix,AW,vz,wg,vs,Aq,ln,Af,cs,CF,wa,Ai,br];simp only[G,d,hx,hy,s,u,v,w,YW,Yo,Yp,Ya,B5,CQ];rw[f,p];cases r<;>cases t<;>simp[g]) (by dsimp only[QZ,br,ix,AW,vz,wg,vs,Aq,ln,Af,cs,CF,wa,Ai,br];simp[G]) (AM ae)
 have Q:a.slots.length=b.slots.length->Ok (Sum.elim (λ_=>a.slots=b.slots) (λr:Bool=>r=false/\a.slots≠b.slots)) (Aj (Rk a b R) Ah 0):=λe=>JU a.slots b.slots () e (λi x y hx hy=>by
  have d:=A5 hx;have g:i+1<9223372036854775808:=by have:=(Yc.1 hx).1;omega
  have q:=A5 hy;have s:a.slots.getD i Rw.z=x:=by rw[Yg,hx];rfl
  have u:b.slots.getD i Rw.z=y:=by rw[Yg,hy];rfl
  have v:(0:Int)<=i/\(i:Int)<a.slots.length:=⟨ae,d⟩;have w:(0:Int)<=i/\(i:Int)<b.slots.length:=⟨ae,q⟩;obtain⟨r,f,k⟩:=hs x (Yh hx) y (Yh hy);refine⟨decide (x.num=y.num)&&r,by rw[Yb,Yr,k,jr],?_⟩;dsimp only[Rk,br,ix,AW,vz,wg,vs,Aq,ln,Af,CF,wa,Ai,br];simp only[H,d,hx,hy,s,u,v,w,YW,Yo,Yp,Ya,B5,CQ];rw[f];cases r<;>cases decide (x.num=y.num)<;>simp[g]) (by dsimp only[Rk,br,ix,AW,vz,wg,vs,Aq,ln,Af,CF,wa,Ai,br];simp[H]) (AM ae)
 have S:a.raws.length=b.raws.length->Ok (Sum.elim (λ_=>a.raws=b.raws) (λr:Bool=>r=false/\a.raws≠b.raws)) (Aj (Q0 a b R) Ah 0):=λe=>JU a.raws b.raws () e (λi x y hx hy=>by
  have d:=A5 hx;have g:i+1<9223372036854775808:=by have:=(Yc.1 hx).1;omega
  refine⟨decide (x.num=y.num)&&(decide (x.wire=y.wire)&&(decide (x.bits=y.bits)&&decide (x.data=y.data))),by simp only[Yb,Yr,vD],?_⟩;dsimp only[Q0,br,ix,vz,wg,vs,Aq,ln,Af,wa,Ai,br];simp only[I,d,hx,hy,Yo,Yp,Ya,H2];cases decide (x.num=y.num)&&(decide (x.wire=y.wire)&&(decide (x.bits=y.bits)&&decide (x.data=y.data)))<;>simp[g]) (by dsimp only[Q0,br,ix,vz,wg,vs,Aq,ln,Af,wa,Ai,br];simp[I]) (AM ae)
 dsimp only[Ta,br,vy,wg,lr,lc,Ai,br];by_cases c:a.kind=b.kind/\a.bits=b.bits/\a.text=b.text/\a.list.length=b.list.length/\a.pairs.length=b.pairs.length/\a.slots.length=b.slots.length/\a.raws.length=b.raws.length
 ·obtain⟨A,B,j,C,D,c6,E⟩:=c;obtain⟨T,f,l⟩:=O C;obtain⟨U,p,m⟩:=P D;obtain⟨V,J,n⟩:=Q c6;obtain⟨W,K,o⟩:=S E;simp only[A,B,j,C,D,c6,E,Yo,YN,KS,Yi,YC,f,p,J,K,Ya];cases T with
  |inr y=>
   obtain⟨rfl,l⟩:=l;exact Br.no λh=>l (by rw[h])
  |inl y=>
  cases U with
  |inr y=>
   obtain⟨rfl,m⟩:=m;exact Br.no λh=>m (by rw[h])
  |inl y=>
  cases V with
  |inr y=>
   obtain⟨rfl,n⟩:=n;exact Br.no λh=>n (by rw[h])
  |inl y=>
  cases W with
  |inr y=>
   obtain⟨rfl,o⟩:=o;exact Br.no λh=>o (by rw[h])
  |inl y=>exact Br.yes (jM.2 ⟨A,B,j,l,m,n,o⟩)
 ·have z:((((((!decide (a.kind=b.kind))||(!decide (a.bits=b.bits)))||(!decide (a.text=b.text)))||(!decide ((a.list.length:Int)=(b.list.length:Int))))||(!decide ((a.pairs.length:Int)=(b.pairs.length:Int))))||(!decide ((a.slots.length:Int)=(b.slots.length:Int)))||(!decide ((a.raws.length:Int)=(b.raws.length:Int))))=true:=by
   by_cases j:a.text=b.text
   ·simp only[YB,YO,YE];simp only[j,C1]at c;omega
   ·simp[j]
  rw[z];exact Br.no λh=>c (by rw[h];exact⟨rfl,rfl,rfl,rfl,rfl,rfl,rfl⟩)
theorem QV:∀(c:Nat) (a b:Val),Ap (Ae a)<c->AK a->AK b->Br a b (Lk c a b)
 |0,a,b,h,_,_=>ae
 |c+1,a,b,h,d,e=>ZqK (Lk c) a b (Cm d).l' (Cm e).l'
  (λx hx y hy=>QV c x y (by have:=Wb hx;omega) (Hx d hx) (Hx e hy))
  (λx hx y hy=>⟨QV c x.key y.key (by have:=(LP hx).1;omega) (Dr d hx).1 (Dr e hy).1,QV c x.val y.val (by have:=(LP hx).2;omega) (Dr d hx).2 (Dr e hy).2⟩)
  (λx hx y hy=>QV c x.val y.val (by have:=VY hx;omega) (GQ d hx) (GQ e hy))
theorem mN{a b:Val}(c:AK a)(d:AK b):Br a b (Lk Ah a b):=QV Ah a b (by have h:Ap (Ae a)<=1048576:=c;exact AM ae) c d
def CC(v:Val):Val:=if v.kind=6/\HK v.bits.toNat=true then .mk v.kind 9221120237041090560 v.text v.list v.pairs v.slots v.raws else v
def Cc(a b:Val):Int:=if a.kind≠b.kind then Bv a.kind b.kind else if a.kind=7\/a.kind=8 then Ec a.text b.text else if a.kind=2\/a.kind=3 then Bv (IntKind.u64.wrap (a.bits+9223372036854775808)) (IntKind.u64.wrap (b.bits+9223372036854775808))else if a.kind=6 then Bv (CP a.bits.toNat) (CP b.bits.toNat)else Bv a.bits b.bits
def Jb(out:List Pr)(p:Pr):Nat:=out.findIdx λq=>!decide (Cc q.key p.key<0)
def F7(out:List Pr)(p:Pr):List Pr:=out.take (Jb out p)++([p]++out.drop (Jb out p))
def CL(l:List Pr):Nat->List Pr
 |0=>[]
 |i+1=>match l[i]? with
  |some p=>if((l.drop (i+1)).any λq=>decide (Cc p.key q.key=0))=true then CL l i else F7 (CL l i) p
  |none=>CL l i
def DG(l:List Pr):List Pr:=CL l l.length
def Es(out:List Raw)(x:Raw):Nat->Nat
 |0=>0
 |k+1=>if x.num<(out.getD k Rw.z).num then Es out x k else k+1
def insR(out:List Raw)(x:Raw):List Raw:=(out.take (Es out x out.length)++[x])++out.drop (Es out x out.length)
def ES(l:List Raw):List Raw:=l.foldl insR []
def BF(R:ByteArray->Val->Val)(t:Typ)(v:Val):Val:=if t.kind=10 then R t.name v else CC v
def B2(R:ByteArray->Val->Val)(f:Fld)(v:Val):Val:=
 if f.card=4 then .mk 11 0 ⟨#[]⟩ (v.list.map (BF R f.type)) [] [] []
 else if f.card=5 then .mk 12 0 ⟨#[]⟩ [] (DG (v.pairs.map λp=>.mk (CC p.key) (BF R f.type p.val))) [] []
 else BF R f.type v
def MA(v:Val):Bool:=decide (1<=v.kind/\v.kind<=9)&&EQ v&&decide (v.bits=0)&&decide (v.text=⟨#[]⟩)
def Bo(f:Fld)(v:Val):Bool:=if f.card=4 then decide (v.list.length=0)else if f.card=5 then decide (v.pairs.length=0)else decide (f.card=3)&&MA v
def CN(N:Fld->Val->Val)(F:List Fld)(l:List Slt):List Slt:=F.flatMap λf=>(l.filter λx=>decide (x.num=f.num)&&!Bo f x.val).map λx=>.mk f.num (N f x.val)
def A0(s:Scm):Nat->ByteArray->Val->Val
 |0,_,v=>v
 |d+1,n,v=>.mk 10 0 ⟨#[]⟩ [] [] (CN (B2 (A0 s d)) (Bg s n) v.slots) (ES v.raws)
def K2(l:List Slt):Prop:=l.Pairwise λa b=>a.num<b.num
theorem yR{F:List Fld}(h:Ds F F.length){f g:Fld}(c:f∈F)(d:g∈F)(e:f.num=g.num):f=g:=by have a:=U7 h c;have b:=U7 h d;rw[e,b]at a;exact(Prod.mk.inj a).1.symm
theorem vx{F:List Fld}(h:Ds F F.length):F.Pairwise λa b=>a.num<b.num:=by rw[Sa];intro i j hi d c;exact U1 h (j-(i+1)) i _ _ (Yd hi) (by rw[show i+1+(j-(i+1))=j by omega];exact Yd d)
theorem ri{l:List Slt}(h:l.Pairwise λa b=>a.num≠b.num)(p:Slt->Bool){x:Slt}(hx:x∈l)(g:p x=true):(l.filter λy=>decide (y.num=x.num)&&p y)=[x]:=by
 induction l with
 |nil=>cases hx
 |cons y l j=>
  obtain⟨c,f⟩:=DY.1 h;rcases Yy.1 hx with e|hx
  ·subst e;have d:(l.filter λz=>decide (z.num=x.num)&&p z)=[]:=(by rw[Xz];intro z i;have:=c z i;simp only[Yb,Yr,not_and];exact λe=>absurd e.symm this);rw[XO,d];simp[g]
  ·have:=c x hx;rw[XO,j f hx];simp[this]
theorem q6{l:List Slt}(k:Int)(p:Slt->Bool)(h:∀x∈l,x.num=k->p x=false):(l.filter λy=>decide (y.num=k)&&p y)=[]:=by rw[Xz];intro z a;simp only[Yb,Yr,not_and];intro e;rw[h z a e];decide
theorem uc{N:Fld->Val->Val}{F:List Fld}{l:List Slt}{z:Slt}:z∈CN N F l↔∃f∈F,∃x∈l,x.num=f.num/\Bo f x.val=false/\z=.mk f.num (N f x.val):=by
 unfold CN;rw[List.mem_flatMap];constructor
 ·rintro⟨f,c,h⟩;obtain⟨x,hx,rfl⟩:=YV.1 h;obtain⟨b,a⟩:=Hf.1 hx;simp only[Yb,Yr,YO]at a;exact⟨f,c,x,b,a.1,a.2,rfl⟩
 ·rintro⟨f,c,x,hx,b,a,rfl⟩;exact⟨f,c,YV.2 ⟨x,Hf.2 ⟨hx,by simp[b,a]⟩,rfl⟩⟩
theorem sY{N:Fld->Val->Val}:∀{F:List Fld} {l:List Slt},(F.Pairwise λa b=>a.num<b.num)->(l.Pairwise λa b=>a.num≠b.num)->K2 (CN N F l)
 |[],l,_,_=>by unfold CN K2;simp
 |f::F,l,h,hl=>by
  obtain⟨i,j⟩:=DY.1 h;have o:=sY (N:=N) (l:=l) j hl;show K2 ((l.filter λx=>decide (x.num=f.num)&&!Bo f x.val).map (λx=>Slt.mk f.num (N f x.val))++CN N F l);unfold K2;rw[XD];refine⟨?_,o,λa k b m=>?_⟩
  ·rw[R4];by_cases c:∃x∈l,x.num=f.num/\Bo f x.val=false
   ·obtain⟨x,hx,e,d⟩:=c;have:=ri hl (λy=>!Bo f y.val) hx (by rw[d];rfl);rw[<-e,this];exact Xy _ _
   ·rw[q6 f.num (λy=>!Bo f y.val) λx hx e=>by
     cases d:Bo f x.val with
     |true=>rfl
     |false=>exact absurd ⟨x,hx,e,d⟩ c]
    exact List.Pairwise.nil
  ·obtain⟨x,_,rfl⟩:=YV.1 k;obtain⟨g,n,y,_,_,_,rfl⟩:=uc.1 m;exact i g n
theorem th:∀{a b:List Slt},K2 a->K2 b->(∀x,x∈a↔x∈b)->a=b
 |[],[],_,_,_=>rfl
 |[],y::b,_,_,h=>absurd ((h y).2 YJ) XN
 |x::a,[],_,_,h=>absurd ((h x).1 YJ) XN
 |x::a,y::b,j,k,h=>by
  obtain⟨a1,g⟩:=DY.1 j;obtain⟨f,i⟩:=DY.1 k;have e:x=y:=by
   rcases Yy.1 ((h x).1 YJ)with e|e
   ·exact e
   ·rcases Yy.1 ((h y).2 YJ)with d|d
    ·exact d.symm
    ·have l:=a1 y d;have m:=f x e;omega
  subst e;rw[th g i λz=>?_];constructor
  ·intro c;rcases Yy.1 ((h z).1 (YH _ c))with e|e
   ·subst e;have:=a1 z c;omega
   ·exact e
  ·intro c;rcases Yy.1 ((h z).2 (YH _ c))with e|e
   ·subst e;have:=f z c;omega
   ·exact e
theorem Ny{α:Type}(f:α->Int)(l:List α):BT (λ_ x=>f x) l 0=0↔∀x∈l,f x=0:=by
 rw[NK];constructor
 ·intro h x hx;obtain⟨j,a⟩:=YP.1 hx;exact h j x a
 ·intro h j x a;exact h x (Yh a)
def HZ(F:List Fld)(a b:Slt):Prop:=¬((AU F a.num).union=(AU F b.num).union/\(AU F b.num).union≠⟨#[]⟩)
theorem HZ.symm{F:List Fld}{a b:Slt}(h:HZ F a b):HZ F b a:=λ⟨e,k⟩=>h ⟨e.symm,by rw[<-e]at*;exact k⟩
theorem fv{R:Fld->Val->Int}{F:List Fld}{l:List Slt}{i:Nat}{x:Slt}:DR R F l i x=0↔(BG F x.num).2=true/\(∀y∈l.take i,y.num≠x.num/\HZ F y x)/\R (AU F x.num) x.val=0:=by
 unfold DR;cases f:(BG F x.num).2 with
 |false=>simp
 |true=>
  rw[Yk (by decide)];by_cases b:CU (l.take i) x.num=true
  ·rw[Ym b];constructor
   ·intro h;cases h
   ·rintro⟨_,h,_⟩;obtain⟨y,hy,e⟩:=YU.1 b;exact absurd (Y9 e) (h y hy).1
  ·rw[Yk b];have c:∀y∈l.take i,y.num≠x.num:=λy hy e=>b (YU.2 ⟨y,hy,Yq e⟩);by_cases a:G0 F (l.take i) (AU F x.num).union=true
   ·rw[Ym a];constructor
    ·intro h;cases h
    ·rintro⟨_,h,_⟩;unfold G0 at a;rw[Yb,YO,YE]at a;obtain⟨y,hy,e⟩:=YU.1 a.2;exact absurd ⟨Y9 e,a.1⟩ (h y hy).2
   ·rw[Yk a];have d:∀y∈l.take i,HZ F y x:=λy hy ⟨e,k⟩=>a (by unfold G0;rw[Yb,YO,YE];exact⟨k,YU.2 ⟨y,hy,Yq e⟩⟩);exact⟨λh=>⟨rfl,λy hy=>⟨c y hy,d y hy⟩,h⟩,λh=>h.2.2⟩
theorem sH{R:Fld->Val->Int}{F:List Fld}{l:List Slt}:BT (DR R F l) l 0=0↔(l.Pairwise λa b=>a.num≠b.num/\HZ F a b)/\∀x∈l,(BG F x.num).2=true/\R (AU F x.num) x.val=0:=by
 rw[NK,Sa];constructor
 ·intro h;refine⟨λi j hi d c=>?_,λx hx=>?_⟩
  ·have:=h j _ (Yd d);rw[YX,fv]at this;exact this.2.1 l[i] (YP.2 ⟨i,by rw[Y6,Ym c];exact Yd hi⟩)
  ·obtain⟨j,d⟩:=YP.1 hx;have:=h j x d;rw[YX,fv]at this;exact⟨this.1,this.2.2⟩
 ·rintro⟨g,k⟩ j x d;rw[YX,fv];have hx:=k x (Yh d);obtain⟨f,rfl⟩:=Yc.1 d;refine⟨hx.1,λy hy=>?_,hx.2⟩;obtain⟨i,hi⟩:=YP.1 hy;rw[Y6]at hi;split at hi
  ·rename_i c;obtain⟨e,rfl⟩:=Yc.1 hi;exact g i j e f c
  ·cases hi
structure OkM (s:Scm) (k:Bool) (d:Nat) (m:Msg) (v:Val):Prop where
 kd:v.kind=10
 ot:BO v=false
 pw:v.slots.Pairwise λa b=>a.num≠b.num/\HZ m.fields a b
 sl:∀x∈v.slots,(BG m.fields x.num).2=true/\BN (AP s k d) s k (AU m.fields x.num) x.val=0
 rq:∀f∈m.fields,f.card=1->CU v.slots f.num=true
 rw:∀x∈v.raws,Ga s m.fields x=0
theorem uQ{l:List Slt}{f:Fld}:Gi l f=0↔(f.card=1->CU l f.num=true):=by
 unfold Gi;by_cases c:f.card=1
 ·cases h:CU l f.num<;>simp[c]
 ·simp[c]
theorem Zqf{s:Scm}{k:Bool}{d:Nat}{m:Msg}{v:Val}(h:AP s k d m v=0):v.kind=10/\BO v=false:=by
 have:¬(v.kind≠10\/BO v=true):=λc=>by cases d<;>(unfold AP at h;rw[Ym c]at h;cases h)
 refine⟨Decidable.not_not.1 λe=>this (.inl e),?_⟩;cases a:BO v with
 |false=>rfl
 |true=>exact absurd (.inr a) this
theorem Vv{s:Scm}{k:Bool}{d:Nat}{m:Msg}{v:Val}:AP s k (d+1) m v=0↔OkM s k d m v:=by
 constructor
 ·intro h;have g:=Zqf h;unfold AP at h;rw[Yk (λc=>c.elim (λe=>e g.1) (λe=>by rw[g.2]at e;cases e))]at h;by_cases a:BT (DR (BN (AP s k d) s k) m.fields v.slots) v.slots 0=0
  ·rw[Yk (λe=>e a)]at h;by_cases b:BT (λ_ f=>Gi v.slots f) m.fields 0=0
   ·rw[Yk (λe=>e b)]at h;obtain⟨a1,j⟩:=sH.1 a;exact⟨g.1,g.2,a1,j,λf i=>uQ.1 ((Ny _ _).1 b f i),λx hx=>(Ny _ _).1 h x hx⟩
   ·rw[Ym b]at h;exact absurd h b
  ·rw[Ym a]at h;exact absurd h a
 ·rintro⟨l,n,o,p,q,r⟩;unfold AP;have a:BT (DR (BN (AP s k d) s k) m.fields v.slots) v.slots 0=0:=sH.2 ⟨o,p⟩;have b:BT (λ_ f=>Gi v.slots f) m.fields 0=0:=(Ny _ _).2 λf i=>uQ.2 (q f i);rw[Yk (λc=>c.elim (λe=>e l) (λe=>by rw[n]at e;cases e)),Yk (λe=>e a),Yk (λe=>e b)];exact(Ny _ _).2 r
theorem Zj{E:Val->Int}{key:Int}{k:Bool}{l:List Pr}{i:Nat}{p:Pr}:GY E key k l i p=0↔CD key p.key=0/\¬(k=true/\((l.take i).any λq=>GU q.key p.key)=true)/\E p.val=0:=by
 unfold GY;by_cases a:CD key p.key=0
 ·rw[Yk (λe=>e a)];by_cases b:k=true/\((l.take i).any λq=>GU q.key p.key)=true
  ·rw[Ym b];exact Iff.intro (λh=>by cases h) λh=>absurd b h.2.1
  ·rw[Yk b];exact⟨λh=>⟨a,b,h⟩,λh=>h.2.2⟩
 ·rw[Ym a];exact⟨λh=>absurd h a,λh=>absurd h.1 a⟩
theorem fP{s:Scm}{k:Bool}{n:ByteArray}{v:Val}:Fp s k n v=0↔(A4 s n).2=true/\OkM s k 15 (A4 s n).1 v/\cnt v<=4096:=by
 rw[<-Vv];unfold Fp;cases b:(A4 s n).2 with
 |false=>simp
 |true=>
  rw[Yk (by decide)];by_cases c:AP s k 16 (A4 s n).1 v=0
  ·rw[Yk (λe=>e c)];by_cases a:4096<cnt v
   ·rw[Ym a];exact Iff.intro (λh=>by cases h) λh=>by have:=h.2.2;omega
   ·rw[Yk a];exact⟨λ_=>⟨rfl,c,ae⟩,λ_=>rfl⟩
  ·rw[Ym c];exact⟨λh=>absurd h c,λh=>absurd h.2.1 c⟩
end Go.Proofs.YtalafnjhcecdpaaGreatDoor
