import Derived.Test.YthcplkfhnnlafaaGreatZm24
import Derived.Test.YthcplkfhnnlafaaGreatZm23
import Derived.Test.YthcplkfhnnlafaaGreatZm00
namespace Go.Proofs.YthcplkfhnnlafaaGreat
set_option linter.all false
open Go Go.Eng
theorem Wm{α ξ ρ:Type}{B:Nat->Option (Lv Nat ξ ρ)}{N:Nat}(l:List α)(p:α->Bool)(r:ρ)(e:ξ)
  (hs:∀i x,l[i]?=some x->B i=some (if p x=true then .rt r else .nx (i+1))) (he:B l.length=some (.ex e)) (hN:l.length<N):Aj B N 0=some (if l.any p=true then .inr r else .inl e):=by
 rw[Ep l p (λ_=>r) e hs he hN,<-LB];cases l.findIdx? p<;>rfl
theorem ZEX(v:Val)(k:Int)(h:v.slots.length<=1048576):fb v k=some (Bt v.slots k):=by
 have c:v.slots.length<4611686018427387904:=ae
 have d:=Ep (B:=RC v k) (N:=Ag) v.slots (λx=>decide (x.num=k)) (λ_=>true) () (λi x hx=>by
  have a:=A5 hx;have e:=(Yb.1 hx).1;have b:i+1<9223372036854775808:=ae
  dsimp only[RC,br,ix,vz,wg,vs,Ar,ln,Af,wa,Ah,br];simp only[c,a,b,hx,Yn,Yq,Ya];cases decide (x.num=k)<;>simp) (by simp[RC,br,ix,vz,wg,vs,Ar,ln,Af,wa,Ah,br]) (AM ae)
 dsimp only[fb,lr,lc];unfold Bt;rw[d,<-LB];cases v.slots.findIdx? λx=>decide (x.num=k)<;>rfl
theorem ZD8{s:Scm}(hs:An (Al s)<=1048576)(m:Msg)(x:Raw)(hm:m.fields.length<=1048576)(hx:x.data.size<=1048576):fe s m x=some (GW s m.fields x):=by
 have h:=DR hs;have A:x.data.size<4611686018427387904:=ae
 have o:=og s (AC m.fields x.num).type.name h.el;have d:x.bits<2147483648->QL (Cg s (AC m.fields x.num).type.name).1 x.bits=_:=λy=>nC _ _ (WM h _) (x0 hs _) ae;have w:(Bh m.fields x.num).1=AC m.fields x.num:=rfl;dsimp only[fe,gJ,br,vy,wg,lr,cl,Az,A3,br];rw[j9 _ _ hm,Ya,w];unfold GW Sh;have j:((((((decide (x.num<1)||decide (65535<x.num))||decide (x.wire<0))||decide (6<x.wire))||(((decide (x.wire=0)||decide (x.wire=1))||decide (x.wire=2))&&!decide (x.data=⟨#[]⟩)))||((!((decide (x.wire=0)||decide (x.wire=1))||decide (x.wire=2)))&&!decide (x.bits=0)))=true)=(x.num<1\/65535<x.num\/x.wire<0\/6<x.wire\/(x.wire<=2/\x.data≠⟨#[]⟩)\/(2<x.wire/\x.bits≠0)):=by by_cases p:x.data=⟨#[]⟩<;>simp only[p,Yn,YC,YQ,YS,Gf,J7,Nd,YG,Yc,YM,Yr,YB,IF,ne_eq,IG,G2,Gj,II,Nm,eq_iff_iff]<;>omega
 have b:(if((decide (x.wire=3)&&decide ((4096:Int)<x.data.size))||decide ((65536:Int)<x.data.size))=true then some (3:Int)else some 0)=some (if(x.wire=3/\4096<x.data.size)\/65536<x.data.size then 3 else 0):=by
  by_cases c:(x.wire=3/\4096<x.data.size)\/65536<x.data.size
  ·rw[Yi c,Yi];simp only[YG,Yc,Yr];omega
  ·rw[Yh c,Yh];simp only[YG,Yc,Yr];omega
 by_cases c:x.num<1\/65535<x.num\/x.wire<0\/6<x.wire\/(x.wire<=2/\x.data≠⟨#[]⟩)\/(2<x.wire/\x.bits≠0)
 ·rw[Yi c,Yi (j▸c)]
 ·rw[Yh c,Yh (j▸c)];cases z:(Bh m.fields x.num).2 with
  |false=>
   simp only[Yk,YE,DA];exact b
  |true=>
   simp only[Yq,C4];rw[o,Ya];generalize (Cg s (AC m.fields x.num).type.name)=a at d⊢;generalize AC m.fields x.num=f at d⊢;by_cases k:f.type.kind=9/\a.2=true/\a.1.opn=false/\¬f.card=5/\x.wire=0/\x.bits<2147483648
   ·obtain⟨q,r,t,u,l,n⟩:=k;have i:¬(2147483648<=x.bits):=ae;simp only[q,r,t,u,l,n,i,d n,Yn,YC,YQ,YS,LF,G4,J9,Y6,YK,Yq,Iz,Y9];cases GZ a.1 x.bits with
    |true=>simp only[Yq,YQ]
    |false=>
     simp only[Yk,YE,YS,reduceCtorEq];rw[l]at b;simpa using b
   ·have i:((((((!decide (f.type.kind=9))||(!a.2))||a.1.opn)||decide (f.card=5))||(!decide (x.wire=0)))||decide (2147483648<=x.bits))=true:=(by simp only[YG,YM,Yr,YB];cases e:a.2<;>cases g:a.1.opn<;>simp only[e,g,C4,II,DA,Gj,reduceCtorEq,G2,true_or,or_true,Nm,or_false]at k⊢<;>omega);have v:(decide (f.type.kind=9)&&a.2&&!a.1.opn&&!decide (f.card=5)&&decide (x.wire=0)&&decide (x.bits<2147483648)&&!GZ a.1 x.bits)=false:=(by rw[IC];left;cases e:a.2<;>cases g:a.1.opn<;>simp only[e,g,Gf,CJ,YQ,YS,J7]at k⊢;simp only[IC,TM,YB,Yr];simp only[C4]at k;omega);simp only[i,v,YQ,Yk,IA,Yq,HN]
theorem Zwo(R:XD)(l:Fld->Val->Int)(s:Scm)(m:Msg)(v:Val)(i:Nat)(x:Slt)(a:Int)(k:Bool)(hm:m.fields.length<=1048576)(hl:v.slots.length<=1048576)(hx:v.slots[i]?=some x)(F:1<=a/\a<=16)(t:∀f:Fld,(Bh m.fields x.num)=(f,true)->R s f x.val (a+1) k=some (l f x.val)):Vo R s m v i a k=some (Ee l m.fields v.slots i x):=by
 have hi:=(Yb.1 hx).1;have c:(v.slots.take i).length=i:=by rw[Yz];omega
 have b:∀(j:Nat) (y:Slt),(v.slots.take i)[j]?=some y->j<i/\v.slots[j]?=some y:=λj y hy=>by
  rw[Y4]at hy;split at hy
  ·exact⟨by assumption,hy⟩
  ·cases hy
 have A:∀y:Fld×Bool,Aj (OA s m v i a k R y) Ag 0=some (if Bt (v.slots.take i) y.1.num=true then .inr 9 else .inl ()):=λy=>by have q:=Wm (B:=OA s m v i a k R y) (N:=Ag) (v.slots.take i) (λz=>decide (z.num=y.1.num)) (9:Int) () (λj z h=>by obtain⟨p,d⟩:=b j z h;have e:(j:Int)<i:=ae;have g:j+1<9223372036854775808:=ae;dsimp only[OA,br,ix,wg,vs,Ar,ln,Af,wa,br];simp only[d,e,g,Yn,Yq,Ya];cases decide (z.num=y.1.num)<;>simp) (by rw[c];dsimp only[OA,br,ix,wg,vs,Ar,ln,Af,wa,br];simp) (by rw[c];exact AM ae);exact q
 have C:∀y:Fld×Bool,Aj (Ox s m v i a k R y) Ag 0=some (if HB m.fields (v.slots.take i) y.1.union=true then .inr 15 else .inl ()):=λy=>by
  have q:=Wm (B:=Ox s m v i a k R y) (N:=Ag) (v.slots.take i) (λz=>(!decide (y.1.union=⟨#[]⟩))&&decide ((AC m.fields z.num).union=y.1.union)) (15:Int) () (λj z h=>by obtain⟨p,d⟩:=b j z h;have e:(j:Int)<i:=ae;have g:j+1<9223372036854775808:=ae;have r:(Bh m.fields z.num).1=AC m.fields z.num:=rfl;dsimp only[Ox,WU,br,ix,wg,vs,Ar,ln,Af,lc,cl,wa,du,br];simp only[d,e,g,j9 _ _ hm,r,Yn,Yq,Ya];cases(!decide (y.1.union=⟨#[]⟩))&&decide ((AC m.fields z.num).union=y.1.union)<;>simp) (by rw[c];dsimp only[Ox,WU,br,ix,wg,vs,Ar,ln,Af,lc,cl,wa,du,br];simp) (by rw[c];exact AM ae);rw[q];congr 2;unfold HB;by_cases o:y.1.union=⟨#[]⟩
  ·simp only[o,Yn,YQ,CJ,eq_iff_iff,Yk,iff_false,YP,not_exists,Gj,G2,CT]
  ·simp only[o,YC,YS,Y9]
 have w0:(0:Int)<=i/\(i:Int)<v.slots.length:=ae
 have D:(Bh m.fields x.num).1=AC m.fields x.num:=rfl;have w2: -9223372036854775808<=a+1/\a+1<9223372036854775808:=ae
 have E:(v.slots.getD i Rw.z)=x:=by rw[Yj,hx];rfl
 unfold Ee;dsimp only[Vo,iy,br,CB,vw,wg,vs,lr,lc,cl,cs,wi,du,br];simp only[YW,hx,w0,E,BZ,Yq,j9 _ _ hm,Ya,A,C,D,w2];cases n:(Bh m.fields x.num).2 with
 |false=>simp
 |true=>
  have u:(AC m.fields x.num).num=x.num:=Mk n;have w:=t (AC m.fields x.num) (Prod.ext rfl n);rw[u];cases Bt (v.slots.take i) x.num with
  |true=>simp
  |false=>
   cases HB m.fields (v.slots.take i) (AC m.fields x.num).union with
   |true=>simp
   |false=>simp[w]
theorem ye(R:XD){s:Scm}(hs:An (Al s)<=1048576)(m:Msg)(v:Val)(d:Nat)(K:d<=16)(k:Bool)(hm:m.fields.length<=1048576)(o:AN v)(D:∀d':Nat,d=d'+1->∀(f:Fld) (x:Val),AN x->R s f x (17-(d':Int)) k=some (A7 (AL s k d') s k f x)):QC R s m v (17-(d:Int)) k=some (AL s k d m v):=by
 have h:=DR hs;have F:=Cm o;obtain⟨s1,s2,L,t,M⟩:=Cm o;have u:m.fields.length<4611686018427387904:=ae
 have w:v.slots.length<4611686018427387904:=ae
 have y:v.raws.length<4611686018427387904:=ae
 dsimp only[QC,br,wg,lr,lc,Az,br];rw[ii F];by_cases c:v.kind≠10\/BF v=true
 ·have z:AL s k d m v=12:=by cases d<;>(unfold AL;rw[Yi c])
  rw[z];by_cases a:v.kind=10
  ·have n:BF v=true:=c.resolve_left λe=>e a;simp[a,n]
  ·simp[a]
 ·have a:v.kind=10:=Decidable.not_not.1 λe=>c (.inl e);have n:BF v=false:=by
   cases h:BF v with
   |false=>rfl
   |true=>exact absurd (.inr h) c
  cases d with
  |zero=>
   unfold AL;rw[Yh c];simp[a,n]
  |succ d=>
   have G:(1:Int)<=17-((d+1:Nat):Int)/\17-((d+1:Nat):Int)<=16:=ae;have q:¬(16:Int)<17-((d+1:Nat):Int):=ae;have H:=HW (B:=SN s m v (17-((d+1:Nat):Int)) k R) (N:=Ag) v.slots (Ee (A7 (AL s k d) s k) m.fields v.slots) id () (λi x hx _=>by
    have e:=Zwo R (A7 (AL s k d) s k) s m v i x _ k hm t hx G λf j=>by have:=D d rfl f x.val (GC o (Yg hx));rw[show 17-((d+1:Nat):Int)+1=17-(d:Int)by omega];exact this
    have b:=A5 hx;have g:i+1<9223372036854775808:=(by have:=(Yb.1 hx).1;omega);dsimp only[SN,br,vz,wg,vs,v2,Ar,ln,Af,cs,wa,Ah,br];simp only[w,b,g,e,Yn,Yq,Ya];by_cases hy:Ee (A7 (AL s k d) s k) m.fields v.slots i x=0<;>simp[hy]) (by dsimp only[SN,br,vz,wg,vs,v2,Ar,ln,Af,cs,wa,Ah,br];simp[w]) (AM ae)
   have I:=HW (B:=Sf s m v R) (N:=Ag) m.fields (λ_ f=>GU v.slots f) id () (λi f j _=>by have b:=A5 j;have g:i+1<9223372036854775808:=(by have:=(Yb.1 j).1;omega);have A:m.fields.getD i Rw.z=f:=(by rw[Yj,j];rfl);have C:(0:Int)<=i/\(i:Int)<m.fields.length:=⟨ae,b⟩;have e:=ZEX v f.num t;unfold GU;dsimp only[Sf,br,ix,AZ,vz,wg,vs,Ar,ln,Af,Az,wa,Ah,br];simp only[u,b,g,A,C,j,e,YW,Yn,Yq,Ya,BZ,CT,Y6,YK];by_cases E:f.card=1<;>cases Bt v.slots f.num<;>simp[E]) (by dsimp only[Sf,br,ix,AZ,vz,wg,vs,Ar,ln,Af,Az,wa,Ah,br];simp[u]) (AM ae);have J:=HW (B:=Sm s m v R) (N:=Ag) v.raws (λ_ x=>GW s m.fields x) id () (λi x hx _=>by have b:=A5 hx;have g:i+1<9223372036854775808:=(by have:=(Yb.1 hx).1;omega);have e:=ZD8 hs m x hm (pi o (Yg hx));dsimp only[Sm,br,ix,vz,wg,vs,Ar,ln,Af,cl,wa,Ah,br];simp only[y,b,g,hx,e,Yn,Yq,Ya];by_cases hy:GW s m.fields x=0<;>simp[hy]) (by dsimp only[Sm,br,ix,vz,wg,vs,Ar,ln,Af,cl,wa,Ah,br];simp[y]) (AM ae);unfold AL;rw[Yh c];simp only[a,n,q,H,I,J,Yn,YC,YQ,YS,LF,Yk,J9,Y6,YK,Yq,YE,Ya];by_cases l:BR (Ee (A7 (AL s k d) s k) m.fields v.slots) v.slots 0=0
   ·by_cases p:BR (λ_ f=>GU v.slots f) m.fields 0=0
    ·by_cases r:BR (λ_ x=>GW s m.fields x) v.raws 0=0
     ·simp[l,p,r]
     ·simp[l,p,r]
    ·simp[l,p]
   ·simp[l]
theorem ZG2(R:XD){s:Scm}(hs:An (Al s)<=1048576)(t:Typ)(v:Val)(d:Nat)(q:d<=16)(k:Bool)(m:AN v)(p:∀d':Nat,d=d'+1->∀(f:Fld) (x:Val),AN x->R s f x (17-(d':Int)) k=some (A7 (AL s k d') s k f x)):NT R s t v (17-(d:Int)) k=some (BL (AL s k d) s t v):=by
 have h:=DR hs;have hm:=ye R hs (AK s t.name).1 v d q k (Ms h _) m p;have o:v.bits<9223372036854775808->QL (Cg s t.name).1 v.bits=_:=λi=>nC _ _ (WM h _) (x0 hs _) i;have n:NR s t.name=some (AK s t.name):=j7 s _ h.ml;dsimp only[NT,br,wg,lr,cl,Az,cs,br];rw[n,o4 _ (Cm m),og s _ h.el];simp only[Ya];unfold BL;by_cases c:t.kind=10
 ·simp only[c,Yn,Yq,hm,Ya];cases(AK s t.name).2<;>simp
 ·by_cases e:t.kind<1\/9<t.kind
  ·have g:(decide (t.kind<1)||decide (9<t.kind))=true:=(by simpa using e);simp only[c,e,g,YC,Yk,YE,Yq]
  ·have g:(decide (t.kind<1)||decide (9<t.kind))=false:=(by rw[IF,YB,YB];omega);simp only[c,e,g,YC,Yk,YE];by_cases a:CA t.kind v=0/\t.kind=9
   ·obtain⟨a,b⟩:=a;have i:v.bits<9223372036854775808:=by
     rw[b]at a;unfold CA at a;by_cases a1:v.kind≠9\/BF v=true
     ·rw[Yi a1]at a;cases a
     ·rw[Yh a1]at a;by_cases j:4096<v.text.size
      ·rw[Yi j]at a;cases a
      ·rw[Yh j]at a;cases a3:F2 9 v with
       |false=>rw[a3]at a;simp at a
       |true=>
        unfold F2 at a3;simp only[Yc]at a3;have a4:=a3.2;rw[Yh (by decide)]at a4;simp only[Yc]at a4;have l:=a4.2;unfold Jr at l;rw[Yh (by decide),Yh (by decide),Yh (by decide),Yi rfl,Yr]at l;omega
    rw[o i,a,b];cases(Cg s t.name).2<;>cases(Cg s t.name).1.opn<;>cases GZ (Cg s t.name).1 v.bits<;>simp
   ·have b:((!decide (CA t.kind v=0))||!decide (t.kind=9))=true:=(by simp only[YG,YM,YB];omega);rw[Yi b,Yi ae]
theorem ZDf(R:XD){s:Scm}(hs:An (Al s)<=1048576)(f:Fld)(v:Val)(d:Nat)(S:d<=16)(k:Bool)(t:AN v)(Q:∀d':Nat,d=d'+1->∀(f:Fld) (x:Val),AN x->R s f x (17-(d':Int)) k=some (A7 (AL s k d') s k f x)):ZA R s f v (17-(d:Int)) k=some (A7 (AL s k d) s k f v):=by
 have h:=DR hs;have l:=Cm t;obtain⟨s1,s2,Y,Z,s5⟩:=Cm t;have G:v.list.length<4611686018427387904:=ae
 have w2:v.pairs.length<4611686018427387904:=ae
 have y:=λ(x:Val) (hx:AN x)=>ZG2 R hs f.type x d S k hx Q;generalize 17-(d:Int)=A at y;have U:=HW (B:=RJ s f v A k R) (N:=Ag) v.list (λ_ x=>BL (AL s k d) s f.type x) id () (λi x hx _=>by
  have w:=A5 hx;have g:i+1<9223372036854775808:=by have:=(Yb.1 hx).1;omega
  have e:=y x (I1 t (Yg hx));dsimp only[RJ,br,ix,vz,wg,vs,v2,Ar,ln,Af,cs,wa,Ah,br];simp only[G,w,g,hx,e,Yn,Yq,Ya];by_cases hy:BL (AL s k d) s f.type x=0<;>simp[hy]) (by dsimp only[RJ,br,ix,vz,wg,vs,v2,Ar,ln,Af,cs,wa,Ah,br];simp[G]) (AM ae)
 have W:∀(i:Nat) (p:Pr),v.pairs[i]?=some p->Aj (Mz s f v A k R i) Ag 0=some (if k=true/\((v.pairs.take i).any λq=>FY q.key p.key)=true then .inr 9 else .inl ()):=λi p c=>by
  have hi:=(Yb.1 c).1;have F:(v.pairs.take i).length=i:=by rw[Yz];omega
  cases k with
  |false=>
   obtain⟨X,D⟩:∃b,Ag=b+1:=⟨Ag-1,by have:=AM (n:=20) ae;omega⟩;rw[D,Aj];dsimp only[Mz,br,ix,AZ,wg,vs,Ar,ln,Af,wa,br];simp
  |true=>
   have q:=Wm (B:=Mz s f v A true R i) (N:=Ag) (v.pairs.take i) (λq=>FY q.key p.key) (9:Int) () (λj z l=>by
    have T:j<i/\v.pairs[j]?=some z:=by
     rw[Y4]at l;split at l
     ·exact⟨by assumption,l⟩
     ·cases l
    obtain⟨w,g⟩:=T;have J:(j:Int)<i:=ae;have K:j+1<9223372036854775808:=ae;have L:v.pairs.getD j Rw.z=z:=(by rw[Yj,g];rfl);have M:v.pairs.getD i Rw.z=p:=(by rw[Yj,c];rfl);have O:(0:Int)<=j/\(j:Int)<v.pairs.length:=ae;have P:(0:Int)<=i/\(i:Int)<v.pairs.length:=ae;unfold FY;dsimp only[Mz,br,ix,AZ,wg,vs,Ar,ln,Af,wa,br];simp only[g,J,K,L,M,O,P,c,YW,Yn,J7,Yq,Ya,BZ,CT];cases decide (z.key.bits=p.key.bits)&&decide (z.key.text=p.key.text)<;>simp) (by rw[F];dsimp only[Mz,br,ix,AZ,wg,vs,Ar,ln,Af,wa,br];simp) (by rw[F];exact AM ae)
   rw[q];simp
 have V:=HW (B:=R5 s f v A k R) (N:=Ag) v.pairs (GL (BL (AL s k d) s f.type) f.key k v.pairs) id () (λi p c _=>by
  have w:=A5 c;have g:i+1<9223372036854775808:=by have:=(Yb.1 c).1;omega
  have E:=DJ t (Yg c);have H:=o4 f.key (Cm E.1);have I:=y p.val E.2;unfold GL;dsimp only[R5,br,ix,vz,wg,vs,Ar,ln,Af,lc,cl,cs,wa,Ah,br];simp only[w2,w,g,c,H,I,W i p c,Yn,Yq,Ya];by_cases u:CA f.key p.key=0
  ·by_cases m:k=true/\((v.pairs.take i).any λq=>FY q.key p.key)=true
   ·simp[u,m]
   ·by_cases C:BL (AL s k d) s f.type p.val=0
    ·rw[Yh m];simp only[u,m,C];simp
    ·rw[Yh m];simp only[u,m,C];simp[C]
  ·simp[u]) (by dsimp only[R5,br,ix,vz,wg,vs,Ar,ln,Af,lc,cl,cs,wa,Ah,br];simp[w2]) (AM ae)
 have e0:=y v t;unfold A7;dsimp only[ZA,br,wg,lr,lc,Az,cs,br];rw[ii l,U,V,e0];by_cases o:f.card=4
 ·by_cases a:v.kind=11
  ·cases BF v with
   |true=>simp[o,a]
   |false=>
    by_cases c6:BR (λ_ x=>BL (AL s k d) s f.type x) v.list 0=0
    ·simp[o,a,c6]
    ·simp[o,a,c6]
  ·simp[o,a]
 ·by_cases r:f.card=5
  ·by_cases a:v.kind=12
   ·cases BF v with
    |true=>simp[r,a]
    |false=>
     by_cases c6:BR (GL (BL (AL s k d) s f.type) f.key k v.pairs) v.pairs 0=0
     ·simp[r,a,c6]
     ·simp[r,a,c6]
   ·simp[r,a]
  ·simp[o,r]
theorem xl{s:Scm}(hs:An (Al s)<=1048576)(k:Bool):∀(a d:Nat),d<a->d<=16->∀(f:Fld) (v:Val),AN v->KJ a s f v (17-(d:Int)) k=some (A7 (AL s k d) s k f v)
 |0,d,b,_,_,_,_=>absurd b (Y8 _)
 |a+1,d,b,c,f,v,h=>ZDf (KJ a) hs f v d c k h λd' e g x hx=>xl hs k a d' ae ae g x hx
theorem bD:20<Ag:=AM ae
theorem Zy6{s:Scm}(hs:An (Al s)<=1048576)(m:Msg)(v:Val)(k:Bool)(hm:m.fields.length<=1048576)(a:AN v):QC (KJ Ag) s m v 1 k=some (AL s k 16 m v):=
 ye (KJ Ag) hs m v 16 (Yf _) k hm a λd' e f x hx=>xl hs k Ag d' (by have:=bD;omega) ae f x hx
end Go.Proofs.YthcplkfhnnlafaaGreat
namespace Go.Proofs.YthcplkfhnnlafaaGreat
set_option linter.all false
open Go Go.Eng
mutual
theorem RD:∀v:Val,cnt v<=2*An (AE v)+1
 |.mk k b t l p s r=>by have a:=yD l;have c:=zn p;have d:=zj s;have f:=CU (e:=Aw) r;simp only[cnt,AE,An,bk];omega
theorem yD:∀l:List Val,A1 l<=2*AS (O0 l)
 |[]=>by simp[A1]
 |v::l=>by have a:=RD v;have b:=yD l;simp only[A1,O0,AS];omega
theorem ZyN:∀p:Pr,Lc p<=2*An (Ap p)+2
 |.mk k v=>by have a:=RD k;have b:=RD v;simp only[Lc,Ap,On];omega
theorem zn:∀l:List Pr,Bz l<=2*AS (NP l)
 |[]=>by simp[Bz]
 |v::l=>by have a:=ZyN v;have b:=zn l;simp only[Bz,NP,AS];omega
theorem Zxe:∀x:Slt,K8 x<=2*An (Am x)+1
 |.mk n v=>by have a:=RD v;simp only[K8,Am,An,bk];omega
theorem zj:∀l:List Slt,B0 l<=2*AS (O3 l)
 |[]=>by simp[B0]
 |v::l=>by have a:=Zxe v;have b:=zj l;simp only[B0,O3,AS];omega
end
theorem jh(v:Val):cnt v=1+v.raws.length+A1 v.list+Bz v.pairs+B0 v.slots:=by cases v;simp only[cnt,Val.raws,Val.list,Val.pairs,Val.slots]
theorem gW(p:Pr):Lc p=cnt p.key+cnt p.val:=by cases p;simp only[Lc,Pr.key,Pr.val]
theorem hH(x:Slt):K8 x=cnt x.val:=by cases x;simp only[K8,Slt.val]
theorem KS:∀a b:List Val,A1 (a++b)=A1 a+A1 b
 |[],b=>by simp[A1]
 |x::a,b=>by rw[HO,A1,A1,KS a b];omega
theorem Wu:∀a b:List Pr,Bz (a++b)=Bz a+Bz b
 |[],b=>by simp[Bz]
 |x::a,b=>by rw[HO,Bz,Bz,Wu a b];omega
theorem Wo:∀a b:List Slt,B0 (a++b)=B0 a+B0 b
 |[],b=>by simp[B0]
 |x::a,b=>by rw[HO,B0,B0,Wo a b];omega
theorem jf{v:Val}(h:AN v):cnt v<=2097153:=by have:=RD v;rw[Hj]at this;have h:An (Ae v)<=1048576:=h;omega
theorem ZsB(l:List Val)(i:Nat):A1 (l.take i)<=A1 l:=by
 conv=>rhs;rw[<-IB i l,KS]
 omega
theorem ZvW(l:List Pr)(i:Nat):Bz (l.take i)<=Bz l:=by
 conv=>rhs;rw[<-IB i l,Wu]
 omega
theorem Ztx(l:List Slt)(i:Nat):B0 (l.take i)<=B0 l:=by
 conv=>rhs;rw[<-IB i l,Wo]
 omega
theorem xb{l:List Val}{i:Nat}{x:Val}(h:l[i]?=some x):A1 (l.take i)+cnt x<=A1 l:=by obtain⟨a,rfl⟩:=Yb.1 h;have:=ZsB l (i+1);rw[HR a,KS,A1,A1]at this;omega
theorem Zxj{l:List Pr}{i:Nat}{x:Pr}(h:l[i]?=some x):Bz (l.take i)+Lc x<=Bz l:=by obtain⟨a,rfl⟩:=Yb.1 h;have:=ZvW l (i+1);rw[HR a,Wu,Bz,Bz]at this;omega
theorem Zx0{l:List Slt}{i:Nat}{x:Slt}(h:l[i]?=some x):B0 (l.take i)+K8 x<=B0 l:=by obtain⟨a,rfl⟩:=Yb.1 h;have:=Ztx l (i+1);rw[HR a,Wo,B0,B0]at this;omega
theorem Rx:∀(g:Nat) (v:Val),An (Ae v)<g->AN v->KE g v=some (cnt v:Int)
 |0,v,h,_=>ae
 |g+1,v,h,k=>by
  obtain⟨s1,s2,D,E,F⟩:=Cm k;have y:=jf k;rw[jh]at y;have q:v.list.length<4611686018427387904:=ae
  have r:v.pairs.length<4611686018427387904:=ae
  have s:v.slots.length<4611686018427387904:=ae
  have z:v.raws.length<4611686018427387904:=ae
  have A:1+v.raws.length<9223372036854775808:=ae
  have t:=CK (B:=Sl v (KE g)) (N:=Ag) (ρ:=Int) v.list (λp=>((1+v.raws.length+A1 p:Nat):Int)) (λi b=>(b,i)) id (λi x hx=>by have j:=A5 hx;have l:i+1<9223372036854775808:=(by have:=(Yb.1 hx).1;omega);have hm:=Yg hx;have e:=Rx g x (by have:=Zr hm;omega) (I1 k hm);have m:=xb hx;have d:((1+v.raws.length+A1 (v.list.take i):Nat):Int)+(cnt x:Int)=((1+v.raws.length+A1 (v.list.take i++[x]):Nat):Int):=(by rw[KS,A1,A1];omega);have f: -9223372036854775808<=((1+v.raws.length+A1 (v.list.take i):Nat):Int)+(cnt x:Int)/\((1+v.raws.length+A1 (v.list.take i):Nat):Int)+(cnt x:Int)<9223372036854775808:=ae;generalize ((1+v.raws.length+A1 (v.list.take i):Nat):Int)=a at d f⊢;generalize ((1+v.raws.length+A1 (v.list.take i++[x]):Nat):Int)=b at d⊢;generalize (cnt x:Int)=c at e d f;dsimp only[Sl,br,ix,vz,wg,vs,v2,ln,Af,cs,wa,wi,Ah,br];simp only[q,j,hx,Yn,Yq,Ya];rw[e,Ya,Yi f,Yi l,d]) (by dsimp only[Sl,br,ix,vz,wg,vs,v2,ln,Af,cs,wa,wi,Ah,br];simp[q]) (AM ae);have u:=CK (B:=Sg v (KE g)) (N:=Ag) (ρ:=Int) v.pairs (λp=>((1+v.raws.length+A1 v.list+Bz p:Nat):Int)) (λi b=>(b,i)) id (λi x hx=>by have j:=A5 hx;have l:i+1<9223372036854775808:=(by have:=(Yb.1 hx).1;omega);have hm:=Yg hx;have e:=Rx g x.key (by have:=(MP hm).1;omega) (DJ k hm).1;have o:=Rx g x.val (by have:=(MP hm).2;omega) (DJ k hm).2;have m:=Zxj hx;rw[gW]at m;have d:((1+v.raws.length+A1 v.list+Bz (v.pairs.take i):Nat):Int)+((cnt x.key:Int)+(cnt x.val:Int))=((1+v.raws.length+A1 v.list+Bz (v.pairs.take i++[x]):Nat):Int):=(by rw[Wu,Bz,Bz,gW];omega);have f: -9223372036854775808<=((1+v.raws.length+A1 v.list+Bz (v.pairs.take i):Nat):Int)+((cnt x.key:Int)+(cnt x.val:Int))/\((1+v.raws.length+A1 v.list+Bz (v.pairs.take i):Nat):Int)+((cnt x.key:Int)+(cnt x.val:Int))<9223372036854775808:=ae;have n: -9223372036854775808<=(cnt x.key:Int)+(cnt x.val:Int)/\(cnt x.key:Int)+(cnt x.val:Int)<9223372036854775808:=ae;generalize ((1+v.raws.length+A1 v.list+Bz (v.pairs.take i):Nat):Int)=a at d f⊢;generalize ((1+v.raws.length+A1 v.list+Bz (v.pairs.take i++[x]):Nat):Int)=b at d⊢;generalize (cnt x.key:Int)=c at e d f n;generalize (cnt x.val:Int)=C at o d f n;dsimp only[Sg,br,ix,vz,wg,vs,ln,Af,cs,wa,wi,Ah,br];simp only[r,j,hx,Yn,Yq,Ya];rw[e,Ya,o,Ya,Yi n,Yi f,Yi l,d]) (by dsimp only[Sg,br,ix,vz,wg,vs,ln,Af,cs,wa,wi,Ah,br];simp[r]) (AM ae);have w:=CK (B:=SR v (KE g)) (N:=Ag) (ρ:=Int) v.slots (λp=>((1+v.raws.length+A1 v.list+Bz v.pairs+B0 p:Nat):Int)) (λi b=>(b,i)) id (λi x hx=>by have j:=A5 hx;have l:i+1<9223372036854775808:=(by have:=(Yb.1 hx).1;omega);have hm:=Yg hx;have e:=Rx g x.val (by have:=XB hm;omega) (GC k hm);have m:=Zx0 hx;rw[hH]at m;have d:((1+v.raws.length+A1 v.list+Bz v.pairs+B0 (v.slots.take i):Nat):Int)+(cnt x.val:Int)=((1+v.raws.length+A1 v.list+Bz v.pairs+B0 (v.slots.take i++[x]):Nat):Int):=(by rw[Wo,B0,B0,hH];omega);have f: -9223372036854775808<=((1+v.raws.length+A1 v.list+Bz v.pairs+B0 (v.slots.take i):Nat):Int)+(cnt x.val:Int)/\((1+v.raws.length+A1 v.list+Bz v.pairs+B0 (v.slots.take i):Nat):Int)+(cnt x.val:Int)<9223372036854775808:=ae;generalize ((1+v.raws.length+A1 v.list+Bz v.pairs+B0 (v.slots.take i):Nat):Int)=a at d f⊢;generalize ((1+v.raws.length+A1 v.list+Bz v.pairs+B0 (v.slots.take i++[x]):Nat):Int)=b at d⊢;generalize (cnt x.val:Int)=c at e d f;dsimp only[SR,br,ix,vz,wg,vs,ln,Af,cs,wa,wi,Ah,br];simp only[s,j,hx,Yn,Yq,Ya];rw[e,Ya,Yi f,Yi l,d]) (by dsimp only[SR,br,ix,vz,wg,vs,ln,Af,cs,wa,wi,Ah,br];simp[s]) (AM ae);simp only[A1,Bz,B0,Gg,id]at t u w;show Uh (KE g) v=_;dsimp only[Uh,vz,wg,vs,lr,lc,wa,Ah];simp only[z,A,Yq,t,u,w,Ya,Cr];rw[jh]
theorem ZGS{s:Scm}(hs:An (Al s)<=1048576)(k:Bool)(n:ByteArray)(v:Val)(b:AN v):eq s n v k=some (GF s k n v):=by
 have h:=DR hs;have e:NR s n=some (AK s n):=j7 s _ h.ml;have f:=Zy6 hs (AK s n).1 v k (Ms h _) b;have g:=Rx Ag v (by have i:An (Ae v)<=1048576:=b;exact AM ae) b;unfold GF;dsimp only[eq,br,wg,lr,cl,br];rw[e,Ya,f,g];cases(AK s n).2 with
 |false=>simp
 |true=>
  by_cases c:AL s k 16 (AK s n).1 v=0
  ·by_cases d:4096<cnt v
   ·have a:(4096:Int)<cnt v:=ae;simp[c,d,a]
   ·have a:¬(4096:Int)<cnt v:=ae;simp[c,d,a]
  ·simp[c]
theorem ZED{s:Scm}(hs:An (Al s)<=1048576)(n:ByteArray)(v:Val)(a:AN v):eG s n v=some (GF s true n v):=by dsimp only[eG,wg,lr,cl];rw[ZGS hs true n v a];rfl
def Ch(v:Val):List Val:=v.list++v.pairs.flatMap (λp=>[p.key,p.val])++v.slots.map λx=>x.val
theorem W8(l:List Pr):(l.flatMap λp=>[p.key,p.val]).length=2*l.length:=by
 induction l with
 |nil=>rfl
 |cons p l a=>rw[TP,Yt,a];simp;omega
theorem ZDG(l:List Pr):A1 (l.flatMap λp=>[p.key,p.val])=Bz l:=by
 induction l with
 |nil=>rfl
 |cons p l a=>rw[TP,KS,a,Bz,gW,A1,A1,A1];omega
theorem ZEJ(l:List Slt):A1 (l.map λx=>x.val)=B0 l:=by
 induction l with
 |nil=>rfl
 |cons p l a=>rw[YY,A1,a,B0,hH]
theorem w9(v:Val):1+v.raws.length+A1 (Ch v)=cnt v:=by unfold Ch;rw[KS,KS,ZDG,ZEJ,jh];omega
theorem w5{v x:Val}(e:AN v)(hx:x∈Ch v):AN x/\An (Ae x)+1<=An (Ae v):=by
 unfold Ch at hx;rcases DT.1 hx with d|d
 ·rcases DT.1 d with c|c
  ·exact⟨I1 e c,by have:=Zr c;omega⟩
  ·obtain⟨p,a,b⟩:=Nj.1 c;have g:=MP a;have f:=DJ e a;rcases Yx.1 b with rfl|b
   ·exact⟨f.1,ae⟩
   ·rcases Yx.1 b with rfl|b
    ·exact⟨f.2,ae⟩
    ·cases b
 ·obtain⟨y,a,rfl⟩:=YV.1 d;exact⟨GC e a,by have:=XB a;omega⟩
theorem ZxT(l:List Val)(h:l.length<549755813888):VO l=some l:=by
 cases l with
 |nil=>rfl
 |cons x r=>
  dsimp only[VO,al,br,vw,lr,a0,mv,br];simp only[Em]at h;simp;omega
theorem yR{v:Val}(h:SzV v):fA v=some (Ch v):=by
 obtain⟨t1,t2,t3,t4,t5⟩:=h;have e:=CK (B:=SW v) (N:=Ag) (ρ:=List Val) v.pairs (λp=>v.list++p.flatMap λp=>[p.key,p.val]) (λi b=>(b,i)) id (λi y hy=>by
  have a:=A5 hy;have g:=(Yb.1 hy).1;have c:i+1<9223372036854775808:=ae
  have d:(v.list++(v.pairs.take i).flatMap λp=>[p.key,p.val]).length<549755813800:=by rw[Yt,W8,Yz];omega
  rw[List.flatMap_append,<-DB];generalize (v.list++(v.pairs.take i).flatMap λp=>[p.key,p.val])=L at d⊢;dsimp only[SW,br,ix,vz,vw,wg,vs,ln,Af,jQ,wa,fl,br];simp[a,hy,c]<;>omega) (by have:(v.list++v.pairs.flatMap λp=>[p.key,p.val]).length<549755813800:=(by rw[Yt,W8];omega);dsimp only[SW,br,ix,vz,vw,wg,vs,ln,Af,jQ,wa,fl,br];simp) (AM ae)
 have f:=CK (B:=SB v) (N:=Ag) (ρ:=List Val) v.slots (λp=>(v.list++v.pairs.flatMap λp=>[p.key,p.val])++p.map λx=>x.val) (λi b=>(b,i)) id (λi y hy=>by
  have a:=A5 hy;have g:=(Yb.1 hy).1;have c:i+1<9223372036854775808:=ae
  have d:((v.list++v.pairs.flatMap λp=>[p.key,p.val])++(v.slots.take i).map λx=>x.val).length<549755813800:=by rw[Yt,Yt,W8,YF,Yz];omega
  rw[Df,<-DB];generalize ((v.list++v.pairs.flatMap λp=>[p.key,p.val])++(v.slots.take i).map λx=>x.val)=L at d⊢;dsimp only[SB,br,ix,vz,vw,wg,vs,ln,Af,ap,wa,fl,br];simp[a,hy,c]<;>omega) (by dsimp only[SB,br,ix,vz,vw,wg,vs,ln,Af,ap,wa,fl,br];simp) (AM ae)
 rw[show(v.list++([]:List Pr).flatMap λp=>[p.key,p.val])=v.list by simp]at e;rw[show((v.list++v.pairs.flatMap λp=>[p.key,p.val])++([]:List Slt).map λx=>x.val)=(v.list++v.pairs.flatMap λp=>[p.key,p.val])by simp]at f;dsimp only[fA,vz,wg,lr,lc,fl,fr,Ah];rw[ZxT _ ae];simp only[Ya,e,f,id,Cr];rfl
theorem xC{v:Val}(h:SzV v):(Ch v).length<=4194304:=by obtain⟨t1,t2,t3,t4,t5⟩:=h;unfold Ch;rw[Yt,Yt,W8,YF];omega
theorem iR:∀(d:Nat) (v:Val),An (Ae v)<d->AN v->N9 d v=some (cnt v:Int)
 |0,v,h,_=>ae
 |d+1,v,h,k=>by
  have j:=Cm k;have u:=j.r;have hl:=xC j;have o:=jf k;rw[<-w9]at o;have q:v.raws.length<4611686018427387904:=ae
  have r:1+v.raws.length<9223372036854775808:=ae
  have s:(Ch v).length<4611686018427387904:=ae
  have l:=CK (B:=Qn (N9 d) (Ch v)) (N:=Ag) (ρ:=Int) (Ch v) (λp=>((1+v.raws.length+A1 p:Nat):Int)) (λi b=>(b,i)) id (λi x hx=>by have m:=A5 hx;have n:i+1<9223372036854775808:=(by have:=(Yb.1 hx).1;omega);have hm:=w5 k (Yg hx);have e:=iR d x ae hm.1;have t:=xb hx;have f:((1+v.raws.length+A1 ((Ch v).take i):Nat):Int)+(cnt x:Int)=((1+v.raws.length+A1 ((Ch v).take i++[x]):Nat):Int):=(by rw[KS,A1,A1];omega);have g: -9223372036854775808<=((1+v.raws.length+A1 ((Ch v).take i):Nat):Int)+(cnt x:Int)/\((1+v.raws.length+A1 ((Ch v).take i):Nat):Int)+(cnt x:Int)<9223372036854775808:=ae;generalize ((1+v.raws.length+A1 ((Ch v).take i):Nat):Int)=a at f g⊢;generalize ((1+v.raws.length+A1 ((Ch v).take i++[x]):Nat):Int)=b at f⊢;generalize (cnt x:Int)=c at e f g;dsimp only[Qn,br,ix,wg,vs,v2,ln,Af,cs,wa,wi,br];simp only[m,hx,Yn,Yq,Ya];rw[e,Ya,Yi g,Yi n,f]) (by dsimp only[Qn,br,ix,wg,vs,v2,ln,Af,cs,wa,wi,br];simp) (AM ae);simp only[A1,Gg,id]at l;show TB (N9 d) v=_;dsimp only[TB,vz,wg,vs,lr,lc,cl,wa,Ah];rw[yR j];simp only[q,r,s,Yq,l,Ya,Cr];rw[w9]
theorem WY{l:List Fld}(h:CF l l.length):∀(d i:Nat) (a b:Fld),l[i]?=some a->l[i+1+d]?=some b->a.num<b.num
 |0,i,a,b,e,c=>h i a b (Yb.1 c).1 e c
 |d+1,i,a,b,e,c=>by
  have g:=(Yb.1 c).1;have f:i+1+d<l.length:=ae
  have j:=WY h d i a l[i+1+d] e (Ye f);have k:=h (i+1+d) l[i+1+d] b ae (Ye f) c;omega
theorem ZKw{l:List Fld}(h:CF l l.length){i:Nat}{f:Fld}(a:l[i]?=some f):∀g∈l.take i,g.num≠f.num:=λg b=>by obtain⟨j,c,rfl⟩:=ay.1 b;have:=WY h (i-(j+1)) j _ f (Ye ae) (by rw[show j+1+(i-(j+1))=i by omega];exact a);omega
def DfL(F:List Fld):Prop:=∀f∈F,JW f/\AN f.dflt
theorem K1(F:List Fld)(k:Int):((Bh F k).2=false/\AC F k=zF)\/((Bh F k).2=true/\AC F k∈F):=by
 unfold AC Bh Dt;cases e:F.find? λf=>decide (f.num=k)with
 |none=>exact .inl ⟨rfl,rfl⟩
 |some f=>exact .inr ⟨rfl,J5 e⟩
def BA(l:List Slt)(k:Int):Option Slt:=l.find? λx=>decide (x.num=k)
theorem xa(l:List Slt)(k:Int):Bt l k=(BA l k).isSome:=by
 unfold Bt BA;cases e:l.find? λx=>decide (x.num=k)with
 |none=>exact TQ.2 (TN.1 e)
 |some x=>refine YP.2 ?_;exact⟨x,J5 e,aR (p:=λx:Slt=>decide (x.num=k)) e⟩
theorem ZtD{F:List Fld}(h:CF F F.length){i:Nat}{f:Fld}(a:F[i]?=some f):F=F.take i++f::F.drop (i+1)/\(∀g∈F.take i,g.num≠f.num)/\∀g∈F.drop (i+1),g.num≠f.num:=by
 obtain⟨hi,e⟩:=Yb.1 a;refine⟨?_,ZKw h a,λg c=>?_⟩
 ·rw[<-e,List.getElem_cons_drop,IB]
 ·obtain⟨d,b⟩:=YJ.1 c;rw[YZ]at b;have:=WY h d i f g a b;omega
theorem OD{F:List Fld}(h:CF F F.length){i:Nat}{f:Fld}(c:F[i]?=some f):Bh F f.num=(f,true):=by
 obtain⟨e,b,j⟩:=ZtD h c;have a:F.find? (λg=>decide (g.num=f.num))=some f:=by rw[e,TR,TN.2 λg d=>by simpa using b g d];simp
 unfold Bh Dt;rw[a];rfl
theorem ZEr{s:Scm}(h:∀(i:Nat) (m:Msg),s.messages[i]?=some m->GdM s m)(hs:An (Al s)<=1048576)(n:ByteArray):CF (AA s n) (AA s n).length/\DfL (AA s n)/\(AA s n).length<=1048576:=by
 have hl:=Ms (DR hs) n;unfold AA Dt at*;cases e:s.messages.find? λm=>decide (m.name=n)with
 |none=>exact⟨λi a b hi=>by simp[zM]at hi,λf c=>by simp[zM]at c,by simp[zM]⟩
 |some m=>
  rw[e]at hl;have hm:=J5 e;obtain⟨i,hi⟩:=YJ.1 hm;have g:=h i m hi;refine⟨g.asc,λf c=>?_,hl⟩;obtain⟨j,k⟩:=YJ.1 c;refine⟨(g.df j f k).1,?_⟩;have d:=Dr (e:=AH) hm;have l:=Dr (e:=As) (show f∈m.fields from c);simp only[Al,An,bk]at hs;simp only[AH,An,bk]at d;have e:An (Ae f.dflt)<=An (As f):=by simp only[As,Ae,An,bk];omega
  show An (Ae f.dflt)<=1048576;omega
structure GdF (s:Scm) (f:Fld):Prop where
 en:f.type.kind=9->(Cg s f.type.name).2=true
 ms:f.type.kind=10->(AK s f.type.name).2=true
 ty:1<=f.type.kind/\f.type.kind<=10
 un:f.union≠⟨#[]⟩->f.card=2
 cd:f.card≠5->1<=f.card/\f.card<=4
 np:f.type.kind=10->f.card≠3
 ky:f.card=5->f.key=1\/f.key=2\/f.key=3\/f.key=4\/f.key=5\/f.key=7
structure GdS (s:Scm):Prop where
 fl:∀(n:ByteArray) (f:Fld),f∈AA s n->GdF s f
 asc:∀n:ByteArray,CF (AA s n) (AA s n).length
theorem JH{n:Int}{v:Val}(h:CA n v=0):v.kind=n/\BF v=false/\v.text.size<=4096/\F2 n v=true:=by
 unfold CA at h;by_cases a1:v.kind≠n\/BF v=true
 ·rw[Yi a1]at h;cases h
 ·rw[Yh a1]at h;by_cases a:4096<v.text.size
  ·rw[Yi a]at h;cases h
  ·rw[Yh a]at h;cases a3:F2 n v with
   |false=>
    rw[a3]at h;rw[Yh (by decide)]at h;split at h<;>cases h
   |true=>
    refine⟨Decidable.not_not.1 λe=>a1 (.inl e),?_,ae,rfl⟩;cases b:BF v with
    |false=>rfl
    |true=>exact absurd (.inr b) a1
theorem ZD9{s:Scm}{t:Typ}{v:Val}{R:Msg->Val->Int}(a:1<=t.kind)(b:t.kind<=9)(he:t.kind=9->(Cg s t.name).2=true):Nq s t v=BL R s t v:=by
 unfold Nq BL;rw[Yh (by omega:¬t.kind=10),Yh (by omega:¬(t.kind<1\/9<t.kind))];by_cases c:CA t.kind v≠0\/t.kind≠9
 ·rw[Yi c,Yi c]
 ·rw[Yh c,Yh c,he ae,Yh (by decide:¬true=false)]
theorem ZIU{n:Int}{a b:Val}(l:n=1\/n=2\/n=3\/n=4\/n=5\/n=7)(j:CA n a=0)(k:CA n b=0):ZG a b=FY a b:=by
 obtain⟨a1,h,_,_⟩:=JH j;obtain⟨d,i,_,_⟩:=JH k;obtain⟨_,a3,a4⟩:=gT (n:=n) ae ae a1 h;obtain⟨_,e,f⟩:=gT (n:=n) ae ae d i;unfold ZG FY;rw[a1,d,Yp rfl,Y9];unfold DN at a3 a4 e f;by_cases c:n=7
 ·rw[a3 (Yp (.inl c)),e (Yp (.inl c)),Yi (.inl c)];simp
 ·have g:decide (n=7\/n=8)=false:=Yu ae;rw[a4 g,f g,Yh ae,Yh ae];simp
theorem Zyq(l:List Pr)(f:Pr->Option Bool)(p:Pr->Bool)(d:∀x∈l,f x=some (p x))(h:l.length<=1048576):QE l f=some (l.any p):=by
 have e:=Ep (B:=RN l f) (N:=Ag) l p (λi=>(i:Int)) () (λi x hx=>by
  have a:=A5 hx;have g:=(Yb.1 hx).1;have b:i+1<9223372036854775808:=ae
  have c:=d x (Yg hx);dsimp only[RN,br,ix,vs,Ar,ln,Af,cf,wa,br];simp only[a,b,c,hx,Yn,Yq,Ya];cases p x<;>simp) (by simp[RN,br,ix,vs,Ar,ln,Af,cf,wa,br]) (AM ae)
 dsimp only[QE,lr,cs,fp,vz,lr,lc,Ah];rw[e,<-LB];cases l.findIdx? p with
 |none=>rfl
 |some i=>simp
theorem g7(l:List Slt)(f:Slt->Option Bool)(p:Slt->Bool)(a:∀x∈l,f x=some (p x))(h:l.length<=1048576):NX l f=some (l.any p):=by dsimp only[NX,lr,cs];rw[z2 l f p a ae];simp only[Ya];rw[yp]
theorem ZJG(l:List Slt)(f:Fld)(h:l.length<=1048576):VU l f=some (Bt l f.num):=by dsimp only[VU,lr,cs];rw[g7 l (λz=>Vz z f) (λx=>decide (x.num=f.num)) (λx _=>rfl) h];rfl
theorem ZIx(l:List Slt)(f:Fld)(h:l.length<=1048576):VY l f=some (Bt l f.num):=by dsimp only[VY,lr,cs];rw[g7 l (λz=>Vy z f) (λx=>decide (x.num=f.num)) (λx _=>rfl) h];rfl
theorem ZIW(l:List Slt)(f:Fld)(h:l.length<=1048576):VQ l f=some (Bt l f.num):=by dsimp only[VQ,lr,cs];rw[g7 l (λz=>VC z f) (λx=>decide (x.num=f.num)) (λx _=>rfl) h];rfl
def Iv(F:List Fld)(u:ByteArray):List Fld:=if u=⟨#[]⟩then[]else F.filter λf=>decide (f.union=u)
theorem ZDi(m:Msg)(u:ByteArray)(h:m.fields.length<=1048576):N7 m u=some (Iv m.fields u):=by
 unfold Iv;by_cases c:u=⟨#[]⟩
 ·subst c;rfl
 ·dsimp only[N7,br,vz,wg,lr,lc,fl,fr,br];rw[zX _ ae,Ya,zW m.fields (λz=>QX z u) (λf=>!decide (f.union=u)) (λf _=>rfl) ae,Ya];simp[c]
theorem zy(F:List Fld)(u:ByteArray):(Iv F u).length<=F.length:=by
 unfold Iv;split
 ·exact B8 _
 ·exact ID _ _
theorem FO{F:List Fld}(h:CF F F.length){g:Fld}(a:g∈F):Bh F g.num=(g,true):=by obtain⟨i,hi⟩:=YJ.1 a;exact OD h hi
theorem ZMz{F:List Fld}(h:CF F F.length)(l:List Slt)(k:Int)(j:Bt l k=false)(u:ByteArray):((Iv F u).any λg=>(!decide (g.num=k))&&Bt l g.num)=HB F l u:=by
 unfold Iv HB;by_cases c:u=⟨#[]⟩
 ·simp[c]
 ·rw[Yh c,Yu c,YS,Y9,Nl,YP,YP];constructor
  ·rintro⟨g,d,a⟩;obtain⟨m,n⟩:=Y2.1 d;rw[Yc]at a;obtain⟨y,o,i⟩:=YP.1 (show(l.any λx=>decide (x.num=g.num))=true from a.2);rw[Yr]at i;refine⟨y,o,?_⟩;unfold AC;rw[i,FO h m];exact n
  ·rintro⟨y,d,a⟩;rw[Yr]at a;rcases K1 F y.num with⟨f,b⟩|⟨f,b⟩
   ·rw[b]at a;exact absurd a.symm c
   ·have p:=Mk f;refine⟨AC F y.num,Y2.2 ⟨b,Yp a⟩,?_⟩;rw[p,Yc];have hy:Bt l y.num=true:=YP.2 ⟨y,d,Yp rfl⟩;refine⟨?_,hy⟩;rw[YM,YB];intro e;rw[e]at hy;rw[hy]at j;cases j
abbrev Pc:=Scm->Fld->Val->Int->Option Int
theorem ZGk(R:Pc)(n:Fld->Val->Int)(s:Scm)(m:Msg)(l:List Slt)(i:Nat)(x:Slt)(d:Int)(E:CF m.fields m.fields.length)(hm:m.fields.length<=1048576)(hl:l.length<=1048576)(hx:l[i]?=some x)(D:∀f:Fld,f∈m.fields->R s f x.val d=some (n f x.val)):V2 R s m l i d=some (Ee n m.fields l i x):=by
 have hi:=(Yb.1 hx).1;have t:(l.take i).length<=1048576:=by rw[Yz];omega
 have w0:(0:Int)<=i/\(i:Int)<l.length:=ae
 have b:(0:Int)<=i/\(i:Int)<=l.length:=ae
 have c:i<=l.length:=ae
 have v:(Bh m.fields x.num).1=AC m.fields x.num:=rfl;have I:(l.getD i Rw.z)=x:=by rw[Yj,hx];rfl
 have H:∀y:Fld×Bool,Bt (l.take i) y.1.num=false->Aj (OT s l i d R y (Iv m.fields y.1.union)) Ag 0=some (if HB m.fields (l.take i) y.1.union=true then .inr 15 else .inl ()):=λy hy=>by have u:=zy m.fields y.1.union;have q:=Wm (B:=OT s l i d R y (Iv m.fields y.1.union)) (N:=Ag) (Iv m.fields y.1.union) (λg=>(!decide (g.num=y.1.num))&&Bt (l.take i) g.num) (15:Int) () (λj g k=>by have A:=A5 k;have C:j+1<9223372036854775808:=(by have:=(Yb.1 k).1;omega);have e:=ZIx (l.take i) g t;dsimp only[OT,br,ix,wg,vs,Ar,ln,Af,C1,wa,br];simp only[A,C,k,b,c,e,YW,Bd.c,Bd.vl,PO,HQ,Yn,Yq,Ya,BZ,CT,Y6,YK,B8];cases(!decide (g.num=y.1.num))&&Bt (l.take i) g.num<;>simp) (by dsimp only[OT,br,ix,wg,vs,Ar,ln,Af,C1,wa,br];simp) (AM ae);rw[q,ZMz E _ _ hy]
 have w:=ZJG (l.take i) (AC m.fields x.num) t;have z:=ZDi m (AC m.fields x.num).union hm;have u:(Iv m.fields (AC m.fields x.num).union).length<4611686018427387904:=by have:=zy m.fields (AC m.fields x.num).union;omega
 unfold Ee;dsimp only[V2,cj,br,CB,vz,vw,wg,lr,lc,cl,cs,sL,du,Ah,br];simp only[YW,hx,w0,b,c,I,BZ,Yq,S5 _ _ hm,Ya,v,Bd.c,Bd.vl,PO,HQ,w,z,u,B8];cases p:(Bh m.fields x.num).2 with
 |false=>simp
 |true=>
  have r:(AC m.fields x.num).num=x.num:=Mk p;have a:AC m.fields x.num∈m.fields:=by
   rcases K1 m.fields x.num with⟨h,o⟩|⟨h,o⟩
   ·rw[p]at h;cases h
   ·exact o
  have G:=D _ a;have q:=H (Bh m.fields x.num);rw[v,r]at q;rw[r];cases F:Bt (l.take i) x.num with
  |true=>simp
  |false=>
   have q:=q F;simp only[q,YQ,Yk,YE,Ya];cases HB m.fields (l.take i) (AC m.fields x.num).union with
   |true=>simp
   |false=>simp[G]
structure GdT (s:Scm) (t:Typ):Prop where
 en:t.kind=9->(Cg s t.name).2=true
 ms:t.kind=10->(AK s t.name).2=true
 ty:1<=t.kind/\t.kind<=10
theorem GdF.t{s:Scm}{f:Fld}(h:GdF s f):GdT s f.type:=⟨h.en,h.ms,h.ty⟩
def US(R:Pc)(s:Scm)(d:Nat):Prop:=∀d':Nat,d=d'+1->∀(f:Fld) (x:Val),GdF s f->AN x->R s f x (16-(d':Int))=some (A7 (AL s true d') s true f x)
theorem ZIi{s:Scm}(hs:An (Al s)<=1048576)(m:Msg)(x:Raw)(hm:m.fields.length<=1048576)(hx:x.data.size<=1048576):gf s m x=some (GW s m.fields x):=by
 have h:=DR hs;have o:x.data.size<4611686018427387904:=ae
 have k:=m9 s (AC m.fields x.num).type.name h.el;have l:=wW (Cg s (AC m.fields x.num).type.name).1 x.bits (WM h _);have p:(Bh m.fields x.num).1=AC m.fields x.num:=rfl;have n:fM s (AC m.fields x.num) x=some (Sh s (AC m.fields x.num) x):=by unfold Sh;dsimp only[fM,wg,lr,cl,Az];rw[k,Ya,l];generalize Cg s (AC m.fields x.num).type.name=g;generalize AC m.fields x.num=f;simp only[Y6,CT,Yq,YK];congr 1;cases g.2<;>cases g.1.opn<;>cases decide (f.type.kind=9)<;>cases decide (f.card=5)<;>cases decide (x.wire=0)<;>cases decide (x.bits<2147483648)<;>cases GZ g.1 x.bits<;>rfl
 dsimp only[gf,br,vy,wg,lr,cl,Az,A3,br];rw[S5 _ _ hm,Ya,p,n];unfold GW;generalize Sh s (AC m.fields x.num) x=kp;have j:(if((decide (x.wire=3)&&decide ((4096:Int)<x.data.size))||decide ((65536:Int)<x.data.size))=true then some (3:Int)else some 0)=some (if(x.wire=3/\4096<x.data.size)\/65536<x.data.size then 3 else 0):=by
  by_cases c:(x.wire=3/\4096<x.data.size)\/65536<x.data.size
  ·rw[Yi c,Yi];simp only[YG,Yc,Yr];omega
  ·rw[Yh c,Yh];simp only[YG,Yc,Yr];omega
 simp only[o,CT,Yq,Y6,YK];by_cases a:x.num<1\/65535<x.num\/x.wire<0\/6<x.wire
 ·have a1:(((decide (x.num<1)||decide (65535<x.num))||decide (x.wire<0))||decide (6<x.wire))=true:=by simp only[YG,Yr];omega
  rw[Yi a1,Yi ae]
 ·have a1:¬(((decide (x.num<1)||decide (65535<x.num))||decide (x.wire<0))||decide (6<x.wire))=true:=by simp only[YG,Yr];omega
  rw[Yh a1];by_cases b:(x.wire<=2/\x.data≠⟨#[]⟩)\/(2<x.wire/\x.bits≠0)
  ·have d:((decide (x.wire<=2)&&!decide (x.data=⟨#[]⟩))||((!decide (x.wire<=2))&&!decide (x.bits=0)))=true:=(by by_cases i:x.data=⟨#[]⟩<;>simp only[i,Yn,YC,YQ,YS,Gf,J7,G4,YG,Yc,YM,Yr,YB,ne_eq,IG,G2,Gj,II,Nm]at b⊢<;>omega);have e:x.num<1\/65535<x.num\/x.wire<0\/6<x.wire\/(x.wire<=2/\x.data≠⟨#[]⟩)\/(2<x.wire/\x.bits≠0):=.inr (.inr (.inr (.inr b)));rw[Yi e,d];rfl
  ·have d:((decide (x.wire<=2)&&!decide (x.data=⟨#[]⟩))||((!decide (x.wire<=2))&&!decide (x.bits=0)))=false:=(by by_cases i:x.data=⟨#[]⟩<;>simp only[i,Yn,YC,YQ,YS,Gf,J7,G4,IF,IC,TM,Yr,YB,ne_eq,IG,G2,Gj,II,Nm]at b⊢<;>omega);have e:¬(x.num<1\/65535<x.num\/x.wire<0\/6<x.wire\/(x.wire<=2/\x.data≠⟨#[]⟩)\/(2<x.wire/\x.bits≠0)):=λh=>by
    rcases h with h|h|h|h|h
    ·exact a (.inl h)
    ·exact a (.inr (.inl h))
    ·exact a (.inr (.inr (.inl h)))
    ·exact a (.inr (.inr (.inr h)))
    ·exact b h
   rw[Yh e,d,j];cases(Bh m.fields x.num).2<;>cases kp<;>simp
theorem mW(R:Pc){s:Scm}(hs:An (Al s)<=1048576)(g:GdS s)(n:ByteArray)(v:Val)(d:Nat)(K:d<=16)(p:AN v)(A:US R s d):VA R s (AK s n).1 v (17-(d:Int))=some (AL s true d (AK s n).1 v):=by
 have h:=DR hs;have hm:(AK s n).1.fields.length<=1048576:=Ms h n;have w:CF (AK s n).1.fields (AK s n).1.fields.length:=g.asc n;have b:∀f∈(AK s n).1.fields,GdF s f:=g.fl n;generalize (AK s n).1=m at hm w b;have D:=Cm p;obtain⟨s1,s2,L,y,M⟩:=Cm p;have H:m.fields.length<4611686018427387904:=ae
 have I:v.slots.length<4611686018427387904:=ae
 have J:v.raws.length<4611686018427387904:=ae
 dsimp only[VA,br,vz,wg,lr,lc,Az,Ah,br];rw[jE D];by_cases c:v.kind≠10\/BF v=true
 ·have z:AL s true d m v=12:=by cases d<;>(unfold AL;rw[Yi c])
  rw[z];by_cases a:v.kind=10
  ·have o:BF v=true:=c.resolve_left λe=>e a;simp[a,o]
  ·simp[a]
 ·have a:v.kind=10:=Decidable.not_not.1 λe=>c (.inl e);have o:BF v=false:=by
   cases h:BF v with
   |false=>rfl
   |true=>exact absurd (.inr h) c
  cases d with
  |zero=>
   unfold AL;rw[Yh c];simp[a,o]
  |succ d=>
   have t:¬(16:Int)<17-((d+1:Nat):Int):=ae;have E:=HW (B:=Sb s m v (17-((d+1:Nat):Int)) R) (N:=Ag) v.slots (Ee (A7 (AL s true d) s true) m.fields v.slots) id () (λi x hx _=>by
    have e:=ZGk R (A7 (AL s true d) s true) s m v.slots i x (17-((d+1:Nat):Int)) w hm y hx λf r=>by have:=A d rfl f x.val (b f r) (GC p (Yg hx));rw[show 17-((d+1:Nat):Int)=16-(d:Int)by omega];exact this
    have j:=A5 hx;have k:i+1<9223372036854775808:=(by have:=(Yb.1 hx).1;omega);dsimp only[Sb,br,wg,vs,v2,Ar,ln,Af,cs,wa,br];simp only[j,k,e,Yn,Yq,Ya];by_cases hy:Ee (A7 (AL s true d) s true) m.fields v.slots i x=0<;>simp[hy]) (by dsimp only[Sb,br,wg,vs,v2,Ar,ln,Af,cs,wa,br];simp) (AM ae)
   have F:=HW (B:=SP s m v R) (N:=Ag) m.fields (λ_ f=>GU v.slots f) id () (λi f b _=>by have j:=A5 b;have k:i+1<9223372036854775808:=(by have:=(Yb.1 b).1;omega);have e:=ZIW v.slots f y;unfold GU;dsimp only[SP,br,ix,wg,vs,Ar,ln,Af,C1,wa,br];simp only[j,k,b,e,Yn,Yq,Ya,CT,Y6,YK];by_cases C:f.card=1<;>cases Bt v.slots f.num<;>simp[C]) (by dsimp only[SP,br,ix,wg,vs,Ar,ln,Af,C1,wa,br];simp) (AM ae);have G:=HW (B:=Sj s m v R) (N:=Ag) v.raws (λ_ x=>GW s m.fields x) id () (λi x hx _=>by have j:=A5 hx;have k:i+1<9223372036854775808:=(by have:=(Yb.1 hx).1;omega);have e:=ZIi hs m x hm (pi p (Yg hx));dsimp only[Sj,br,ix,wg,vs,Ar,ln,Af,cl,wa,br];simp only[j,k,hx,e,Yn,Yq,Ya];by_cases hy:GW s m.fields x=0<;>simp[hy]) (by dsimp only[Sj,br,ix,wg,vs,Ar,ln,Af,cl,wa,br];simp) (AM ae);unfold AL;rw[Yh c];simp only[a,o,t,H,I,J,E,F,G,Yn,YC,YQ,YS,LF,Yk,J9,Y6,YK,Yq,YE,Ya];by_cases l:BR (Ee (A7 (AL s true d) s true) m.fields v.slots) v.slots 0=0
   ·by_cases q:BR (λ_ f=>GU v.slots f) m.fields 0=0
    ·by_cases u:BR (λ_ x=>GW s m.fields x) v.raws 0=0
     ·simp[l,q,u]
     ·simp[l,q,u]
    ·simp[l,q]
   ·simp[l]
theorem m7(R:Pc){s:Scm}(hs:An (Al s)<=1048576)(g:GdS s)(t:Typ)(a:GdT s t)(v:Val)(d:Nat)(j:d<=16)(b:AN v)(i:US R s d):N8 R s t v (16-(d:Int))=some (BL (AL s true d) s t v):=by
 have h:=DR hs;have e:Mb s t.name=some (AK s t.name):=ZK s _ h.ml;have hm:=mW R hs g t.name v d j b i;have w: -9223372036854775808<=17-(d:Int)/\17-(d:Int)<9223372036854775808:=ae
 have wl:16-(d:Int)+1=17-(d:Int):=ae
 dsimp only[N8,br,wg,vs,lr,cl,cs,wi,br];by_cases c:t.kind=10
 ·have f:=a.ms c;unfold BL;rw[Yi c,Yi f,e];simp only[c,Yn,Yq,Ya,w,BZ,wl,hm]
 ·rw[nc s t h (Cm b),ZD9 (R:=AL s true d) a.ty.1 (by have:=a.ty.2;omega) a.en];simp only[c,YC,Yk,YE,Ya]
theorem ZJf(R:Pc){s:Scm}(hs:An (Al s)<=1048576)(g:GdS s)(f:Fld)(C:GdF s f)(H:f.card=5)(l:List Pr)(hl:l.length<=1048576)(A:∀p∈l,AN p.key/\AN p.val)(d:Nat)(J:d<=16)(I:US R s d):VB R s f l (16-(d:Int))=some (BR (GL (BL (AL s true d) s f.type) f.key true l) l 0):=by
 have h:=DR hs;have y:=λ(x:Val) (hx:AN x)=>m7 R hs g f.type C.t x d J hx I;have K:=C.ky H;have w2:l.length<4611686018427387904:=ae
 generalize 16-(d:Int)=M at y;have O:=HW (B:=Ow s f l M R) (N:=Ag) l (GL (BL (AL s true d) s f.type) f.key true l) id () (λi p a G=>by
  have v:=A5 a;have hi:=(Yb.1 a).1;have w:i+1<9223372036854775808:=ae
  have F:i<=l.length:=ae
  have Dd:=A p (Yg a);have t:=nc s (.mk f.key ⟨#[]⟩) h (Cm Dd.1);have u:Nq s (.mk f.key ⟨#[]⟩) p.key=CA f.key p.key:=by unfold Nq;rw[Yi (.inr (show f.key≠9 by omega))]
  rw[u]at t;have D:=y p.val Dd.2;have L:∀q∈l.take i,CA f.key q.key=0:=λq m=>by
   obtain⟨j,k⟩:=YJ.1 m;rw[Y4]at k;split at k
   ·have:=G j q (by assumption) k;unfold GL at this;by_cases c:CA f.key q.key=0
    ·exact c
    ·rw[Yi c]at this;exact absurd this c
   ·cases k
  unfold GL;by_cases n:CA f.key p.key=0
  ·have E:QE (l.take i) (λz=>QU z p)=some ((l.take i).any λq=>FY q.key p.key):=Zyq _ _ _ (λq m=>by have b:=L q m;have kd:=(JH b).1;have e:=ZT7 (d:=q.key) (x:=p.key) (by rw[kd];omega) (A q (TX m)).1 Dd.1;rw[ZIU K b n]at e;dsimp only[QU,wg,lr,cl];rw[e];rfl) (by rw[Yz];omega);dsimp only[Ow,br,ix,wg,vs,Ar,ln,Af,cl,cs,wa,sL,br];simp only[v,w,F,a,t,D,E,n,Bd.c,Bd.vl,PO,HQ,Yn,Yq,Ya,BZ,B8];by_cases o:((l.take i).any λq=>FY q.key p.key)=true
   ·simp[o]
   ·by_cases r:BL (AL s true d) s f.type p.val=0
    ·simp only[o,r];simp
    ·simp only[o,r];simp[r]
  ·dsimp only[Ow,br,ix,wg,vs,Ar,ln,Af,cl,cs,wa,sL,br];simp only[v,w,a,t,Yn,Yq,Ya];simp[n]) (by dsimp only[Ow,br,ix,wg,vs,Ar,ln,Af,cl,cs,wa,sL,br];simp) (AM ae)
 dsimp only[VB,vz,lr,lc,Ah];rw[O];by_cases c6:BR (GL (BL (AL s true d) s f.type) f.key true l) l 0=0
 ·simp[c6,w2]
 ·simp[c6,w2]
theorem ZIv(R:Pc){s:Scm}(hs:An (Al s)<=1048576)(g:GdS s)(f:Fld)(n:GdF s f)(v:Val)(d:Nat)(m:d<=16)(j:AN v)(l:US R s d):XQ R s f v (16-(d:Int))=some (A7 (AL s true d) s true f v):=by
 have h:=DR hs;have w:=Cm j;obtain⟨s1,s2,A,C,D⟩:=Cm j;have o:v.list.length<4611686018427387904:=ae
 have k:=λ(x:Val) (hx:AN x)=>m7 R hs g f.type n.t x d m hx l;have hN:=λt=>ZJf R hs g f n t v.pairs A (λp u=>DJ j u) d m l;generalize 16-(d:Int)=y at k hN;have z:=HW (B:=RL s f v y R) (N:=Ag) v.list (λ_ x=>BL (AL s true d) s f.type x) id () (λi x hx _=>by
  have q:=A5 hx;have r:i+1<9223372036854775808:=by have:=(Yb.1 hx).1;omega
  have e:=k x (I1 j (Yg hx));dsimp only[RL,br,ix,wg,vs,v2,Ar,ln,Af,cs,wa,br];simp only[q,r,hx,e,Yn,Yq,Ya];by_cases hy:BL (AL s true d) s f.type x=0<;>simp[hy]) (by dsimp only[RL,br,ix,wg,vs,v2,Ar,ln,Af,cs,wa,br];simp) (AM ae)
 have e0:=k v j;unfold A7;dsimp only[XQ,br,vz,wg,lr,lc,Az,cs,Ah,br];rw[jE w,z,e0];by_cases b:f.card=4
 ·by_cases a:v.kind=11
  ·cases BF v with
   |true=>simp[b,a]
   |false=>
    by_cases c6:BR (λ_ x=>BL (AL s true d) s f.type x) v.list 0=0
    ·simp[b,a,c6,o]
    ·simp[b,a,c6,o]
  ·simp[b,a]
 ·by_cases c:f.card=5
  ·have hN:=hN c;by_cases a:v.kind=12
   ·cases BF v with
    |true=>simp[c,a]
    |false=>simp[c,a,hN]
   ·simp[c,a]
  ·simp[b,c]
theorem zu{s:Scm}(hs:An (Al s)<=1048576)(g:GdS s):∀(a d:Nat),d<a->d<=16->∀(f:Fld) (v:Val),GdF s f->AN v->Md a s f v (16-(d:Int))=some (A7 (AL s true d) s true f v)
 |0,d,b,_,_,_,_,_=>absurd b (Y8 _)
 |a+1,d,b,c,f,v,h,j=>ZIv (Md a) hs g f h v d c j λd' e k x i hx=>zu hs g a d' ae ae k x i hx
theorem ZHJ{s:Scm}(hs:An (Al s)<=1048576)(g:GdS s)(n:ByteArray)(v:Val)(b:AN v):fv s n v=some (GF s true n v):=by
 have h:=DR hs;have j:Mb s n=some (AK s n):=ZK s _ h.ml;have i:=mW (Md Ag) hs g n v 16 (Yf _) b λd' e f x l hx=>zu hs g Ag d' (by have:=bD;omega) ae f x l hx;rw[show(17:Int)-((16:Nat):Int)=1 by decide]at i;have k:=iR Ag v (by have m:An (Ae v)<=1048576:=b;exact AM ae) b;unfold GF;dsimp only[fv,br,wg,lr,cl,br];rw[j,Ya,i,k];cases(AK s n).2 with
 |false=>simp
 |true=>
  by_cases c:AL s true 16 (AK s n).1 v=0
  ·by_cases d:4096<cnt v
   ·have a:(4096:Int)<cnt v:=ae;simp[c,d,a]
   ·have a:¬(4096:Int)<cnt v:=ae;simp[c,d,a]
  ·simp[c]
theorem ym{α:Type}[Inhabited α]{l:List α}{z:α}{p:α->Bool}{x:α}(hx:x∈l)(a:p x=true):(Dt l z p).2=true:=by
 unfold Dt;cases e:l.find? p with
 |none=>exact absurd a (TN.1 e x hx)
 |some y=>rfl
theorem ZKf{s:Scm}(h:∀(i:Nat) (m:Msg),s.messages[i]?=some m->GdM s m)(hs:An (Al s)<=1048576):GdS s:=by
 refine⟨λn f a=>?_,λn=>(ZEr h hs n).1⟩;unfold AA Dt at a;cases e:s.messages.find? λm=>decide (m.name=n)with
 |none=>rw[e]at a;cases a
 |some m=>
  rw[e]at a;obtain⟨i,hi⟩:=YJ.1 (J5 e);obtain⟨j,g⟩:=YJ.1 (show f∈m.fields from a);obtain⟨_,c,⟨t1,t2,t3⟩,u⟩:=(h i m hi).df j f g;refine⟨λk=>?_,λk=>?_,t3,u,λk=>⟨(c.1 k).1,(c.1 k).2.1⟩,λk=>(t2 k).2,c.2⟩
  ·obtain⟨x,b,d⟩:=t1 k;exact ym b (Yp d)
  ·obtain⟨⟨x,b,d⟩,_⟩:=t2 k;exact ym b (Yp d)
theorem We{α ξ:Type}{B:Nat->Option (Lv Nat ξ Bool)}{N:Nat}(xs ys:List α)(e:ξ)(hl:xs.length=ys.length)
  (hs:∀(i:Nat) (x y:α),xs[i]?=some x->ys[i]?=some y->∃b:Bool,(b=true↔x=y)/\B i=some (if b=true then .nx (i+1)else .rt false)) (he:B xs.length=some (.ex e)) (hN:xs.length<N):
  Ok (Sum.elim (λ_=>xs=ys) (λr:Bool=>r=false/\xs≠ys)) (Aj B N 0):=by
 refine BC (λi:Nat=>i<=xs.length/\∀j:Nat,j<i->xs[j]?=ys[j]?) (λi:Nat=>xs.length-i) ⟨B8 _,λj c=>absurd c (Y8 _)⟩ ae λi hi=>?_;obtain⟨k,d⟩:=hi;by_cases h:i<xs.length
 ·have hx:=Ye h;have hy:=Ye (hl▸h:i<ys.length);obtain⟨b,f,g⟩:=hs i _ _ hx hy;rw[g];cases b with
  |true=>
   refine⟨_,rfl,⟨⟨h,λj c=>?_⟩,by show xs.length-(i+1)<xs.length-i;omega⟩⟩;by_cases a:j=i
   ·subst a;rw[hx,hy,f.1 rfl]
   ·exact d j ae
  |false=>
   refine⟨_,rfl,rfl,λa=>?_⟩;subst a;exact absurd (f.2 rfl) (by decide)
 ·have a:i=xs.length:=ae
  subst a;rw[he];refine⟨_,rfl,List.ext_getElem? λj=>?_⟩;by_cases c:j<xs.length
  ·exact d j c
  ·rw[YX ae,YX ae]
abbrev D6{α:Type}(x y:α)(o:Option Bool):Prop:=Ok (λb:Bool=>b=true↔x=y) o
theorem D6.no{α:Type}{x y:α}(h:x≠y):D6 x y (some false):=⟨false,rfl,Iff.intro (λe=>absurd e (by decide)) λe=>absurd e h⟩
theorem D6.yes{α:Type}{x y:α}(h:x=y):D6 x y (some true):=⟨true,rfl,Iff.intro (λ_=>h) λ_=>rfl⟩
theorem jn{a b:Val}:a=b↔a.kind=b.kind/\a.bits=b.bits/\a.text=b.text/\a.list=b.list/\a.pairs=b.pairs/\a.slots=b.slots/\a.raws=b.raws:=by cases a;cases b;simp only[Val.kind,Val.bits,Val.text,Val.list,Val.pairs,Val.slots,Val.raws,Val.mk.injEq]
theorem ZQ5{a b:Pr}:a=b↔a.key=b.key/\a.val=b.val:=by cases a;cases b;simp only[Pr.key,Pr.val,Pr.mk.injEq]
theorem ZI7{a b:Slt}:a=b↔a.num=b.num/\a.val=b.val:=by cases a;cases b;simp only[Slt.num,Slt.val,Slt.mk.injEq]
theorem ZLA{a b:Raw}:a=b↔a.num=b.num/\a.wire=b.wire/\a.bits=b.bits/\a.data=b.data:=by cases a;cases b;simp only[Raw.mk.injEq]
structure SzL (v:Val):Prop where
 l:v.list.length<=4194304
 p:v.pairs.length<=4194304
 s:v.slots.length<=4194304
 r:v.raws.length<=4194304
theorem SzV.l'{v:Val}(h:SzV v):SzL v:=⟨by have:=h.l;omega,by have:=h.p;omega,by have:=h.s;omega,by have:=h.r;omega⟩
theorem Zrw(R:Val->Val->Option Bool)(a b:Val)(L:SzL a)(z:SzL b)(hl:∀x∈a.list,∀y∈b.list,D6 x y (R x y))(M:∀x∈a.pairs,∀y∈b.pairs,D6 x.key y.key (R x.key y.key)/\D6 x.val y.val (R x.val y.val))(hs:∀x∈a.slots,∀y∈b.slots,D6 x.val y.val (R x.val y.val)):D6 a b (UW R a b):=by
 obtain⟨a1,X,a3,a4⟩:=L;obtain⟨Y,Z,b3,b4⟩:=z;have F:a.list.length<4611686018427387904:=ae
 have G:a.pairs.length<4611686018427387904:=ae
 have H:a.slots.length<4611686018427387904:=ae
 have I:a.raws.length<4611686018427387904:=ae
 have k1:b.list.length<4611686018427387904:=ae
 have k2:b.pairs.length<4611686018427387904:=ae
 have k3:b.slots.length<4611686018427387904:=ae
 have k4:b.raws.length<4611686018427387904:=ae
 have O:a.list.length=b.list.length->Ok (Sum.elim (λ_=>a.list=b.list) (λr:Bool=>r=false/\a.list≠b.list)) (Aj (SC a b R) Ag 0):=λe=>We a.list b.list () e (λi x y hx hy=>by
  have d:=A5 hx;have g:i+1<9223372036854775808:=by have:=(Yb.1 hx).1;omega
  obtain⟨r,f,k⟩:=hl x (Yg hx) y (Yg hy);refine⟨r,k,?_⟩;dsimp only[SC,br,ix,vz,wg,vs,Ar,ln,Af,cs,wa,Ah,br];simp only[F,d,hx,hy,Yn,Yq,Ya];rw[f];cases r<;>simp[g]) (by dsimp only[SC,br,ix,vz,wg,vs,Ar,ln,Af,cs,wa,Ah,br];simp[F]) (AM ae)
 have P:a.pairs.length=b.pairs.length->Ok (Sum.elim (λ_=>a.pairs=b.pairs) (λr:Bool=>r=false/\a.pairs≠b.pairs)) (Aj (SA a b R) Ag 0):=λe=>We a.pairs b.pairs () e (λi x y hx hy=>by
  have d:=A5 hx;have g:i+1<9223372036854775808:=by have:=(Yb.1 hx).1;omega
  have q:=A5 hy;have s:a.pairs.getD i Rw.z=x:=by rw[Yj,hx];rfl
  have u:b.pairs.getD i Rw.z=y:=by rw[Yj,hy];rfl
  have v:(0:Int)<=i/\(i:Int)<a.pairs.length:=⟨ae,d⟩;have w:(0:Int)<=i/\(i:Int)<b.pairs.length:=⟨ae,q⟩;obtain⟨⟨r,f,k⟩,⟨t,p,N⟩⟩:=M x (Yg hx) y (Yg hy);refine⟨r&&t,by rw[Yc,k,N,ZQ5],?_⟩;dsimp only[SA,br,ix,AZ,vz,wg,vs,Ar,ln,Af,cs,C1,wa,Ah,br];simp only[G,d,hx,hy,s,u,v,w,YW,Yn,Yq,Ya,BZ,CT];rw[f,p];cases r<;>cases t<;>simp[g]) (by dsimp only[SA,br,ix,AZ,vz,wg,vs,Ar,ln,Af,cs,C1,wa,Ah,br];simp[G]) (AM ae)
 have Q:a.slots.length=b.slots.length->Ok (Sum.elim (λ_=>a.slots=b.slots) (λr:Bool=>r=false/\a.slots≠b.slots)) (Aj (Sv a b R) Ag 0):=λe=>We a.slots b.slots () e (λi x y hx hy=>by
  have d:=A5 hx;have g:i+1<9223372036854775808:=by have:=(Yb.1 hx).1;omega
  have q:=A5 hy;have s:a.slots.getD i Rw.z=x:=by rw[Yj,hx];rfl
  have u:b.slots.getD i Rw.z=y:=by rw[Yj,hy];rfl
  have v:(0:Int)<=i/\(i:Int)<a.slots.length:=⟨ae,d⟩;have w:(0:Int)<=i/\(i:Int)<b.slots.length:=⟨ae,q⟩;obtain⟨r,f,k⟩:=hs x (Yg hx) y (Yg hy);refine⟨decide (x.num=y.num)&&r,by rw[Yc,Yr,k,ZI7],?_⟩;dsimp only[Sv,br,ix,AZ,vz,wg,vs,Ar,ln,Af,C1,wa,Ah,br];simp only[H,d,hx,hy,s,u,v,w,YW,Yn,Yq,Ya,BZ,CT];rw[f];cases r<;>cases decide (x.num=y.num)<;>simp[g]) (by dsimp only[Sv,br,ix,AZ,vz,wg,vs,Ar,ln,Af,C1,wa,Ah,br];simp[H]) (AM ae)
 have S:a.raws.length=b.raws.length->Ok (Sum.elim (λ_=>a.raws=b.raws) (λr:Bool=>r=false/\a.raws≠b.raws)) (Aj (Sr a b R) Ag 0):=λe=>We a.raws b.raws () e (λi x y hx hy=>by
  have d:=A5 hx;have g:i+1<9223372036854775808:=by have:=(Yb.1 hx).1;omega
  refine⟨decide (x.num=y.num)&&(decide (x.wire=y.wire)&&(decide (x.bits=y.bits)&&decide (x.data=y.data))),by simp only[Yc,Yr,ZLA],?_⟩;dsimp only[Sr,br,ix,vz,wg,vs,Ar,ln,Af,wa,Ah,br];simp only[I,d,hx,hy,Yn,Yq,Ya,J7];cases decide (x.num=y.num)&&(decide (x.wire=y.wire)&&(decide (x.bits=y.bits)&&decide (x.data=y.data)))<;>simp[g]) (by dsimp only[Sr,br,ix,vz,wg,vs,Ar,ln,Af,wa,Ah,br];simp[I]) (AM ae)
 dsimp only[UW,br,vy,wg,lr,lc,Ah,br];by_cases c:a.kind=b.kind/\a.bits=b.bits/\a.text=b.text/\a.list.length=b.list.length/\a.pairs.length=b.pairs.length/\a.slots.length=b.slots.length/\a.raws.length=b.raws.length
 ·obtain⟨A,B,j,C,D,c6,E⟩:=c;obtain⟨T,f,l⟩:=O C;obtain⟨U,p,m⟩:=P D;obtain⟨V,J,n⟩:=Q c6;obtain⟨W,K,o⟩:=S E;simp only[A,B,j,C,D,c6,E,Yn,YQ,LF,Yk,YE,f,p,J,K,Ya];cases T with
  |inr y=>
   obtain⟨rfl,l⟩:=l;exact D6.no λh=>l (by rw[h])
  |inl y=>
  cases U with
  |inr y=>
   obtain⟨rfl,m⟩:=m;exact D6.no λh=>m (by rw[h])
  |inl y=>
  cases V with
  |inr y=>
   obtain⟨rfl,n⟩:=n;exact D6.no λh=>n (by rw[h])
  |inl y=>
  cases W with
  |inr y=>
   obtain⟨rfl,o⟩:=o;exact D6.no λh=>o (by rw[h])
  |inl y=>exact D6.yes (jn.2 ⟨A,B,j,l,m,n,o⟩)
 ·have z:((((((!decide (a.kind=b.kind))||(!decide (a.bits=b.bits)))||(!decide (a.text=b.text)))||(!decide ((a.list.length:Int)=(b.list.length:Int))))||(!decide ((a.pairs.length:Int)=(b.pairs.length:Int))))||(!decide ((a.slots.length:Int)=(b.slots.length:Int)))||(!decide ((a.raws.length:Int)=(b.raws.length:Int))))=true:=by
   by_cases j:a.text=b.text
   ·simp only[YG,YM,YB];simp only[j,C4]at c;omega
   ·simp[j]
  rw[z];exact D6.no λh=>c (by rw[h];exact⟨rfl,rfl,rfl,rfl,rfl,rfl,rfl⟩)
theorem Sc:∀(c:Nat) (a b:Val),An (Ae a)<c->AN a->AN b->D6 a b (L7 c a b)
 |0,a,b,h,_,_=>ae
 |c+1,a,b,h,d,e=>Zrw (L7 c) a b (Cm d).l' (Cm e).l'
  (λx hx y hy=>Sc c x y (by have:=Zr hx;omega) (I1 d hx) (I1 e hy))
  (λx hx y hy=>⟨Sc c x.key y.key (by have:=(MP hx).1;omega) (DJ d hx).1 (DJ e hy).1,Sc c x.val y.val (by have:=(MP hx).2;omega) (DJ d hx).2 (DJ e hy).2⟩)
  (λx hx y hy=>Sc c x.val y.val (by have:=XB hx;omega) (GC d hx) (GC e hy))
theorem ZPb{a b:Val}(c:AN a)(d:AN b):D6 a b (L7 Ag a b):=Sc Ag a b (by have h:An (Ae a)<=1048576:=c;exact AM ae) c d
end Go.Proofs.YthcplkfhnnlafaaGreat
