import Derived.Test.YthcplkfhnnlafaaGreatZm29
import Derived.Test.YthcplkfhnnlafaaGreatZm26
import Derived.Test.YthcplkfhnnlafaaGreatZm25
import Derived.Test.YthcplkfhnnlafaaGreatZm00
namespace Go.Proofs.YthcplkfhnnlafaaGreat
set_option linter.all false
open Go Go.Eng
theorem nV{v:Val}(h:AN v):VW v=some (BK v):=by
 obtain⟨n,d,f,g⟩:=Oq h;obtain⟨y,e,a⟩:=ua f;rw[<-d]at e;unfold BK;dsimp only[VW,br,wg,lr,Az,br];rw[e,g];by_cases c:v.kind=6
 ·cases b:Ib n with
  |true=>
   rw[b,Yr]at a;simp[c,a]
  |false=>
   rw[b,YB]at a;simp[c,a]
 ·simp[c]
theorem ZIh{v:Val}(h:SzV v):fi v=some (Kn v):=by have a:N6 v.kind=some (decide (1<=v.kind)&&decide (v.kind<=9)):=rfl;dsimp only[fi,wg,lr,cl,Az];rw[a,mq h,Ya];unfold Kn;rw[PR];cases(decide (1<=v.kind)&&decide (v.kind<=9))<;>cases Fp v<;>cases decide (v.bits=0)<;>cases decide (v.text=⟨#[]⟩)<;>cases DN v.kind<;>rfl
theorem ZwZ(l:List Slt)(h:l.length<549755813888):VM l=some l:=by
 cases l with
 |nil=>rfl
 |cons x r=>
  dsimp only[VM,al,br,vw,lr,a0,mv,br];simp only[Em]at h;simp;omega
theorem Zzl(l:List Raw)(h:l.length<549755813888):V0 l=some l:=by
 cases l with
 |nil=>rfl
 |cons x r=>
  dsimp only[V0,al,br,vw,lr,a0,mv,br];simp only[Em]at h;simp;omega
theorem ZE4{N:Fld->Val->Val}{F:List Fld}(h:CF F F.length){l:List Slt}(i:l.Pairwise λa b=>a.num≠b.num)(n:∀x∈l,(Bh F x.num).2=true):((Ce DP l).filter λx=>!Bc (AC F x.num) x.val).map (λx=>Slt.mk x.num (N (AC F x.num) x.val))=Cz N F l:=by
 have j:∀x∈l,AC F x.num∈F/\(AC F x.num).num=x.num:=λx hx=>by
  rcases K1 F x.num with⟨c,_⟩|⟨k,m⟩
  ·rw[n x hx]at c;cases c
  ·exact⟨m,Mk k⟩
 refine WO (Nh.2 ((gO i).sublist List.filter_sublist)) (Wz (H1 h) i) λz=>?_;rw[WR];simp only[YV,Y2,(HV l).mem_iff,YM];constructor
 ·rintro⟨x,⟨hx,d⟩,rfl⟩;obtain⟨c,e⟩:=j x hx;exact⟨AC F x.num,c,x,hx,e.symm,d,by rw[e]⟩
 ·rintro⟨f,hm,x,hx,e,d,rfl⟩;obtain⟨c,o⟩:=j x hx;have g:AC F x.num=f:=ZD6 h c hm ae;exact⟨x,⟨hx,by rw[g];exact d⟩,by rw[g,e]⟩
theorem ZzZ{l:List Slt}(A:l.Pairwise λa b=>a.num≠b.num)(hl:l.length<=4194304):fB l=some (Ce DP l):=by
 have s:=ZwZ l ae;have q:=gO A;have el:(Ce DP l).length=l.length:=(HV l).length_eq;have m:Eo l (λz0 k=>N1 z0 k)=some (Ce DP l):=by have h:=S4 (pf:=λz0 k=>N1 z0 k) (cmp:=DP) RW l (λx _ y _=>by dsimp only[N1,wg,lr,cl];rw[Ky];rfl) hl;rw[Q0 (show CmpLaw DP from IS Slt.num) l]at h;exact h
 generalize Ce DP l=r at q el m⊢;have C:r.length<=4194304:=ae
 have e:=CK (B:=OH r) (N:=Ag) (ρ:=List Slt) r (λp=>p) (λi b=>(b,i)) id (λi p d=>by
  have n:=A5 d;have hi:=(Yb.1 d).1;have j:i+1<9223372036854775808:=ae
  have o:((i+1:Nat):Int)=r.length↔i+1=r.length:=ae
  have f:(r.take i).length<549755813887:=by rw[Yz];omega
  generalize r.take i=out at f⊢;dsimp only[OH,br,vz,vw,wg,vs,vg,ln,Af,ap,wa,ir,ca,fl,A3,br];by_cases c:i+1=r.length
  ·simp only[n,j,o,c,d,f,hi,Yn,YQ,HN,Yk,Ya,IA,Yq,YE,DA];have z:r.length<9223372036854775808:=ae;simp[z]
  ·have g:i+1<r.length:=ae;have t:r.getD (i+1) Rw.z=r[i+1]:=(by rw[Yj,Ye g];rfl);have u:r[i]=p:=(Yb.1 d).2;have v:=G6.1 q i (i+1) hi g ae;rw[u]at v;have w:¬p.num=(r.getD (i+1) Rw.z).num:=(by rw[t];omega);simp only[n,j,o,c,g,d,w,hi,Yn,YC,YS,G4,PN,Ya,Y6,YK,forall_const,Yq,C4];simp[j,f]) (by dsimp only[OH,br,vz,vw,wg,vs,vg,ln,Af,ap,wa,ir,ca,fl,A3,br];simp) (AM ae)
 have e:Aj (OH r) Ag ([],0)=some (.inl r):=e;dsimp only[fB,vz,vw,lr,lc,rn,fl,fr,A3];rw[s,Ya,m,Ya]
 first|rw[Yi rfl,e];rfl|(rw[Yi el,e];rfl)|simp[e,el]
theorem ZFm{g:Pr->Pr}(d:∀x,(g x).key=x.key)(l:List Pr):BY (l.map g)=(BY l).map g:=by
 have c:∀x y,Bb (g x) (g y)=Bb x y:=λx y=>by unfold Bb;rw[d,d]
 refine hZ (IP _) ?_ λz=>?_
 ·exact Nh.2 ((IP l).imp fun {x y} h=>by show Bb (g x) (g y)<0;rw[c];exact h)
 ·rw[KQ,YV];constructor
  ·rintro⟨j,a,h⟩;rw[YR,Gi]at a;obtain⟨x,hx,rfl⟩:=a;refine⟨x,KQ.2 ⟨j,hx,λk y b e=>h k (g y) ?_ ?_⟩,rfl⟩
   ·rw[YR,b];rfl
   ·rw[c];exact e
  ·rintro⟨x,hx,rfl⟩;obtain⟨j,a,h⟩:=KQ.1 hx;refine⟨j,by rw[YR,a];rfl,λk y b e=>?_⟩;rw[YR,Gi]at b;obtain⟨w,f,rfl⟩:=b;rw[c]at e;exact h k w f e
theorem ZDI(l:List Pr):(BY l).length=0↔l.length=0:=by
 have a:=Wi l l.length;have a:(BY l).length<=l.length:=a;refine⟨λh=>?_,λh=>ae⟩;by_cases c:l.length=0
 ·exact c
 ·have hi:l.length-1<l.length:=ae
  have hm:l[l.length-1]∈BY l:=KQ.2 ⟨l.length-1,Ye hi,λk y b _=>by have:=(Yb.1 b).1;omega⟩;have:=List.length_pos_of_mem hm;omega
theorem ZLB{l:List Pr}{p:Pr}(h:p∈BY l):p∈l:=by obtain⟨j,a,_⟩:=KQ.1 h;exact Yg a
def TE(k:Bool)(s:Scm)(R:Scm->Fld->Val->Option (Val×Bool))(d:Nat):Prop:=∀(f:Fld) (v:Val),GdF s f->AN v->A7 (AL s k d) s k f v=0->R s f v=some (BJ (AW s d) f v,!Bc f v)
theorem y7{s:Scm}{k:Bool}(hs:An (Al s)<=1048576)(g:GdS s)(R:Scm->Fld->Val->Option (Val×Bool))(d:Nat)(I:TE k s R d)(n:ByteArray)(v:Val)(z:AN v)(h:OkM s k d (AK s n).1 v):V4 R s n v=some (AW s (d+1) n v):=by
 have A:=Cm z;have O:=A.s;have M:=A.r;have C:Mb s n=some (AK s n):=ZK s _ (DR hs).ml;have pw:v.slots.Pairwise λa b=>a.num≠b.num:=h.pw.imp λh=>h.1;have D:=Zzl v.raws ae;have u:=ZzZ pw ae;have E:Eo v.raws (λz0 q=>NY z0 q)=some (Ci v.raws):=by have h:=S4 (pf:=λz0 q=>NY z0 q) (cmp:=Db) RW v.raws (λx _ y _=>by dsimp only[NY,wg,lr,cl];rw[Ky];rfl) ae;rw[Q0 (show CmpLaw Db from IS Raw.num) v.raws,<-Og]at h;exact h
 have el:(Ce DP v.slots).length=v.slots.length:=(HV v.slots).length_eq;have hm:∀x∈Ce DP v.slots,x∈v.slots:=λx hx=>(HV v.slots).mem_iff.1 hx;have f:=ZE4 (N:=BJ (AW s d)) (g.asc n) pw λx hx=>(h.sl x hx).1;generalize Ce DP v.slots=r at u el hm f;have w2:r.length<4611686018427387904:=ae
 have o:(AK s n).1.fields.length<=1048576:=Ms (DR hs) n;have j:=CK (B:=OK s R (AK s n) v.raws r) (N:=Ag) (ρ:=Val) r (λp=>(p.filter λx=>!Bc (AC (AA s n) x.num) x.val).map (λx=>Slt.mk x.num (BJ (AW s d) (AC (AA s n) x.num) x.val))) (λi b=>(i,b)) id (λi x hx=>by
  have G:=A5 hx;have hi:=(Yb.1 hx).1;have m:i+1<9223372036854775808:=ae
  have e:=hm x (Yg hx);have t:(((r.take i).filter λx=>!Bc (AC (AA s n) x.num) x.val).map (λx=>Slt.mk x.num (BJ (AW s d) (AC (AA s n) x.num) x.val))).length<549755813887:=by rw[YF];have H:=ID (λx:Slt=>!Bc (AC (AA s n) x.num) x.val) (r.take i);rw[Yz]at H;omega
  have f:=S5 (AK s n).1 x.num o;obtain⟨K,L⟩:=h.sl x e;have J:GdF s (AC (AK s n).1.fields x.num):=by
   rcases K1 (AK s n).1.fields x.num with⟨c,_⟩|⟨_,c⟩
   ·rw[K]at c;cases c
   ·exact g.fl n _ c
  have F:R s (Bh (AK s n).1.fields x.num).1 x.val=some (BJ (AW s d) (AC (AA s n) x.num) x.val,!Bc (AC (AA s n) x.num) x.val):=I _ _ J (GC z e) L;rw[EH,Df];generalize ((r.take i).filter λx=>!Bc (AC (AA s n) x.num) x.val).map (λx=>Slt.mk x.num (BJ (AW s d) (AC (AA s n) x.num) x.val))=out at t⊢;dsimp only[OK,br,ix,vz,vw,wg,vs,ln,Af,ap,cl,cs,wa,fl,br];simp only[w2,G,m,hx,f,F,Yn,Yq,Ya];cases w:Bc (AC (AA s n) x.num) x.val with
  |true=>simp[w,m]
  |false=>simp[w,m,t]) (by dsimp only[OK,br,ix,vz,vw,wg,vs,ln,Af,ap,cl,cs,wa,fl,br];simp[w2]) (AM ae)
 rw[f]at j;have j:Aj (OK s R (AK s n) v.raws r) Ag (0,[])=some (.inl (Cz (BJ (AW s d)) (AA s n) v.slots)):=j;dsimp only[V4,EC,vz,vw,wg,vs,lr,lc,cl,fl,fr,EC,Ah];rw[C,Ya,D,Ya,u];have l:v.raws.length=(Ci v.raws).length:=by rw[Og];exact(HV v.raws).length_eq.symm
 simp only[w2,Yq,Ya,j,Cr,E]
 first|rfl|(rw[Yi l];rfl)
theorem iW{s:Scm}{k:Bool}(hs:An (Al s)<=1048576)(g:GdS s)(R:Scm->Fld->Val->Option (Val×Bool))(d:Nat)(f:∀d':Nat,d=d'+1->TE k s R d')(t:Typ)(v:Val)(b:AN v)(h:BL (AL s k d) s t v=0):G9 R s t v=some (Ba (AW s d) t v):=by
 unfold Ba;dsimp only[G9,br,wg,lr,cl,cs,br];by_cases c:t.kind=10
 ·unfold BL at h;rw[Yi c]at h;cases a:(AK s t.name).2 with
  |false=>rw[a]at h;cases h
  |true=>
   rw[a,Yi rfl]at h;cases d with
   |zero=>
    unfold AL at h;split at h<;>cases h
   |succ d=>
    have e:=y7 hs g R d (f d rfl) t.name v b (Ov.1 h);rw[Yi (Yp c),e,Yi c];rfl
 ·rw[Yh (by simp[c]),nV b,Yh c];rfl
theorem zz(n:Nat):decide ((0:Int)<(n:Int))=!decide (n=0):=by
 cases n with
 |zero=>rfl
 |succ n=>simp
theorem ZHT{s:Scm}{k:Bool}(hs:An (Al s)<=1048576)(g:GdS s)(R:Scm->Fld->Val->Option (Val×Bool))(d:Nat)(z:∀d':Nat,d=d'+1->TE k s R d')(f:Fld)(v:Val)(G:GdF s f)(m:AN v)(h:A7 (AL s k d) s k f v=0):UL R s f v=some (BJ (AW s d) f v,!Bc f v):=by
 have C:=Cm m;have J:=C.l;have K:=C.p;have D:v.list.length<4611686018427387904:=ae
 unfold A7 at h;dsimp only[UL,jv,i4,bj,Xr,gp,jC,XT,g0,vz,vw,wg,lr,lc,cl,Az,cs,tw,du,fl,fr,Ah,A3];by_cases c:f.card=4
 ·rw[Yi c]at h;rw[dq c];have t:(!Bc f v)=decide ((0:Int)<((v.list.map (Ba (AW s d) f.type)).length:Int)):=by unfold Bc;rw[Yi c,zz,YF]
  split at h
  ·cases h
  ·rw[KW]at h;have q:=CK (B:=OW s f v R) (N:=Ag) (ρ:=Val×Bool) v.list (λp=>p.map (Ba (AW s d) f.type)) (λi b=>(i,b)) id (λi x hx=>by have w:=A5 hx;have hi:=(Yb.1 hx).1;have y:i+1<9223372036854775808:=ae;have hm:=Yg hx;have e:=iW hs g R d z f.type x (I1 m hm) (h x hm);have a1:((v.list.take i).map (Ba (AW s d) f.type)).length<549755813887:=(by rw[YF,Yz];omega);rw[Df];generalize (v.list.take i).map (Ba (AW s d) f.type)=out at a1⊢;dsimp only[OW,X8,XS,br,ix,vz,vw,wg,vs,ln,Af,lc,ap,cs,wa,tw,fl,br];simp only[D,w,y,hx,e,a1,Yn,Yq,Ya,YY,DU]) (by dsimp only[OW,X8,XS,br,ix,vz,vw,wg,vs,ln,Af,lc,ap,cs,wa,tw,fl,br];simp[D]) (AM ae);have q:Aj (OW s f v R) Ag (0,[])=some (.inl (v.list.map (Ba (AW s d) f.type))):=q;rw[t];simp only[c,D,Yn,Yq,q,Ya,Cr]
 ·rw[Yh c]at h;by_cases l:f.card=5
  ·rw[Yi l]at h;rw[dv l];split at h
   ·cases h
   ·rw[IW]at h;have A:∀p∈v.pairs,p.key.kind=f.key/\BL (AL s k d) s f.type p.val=0:=λp a=>by obtain⟨j,H⟩:=YJ.1 a;have:=h j p H;rw[O1]at this;exact⟨(JH this.1).1,this.2.2⟩
    have I:=G.ky l;have E:∀p∈v.pairs,BK p.key=p.key:=λp a=>by unfold BK;rw[Yh];have:=(A p a).1;omega
    have o:=xA v.pairs ae λp a=>by have:=(A p a).1;exact⟨ae,(DJ m a).1⟩
    have F:(v.pairs.map λp=>Pr.mk (BK p.key) (Ba (AW s d) f.type p.val))=v.pairs.map λp=>Pr.mk p.key (Ba (AW s d) f.type p.val):=El λp a=>by rw[E p a]
    rw[F,ZFm (g:=λp=>Pr.mk p.key (Ba (AW s d) f.type p.val)) λ_=>rfl];have t:(!Bc f v)=decide ((0:Int)<(((BY v.pairs).map λp=>Pr.mk p.key (Ba (AW s d) f.type p.val)).length:Int)):=(by unfold Bc;rw[Yh c,Yi l,zz,YF];exact congrArg _ (decide_eq_decide.2 (ZDI v.pairs).symm));have hl:=Wi v.pairs v.pairs.length;have hl:(BY v.pairs).length<=v.pairs.length:=hl;have n:∀p∈BY v.pairs,p∈v.pairs:=λp a=>ZLB a;generalize BY v.pairs=r at o t hl n⊢;have w2:r.length<4611686018427387904:=ae;have q:=CK (B:=OX s f R r) (N:=Ag) (ρ:=Val×Bool) r (λp=>p.map λp=>Pr.mk p.key (Ba (AW s d) f.type p.val)) (λi b=>(i,b)) id (λi p a=>by have w:=A5 a;have hi:=(Yb.1 a).1;have y:i+1<9223372036854775808:=ae;have hm:=n p (Yg a);have e:=iW hs g R d z f.type p.val (DJ m hm).2 (A p hm).2;have u:VW p.key=some p.key:=(by rw[nV (DJ m hm).1,E p hm]);have a1:((r.take i).map λp=>Pr.mk p.key (Ba (AW s d) f.type p.val)).length<549755813887:=(by rw[YF,Yz];omega);rw[Df];generalize (r.take i).map (λp=>Pr.mk p.key (Ba (AW s d) f.type p.val))=out at a1⊢;dsimp only[OX,Xa,K4,RH,br,ix,vz,vw,wg,vs,ln,Af,lc,ap,cl,cs,wa,tw,fl,br];simp only[w2,w,y,a,e,u,a1,Yn,Yq,Ya,YY,DU]) (by dsimp only[OX,Xa,K4,RH,br,ix,vz,vw,wg,vs,ln,Af,lc,ap,cl,cs,wa,tw,fl,br];simp[w2]) (AM ae);have q:Aj (OX s f R r) Ag (0,[])=some (.inl (r.map λp=>Pr.mk p.key (Ba (AW s d) f.type p.val))):=q;rw[t];simp only[c,l,w2,Yn,YC,Yk,YE,Yq,o,q,Ya,Cr]
    first|done|simp[w2,q]
  ·rw[Yh l]at h;rw[ue c l];have e:=iW hs g R d z f.type v m h;have u:=ZIh C;have o:(!Bc f v)=((!decide (f.card=3))||(!Kn v)):=(by unfold Bc;rw[Yh c,Yh l,Bool.not_and]);rw[o];simp only[c,l,YC,Yk,YE,e,u,Ya,Y6,YK,CT,Yq]
theorem z6{s:Scm}{k:Bool}(hs:An (Al s)<=1048576)(g:GdS s):∀a d:Nat,d<a->TE k s (NV a) d
 |0,d,h=>ae
 |a+1,d,h=>λf v c i b=>ZHT hs g (NV a) d (λd' e=>z6 hs g a d' ae) f v c i b
end Go.Proofs.YthcplkfhnnlafaaGreat
namespace Go.Proofs.YthcplkfhnnlafaaGreat
set_option linter.all false
open Go Go.Eng
theorem Zls{s:Scm}{n:ByteArray}{a b:Val}(hs:An (Al s)<=1048576)(_:(0:Nat)<=1)(e:An (Ae a)<=1048576)(K:An (Ae a)+An (Ae b)<=1048576):eu s n a b=some true:=by
 have f:An (Ae b)<=1048576:=ae
 obtain⟨x,D,J⟩:=o16 hs;dsimp only[eu,br,wg,lr,cl,Az,br];rw[D,ZTP];cases x with
 |false=>simp
 |true=>
 have g:=ZKf (J rfl) hs;obtain⟨y,E,p⟩:=xE hs g n a e;obtain⟨z,F,a3⟩:=xE hs g n b f;rw[E,F];cases y with
 |false=>simp
 |true=>
 cases z with
 |false=>simp
 |true=>
 obtain⟨u,h,_⟩:=Xi.1 (p.1 rfl).1;obtain⟨_,i,_⟩:=Xi.1 (a3.1 rfl).1;have M:=(p.1 rfl).2;have N:=(a3.1 rfl).2;have m:=ZAu hs g n a b e f h.w i.w;have j:=nj g 15 n a b h i;have w:=y0 g 15 n a b h i M N;have C:=m5 g 15 n a b h i;have hm:AN (Be s 16 n a b):=by have:=nQ g.asc 16 n a b;show An (Ae (Be s 16 n a b))<=1048576;omega
 have d:∀v:Val,AN v->An (Ae v)<Ag:=λv L=>by have O:An (Ae v)<=1048576:=L;exact AM ae
 generalize Be s 16 n a b=v at m j w C hm;have r:=iR Ag v (d v hm) hm;have t:=ZHJ hs g n v hm;have G:=Xh Ag v (d v hm) hm;have H:=Xh Ag a (d a e) e;have I:=Xh Ag b (d b f) f;have q:=y7 hs g _ 15 (z6 hs g Ag 15 (AM ae)) n v hm j;rw[<-w]at q;have A:=SG Ag v (d v hm) hm;by_cases c:(4096:Int)<cnt v
 ·have k:GF s true n v=3:=by have o:=Ov.2 j;unfold GF;have o:AL s true 16 (AK s n).1 v=0:=o;rw[u,o];have l:4096<cnt v:=ae;simp[l]
  simp[m,r,t,c,k]
 ·have k:GF s true n v=0:=Xi.2 ⟨u,j,ae⟩;have B:fG s n v=some true:=by dsimp only[fG,wg,lr,cl,Az];rw[t,k];simp[q,A]
  have l:(dp v:Int)<=Ek true (dp a:Int) (dp b:Int):=by unfold Ek;rw[Yi rfl];split<;>omega
  simp[m,r,c,B,G,H,I,l]
end Go.Proofs.YthcplkfhnnlafaaGreat
