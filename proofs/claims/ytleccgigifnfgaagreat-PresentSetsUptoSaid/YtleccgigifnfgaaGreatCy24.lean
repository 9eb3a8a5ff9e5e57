import Derived.Test.YtleccgigifnfgaaGreatCy23
import Derived.Test.YtleccgigifnfgaaGreatCy00
namespace Go.Proofs.YtleccgigifnfgaaGreat
set_option linter.all false
open Go Go.Eng
def Fa(n:Nat):Nat:=if II n=true then 18446744073709551615 else if 9223372036854775808≤n then 18446744073709551615-n else n+9223372036854775808
theorem s9{n:Nat}(a:n<18446744073709551616):cu (n:Int)=some (Fa n:Int):=by
 obtain⟨y,e,h⟩:=ZS8 a
 have c:=dz a (m:=9223372036854775808) (by omega)
 rw[Zyn a]at c
 have c:CL .u64 (n:Int) 9223372036854775808=_:=c
 have d:=Zw3 a
 have f:FF .u64 (n:Int) 9223372036854775808=((n|||9223372036854775808:Nat):Int):=ZGf a (m:=9223372036854775808) (by omega)
 dsimp only[cu,eU,br,vz,lr,cl,br]
 rw[e,Yi,h,c,d,f]
 unfold Fa
 cases II n with
 |true=>rfl
 |false=>
  by_cases hs:9223372036854775808≤n
  ·simp[hs]
  ·have g:n|||9223372036854775808=n+9223372036854775808:=by
    have j:=Nat.two_pow_add_eq_or_of_lt (i:=63) (b:=n) (by omega) 1
    rw[Nat.or_comm]
    have k:9223372036854775808+n=9223372036854775808|||n:=j
    exact k.symm.trans (L1 _ _)
   simp[hs,g]
theorem tJ{v:Val}{n:Nat}(i:n<18446744073709551616)(g:v.bits=(n:Int)):aI v=some (if v.kind=2∨v.kind=3 then IntKind.u64.wrap ((n:Int)+9223372036854775808)else if v.kind=6 then(Fa n:Int)else(n:Int)):=by
 obtain⟨y,e,h⟩:=ZSQ i
 dsimp only[aI,eD,dl,br,vz,vw,lr,cl,br,ux,eB,lr]
 rw[g]
 by_cases a:v.kind=2∨v.kind=3
 ·have b:(decide (v.kind=2)||decide (v.kind=3))=true:=by simpa using a
  simp only[b,a,YJ]
  rfl
 ·have b:(decide (v.kind=2)||decide (v.kind=3))=false:=by simpa using a
  simp only[b,a,Yw,YR]
  by_cases f:v.kind=6
  ·have j:=KI (n:=18446744073709551615-n) (by omega)
   simp only[f,YE,Y5,Yw,YR,e,Yi,h]
   unfold Fa
   cases II n with
   |true=>rfl
   |false=>
    by_cases hs:9223372036854775808≤n
    ·have c:(9223372036854775808:Int)≤(n:Int):=by omega
     have d:(18446744073709551615:Int)-(n:Int)=((18446744073709551615-n:Nat):Int):=by omega
     simp[hs,c,d,j]
    ·have c:¬(9223372036854775808:Int)≤(n:Int):=by omega
     have d:(n:Int)+9223372036854775808=((n+9223372036854775808:Nat):Int):=by omega
     have w2:=KI (n:=n+9223372036854775808) (by omega)
     simp only[hs,c,d,w2,YV,Yw,YR,YJ]
  ·simp[f]
def Fx(a b:Int):Int:=if a<b then -1 else if b<a then 1 else 0
theorem HD(a b:Int):decide (Fx a b=0)=decide (a=b):=by
 unfold Fx
 by_cases h:a<b
 ·rw[Ys h,Dy (by omega:¬a=b)];rfl
 ·rw[Yr h]
  by_cases c:b<a
  ·rw[Ys c,Dy (by omega:¬a=b)];rfl
  ·rw[Yr c,Y6 (by omega:a=b)];rfl
theorem sE(a b:Int):bt a b=some (Fx a b):=by
 dsimp only[bt,kj,br,lr,cl,br,uS,gV,lr]
 unfold Fx
 by_cases h:a<b
 ·simp[h]
 ·by_cases c:b<a<;>simp[h,c]
theorem r9(a b:Int):bu a b=some (Fx a b):=by
 dsimp only[bu,i2,br,lr,cl,br,uG,iY,lr]
 unfold Fx
 by_cases h:a<b
 ·simp[h]
 ·by_cases c:b<a<;>simp[h,c]
theorem ZTm(a b:Int):bo a b=some (Fx a b):=by
 dsimp only[bo,j9,br,lr,br]
 unfold Fx
 by_cases h:a<b
 ·simp[h]
 ·by_cases c:b<a<;>simp[h,c]
def Fy(d x:Val):Bool:=decide (d.kind=x.kind)&&(if d.kind=7∨d.kind=8 then decide (d.text=x.text)else if d.kind=6 then decide (Fa d.bits.toNat=Fa x.bits.toNat)else decide (d.bits=x.bits))
def Ls(a b:ByteArray):Int:=if Bm a b=true then -1 else if a=b then 0 else 1
theorem pL(a b:ByteArray):decide (Ls a b=0)=decide (a=b):=by
 unfold Ls
 by_cases h:a=b
 ·subst h
  have:Bm a a=false:=by
   unfold Bm
   rw[Go.Proofs.bytesLess_eq]
   exact Dy (List.lt_irrefl _)
  simp[this]
 ·cases Bm a b<;>simp[h]
theorem ZSj(a b:ByteArray):bv a b=some (Ls a b):=by
 dsimp only[bv,gx,br,lr,cl,br,uF,fY,lr]
 unfold Ls
 cases h:Bm a b with
 |true=>simp
 |false=>by_cases c:a=b<;>simp[c]
theorem zW{d x:Val}(C:1≤d.kind∧d.kind≤9)(p:A6 d)(q:A6 x):QY d x=some (Fy d x)∧aV d x=some (Fy d x):=by
 obtain⟨n,m⟩:=UZ (TW p).1
 obtain⟨k,l⟩:=UZ (TW q).1
 have s:n<18446744073709551616:=by have:=(TW p).2;omega
 have r:k<18446744073709551616:=by have:=(TW q).2;omega
 have es:(decide (1≤d.kind)&&decide (d.kind≤9))=true:=by simp[C]
 unfold Fy
 by_cases he:d.kind=x.kind
 ·obtain⟨E,f⟩:∃E,E=(if d.kind=7∨d.kind=8 then decide (d.text=x.text)else if d.kind=6 then decide (Fa d.bits.toNat=Fa x.bits.toNat)else decide (d.bits=x.bits)):=⟨_,rfl⟩
  rw[←f]
  have K:=tJ s m
  have z:=tJ r l
  rw[←he]at z
  have o:(decide (1≤x.kind)&&decide (x.kind≤9))=true:=by rw[←he];exact es
  have key:Ok (fun c:Int=>decide (c=0)=E) (cP d x)∧Ok (fun c:Int=>decide (c=0)=E) (bB d x):=by
   have F:¬d.kind<x.kind:=by omega
   have D:¬x.kind<d.kind:=by omega
   dsimp only[cP,fX,br,vz,vw,lr,cl,br,I7,N6,lr,Q5,Sf,lr,bB,jf,br,vw,lr,cl,br,QG,jb,lr,Qx,R6,lr]
   simp only[he,YE,Y5,Yw,YR,o,Yi,YV,YJ,Int.lt_irrefl]
   rw[←he]
   by_cases t:d.kind=7∨d.kind=8
   ·have i:(decide (d.kind=7)||decide (d.kind=8))=true:=by simpa using t
    rw[Ys t]at f
    simp only[i,YJ,DQ,ZSj,Yi]
    refine⟨Ok.pure (by rw[f];exact pL _ _),?_⟩
    have e:(if Bm d.text x.text=true then some (-1:Int)else if(!(Bm d.text x.text||decide (d.text=x.text)))=true then some 1 else some 0)=some (Ls d.text x.text):=by
     unfold Ls
     cases h:Bm d.text x.text with
     |true=>simp
     |false=>by_cases v:d.text=x.text<;>simp[v]
    rw[e]
    exact Ok.pure (by rw[f];exact pL _ _)
   ·have i:(decide (d.kind=7)||decide (d.kind=8))=false:=by simpa using t
    rw[Yr t]at f
    simp only[i,Yw,YR,Ei,K,z,Yi]
    have L:∀a b:Int,(if decide (a<b)=true then some (-1:Int)else if decide (b<a)=true then some 1 else some 0)=some (Fx a b):=fun a b=>by
     unfold Fx
     by_cases h:a<b
     ·simp[h]
     ·by_cases v:b<a<;>simp[h,v]
    rw[L]
    by_cases hs:d.kind=2∨d.kind=3
    ·have g:(decide (d.kind=2)||decide (d.kind=3))=true:=by simpa using hs
     have j:¬d.kind=6:=by omega
     rw[Yr j]at f
     simp only[g,hs,YJ,sE,Yi]
     refine⟨Ok.pure (by rw[f,HD,decide_eq_decide,m,l,IntKind.wrap_i64,IntKind.wrap_i64];omega),Ok.pure (by rw[f,HD,decide_eq_decide,m,l];unfold IntKind.wrap;simp only[show IntKind.u64.bits=64 from rfl,show IntKind.u64.signed=false from rfl,Ei,Yw,YR];omega)⟩
    ·have g:(decide (d.kind=2)||decide (d.kind=3))=false:=by simpa using hs
     simp only[g,hs,Yw,YR]
     by_cases j:d.kind=6
     ·rw[Ys j]at f
      have y:(Fa d.bits.toNat=Fa x.bits.toNat)↔((Fa n:Int)=(Fa k:Int)):=by rw[m,l];simp only[Ff];omega
      simp only[j,YE,YJ,m,l,s9 s,s9 r,Yi,r9]
      exact⟨Ok.pure (by rw[f,HD,decide_eq_decide,y]),Ok.pure (by rw[f,HD,decide_eq_decide,y])⟩
     ·rw[Yr j]at f
      simp only[j,YV,Yw,YR,r9,Yi]
      exact⟨Ok.pure (by rw[f,HD]),Ok.pure (by rw[f,HD,decide_eq_decide,m,l])⟩
  obtain⟨⟨c,G,H⟩,⟨B,I,J⟩⟩:=key
  have w:(Aj:Nat)=(Aj-1)+1:=by have:=BB (n:=1) (by omega);omega
  constructor
  ·dsimp only[QY,Tt,vw,lr,cl,cC,Tu,br,vw,lr,cl,br,uJ,iw,vw,lr,cl,bT,I7,N6,lr]
   simp only[he,YE,Y5,Yw,YR,o,YJ,Yi,G,H,DQ]
  ·have u:I4 Aj d x=some B:=by
    rw[w]
    show Ln (I4 (Aj-1)) d x=_
    dsimp only[Ln,SN,br,vw,lr,cl,cs,br]
    have a1:¬d.kind=11:=by omega
    have A:¬d.kind=12:=by omega
    have a3:¬d.kind=10:=by omega
    rw[←he]
    simp only[a1,A,a3,YE,YV,Y5,Yw,YR,I,Yi]
   dsimp only[aV,WH,vw,lr,cl]
   rw[u]
   simp only[Yi,J,he,YE,DQ]
 ·constructor
  ·dsimp only[QY,Tt,vw,lr,cl,cC,Tu,br,vw,lr,cl,br]
   simp only[he,YV,C2,YJ,sE,Yi,Ei,HD]
  ·have w:(Aj:Nat)=(Aj-1)+1:=by have:=BB (n:=1) (by omega);omega
   have u:I4 Aj d x=some (Fx d.kind x.kind):=by
    rw[w]
    show Ln (I4 (Aj-1)) d x=_
    dsimp only[Ln,SN,br,vw,lr,cl,cs,br]
    simp only[he,YV,C2,YJ,ZTm,Yi]
   dsimp only[aV,WH,vw,lr,cl]
   rw[u]
   simp only[he,YV,Yi,Ei,HD]
end Go.Proofs.YtleccgigifnfgaaGreat
namespace Go.Proofs.YtleccgigifnfgaaGreat
set_option linter.all false
open Go Go.Eng
theorem tH{α ρ:Type}{B:Int×Int×List α→Option (Lv (Int×Int×List α) (Int×List α) ρ)}(l:List α)(p:α→Bool)
  (s:∀(i j:Nat) (r:List α) x,i≤j→r.length=l.length→r[j]?=some x→l[j]?=some x→B ((i:Int),(j:Int),r)=some (.nx (if p x then((i:Int),((j+1:Nat):Int),r)else(((i+1:Nat):Int),((j+1:Nat):Int),r.set i x))))
  (t:∀(i:Nat) r,B ((i:Int),(l.length:Int),r)=some (.ex ((i:Int),r))):
  ∀(k N i j:Nat) (r:List α),j+k=l.length→k<N→i≤j→r.length=l.length→r.take i=(l.take j).filter (fun x=>!p x)→i=((l.take j).filter fun x=>!p x).length→r.drop j=l.drop j→
  ∃(n:Nat) (o:List α),Ao B N ((i:Int),(j:Int),r)=some (.inl ((n:Int),o))∧o.take n=l.filter (fun x=>!p x)∧n=(l.filter fun x=>!p x).length∧o.length=l.length:=by
 intro k
 induction k with
 |zero=>
  intro N i j r u hN b c d hi e
  obtain⟨N,rfl⟩:∃m,N=m+1:=⟨N-1,by omega⟩
  have:j=l.length:=by omega
  subst this
  rw[L9]at d hi
  exact⟨i,r,by rw[Ao,t],d,hi,c⟩
 |succ k q=>
  intro N i j r u hN b c d hi e
  obtain⟨N,rfl⟩:∃m,N=m+1:=⟨N-1,by omega⟩
  have a:j<l.length:=by omega
  have hl:l[j]?=some l[j]:=Yh a
  have h:r[j]?=some l[j]:=by
   have:=congrArg (fun z=>z[0]?) e
   simpa[YN,a]using this
  have e0:l.take (j+1)=l.take j++[l[j]]:=Ij a
  rw[Ao,s i j r l[j] b c h hl]
  cases f:p l[j]with
  |true=>
   refine q N i (j+1) r (by omega) (by omega) (by omega) c ?_ ?_ ?_
   ·rw[e0,JD,d];simp[f]
   ·rw[e0,JD];simpa[f]using hi
   ·have:=congrArg (List.drop 1) e
    simpa[Md]using this
  |false=>
   have g:i<r.length:=by omega
   refine q N (i+1) (j+1) (r.set i l[j]) (by omega) (by omega) (by omega) (by rw[List.length_set];exact c) ?_ ?_ ?_
   ·rw[e0,JD,←d,Ij (by rw[List.length_set];exact g),List.take_set_of_le (Yp _),mA]
    simp[f]
   ·rw[e0,JD,Yv,←hi]
    simp[f]
   ·rw[List.drop_set_of_lt (by omega)]
    have:=congrArg (List.drop 1) e
    simpa[Md]using this
theorem ZPV(l:List Slt)(f:Slt→Option Bool)(p:Slt→Bool)(d:∀x∈l,f x=some (p x))(h:l.length<4611686018427387904):QT l f=some (Cq l p):=by
 unfold QT
 simp only[Nq,Nr,Nh,Ng,al,Ey,EC,br,ix,B1,vz,vy,vw,vs,vg,v2,lr,Au,ln,Ak,lc,lf,DK,ap,aq,a0,a1,ad,cl,cs,cf,wa,wi,ir,ca,cp,dd,mv,st,ss,sL,Bd.c,Bd.vl,sR,Ci]
 rw[EF l p (fun i=>(i:Int)) () (hN:=BB h) (he:=by simp[RF,Nq,Nr,Nh,Ng,al,Ey,EC,br,ix,B1,vz,vy,vw,vs,vg,v2,lr,Au,ln,Ak,lc,lf,DK,ap,aq,a0,a1,ad,cl,cs,cf,wa,wi,ir,ca,cp,dd,mv,st,ss,sL,Bd.c,Bd.vl,sR,Ci]) (hs:=by
  intro i y hy
  obtain⟨a,rfl⟩:=Yn.1 hy
  have b:i+1<9223372036854775808:=by omega
  have c:=d l[i] (Yu hy)
  simp[RF,Nq,Nr,Nh,Ng,al,Ey,EC,br,ix,B1,vz,vy,vw,vs,vg,v2,lr,Au,ln,Ak,lc,lf,DK,ap,aq,a0,a1,ad,cl,cs,cf,wa,wi,ir,ca,cp,dd,mv,st,ss,sL,Bd.c,Bd.vl,sR,Ci,a,b,c]
  cases p l[i]<;>rfl)]
 unfold Cq
 cases l.findIdx? _<;>rfl
theorem n41(l:List Slt)(f:Slt→Option Bool)(p:Slt→Bool)(k:∀x∈l,f x=some (p x))(h:l.length<549755813888):MW l f=some (l.filter fun x=>!p x):=by
 have e0:=ZPV l f p k (by omega)
 unfold MW
 dsimp only[WB,WU,vw,vs,vg,vz,cs,br,lr,lf,lc,wi]
 rw[e0,Yi]
 cases hi:l.findIdx? p with
 |none=>
  rw[show Cq l p= -1 from by unfold Cq;rw[hi]]
  rw[show l.filter (fun x=>!p x)=l from LU.2 fun x a=>by rw[UV.1 hi x a];rfl]
  rfl
 |some i=>
  obtain⟨t,u,v⟩:=JE.1 hi
  rw[show Cq l p=(i:Int)from by unfold Cq;rw[hi]]
  have b:((i:Int)= -1)=False:=eq_false (by omega)
  have m: -9223372036854775808≤(i:Int)+1∧(i:Int)+1<9223372036854775808:=by omega
  have y:(l.take i).filter (fun x=>!p x)=l.take i:=LU.2 fun x a=>by
   obtain⟨j,H,rfl⟩:=UW.1 a
   rw[Bool.eq_false_iff.2 (v j (by omega))];rfl
  have g:(l.take (i+1)).filter (fun x=>!p x)=l.take i:=by rw[Ij t,JD,y];simp[u]
  obtain⟨c,E,z,A,C,D⟩:=tH (B:=N4 l f) l p (fun i j r x w I a hl=>by
    have G:=(Yn.1 hl).1
    have q:(j:Int)<(l.length:Int):=by omega
    have s:=k x (Yu hl)
    have F: -9223372036854775808≤(i:Int)+1∧(i:Int)+1<9223372036854775808:=by omega
    have w2: -9223372036854775808≤(j:Int)+1∧(j:Int)+1<9223372036854775808:=by omega
    have d:(0:Int)≤(j:Int):=by omega
    have e:(0:Int)≤(i:Int):=by omega
    have n:(i:Int)<(l.length:Int):=by omega
    have o:i<r.length:=by omega
    dsimp only[N4,S8,al,Ey,EC,br,ix,B1,vz,vy,vw,vs,vg,v2,lr,Au,ln,Ak,lc,lf,DK,ap,aq,a0,a1,ad,cl,cs,cf,wa,wi,ir,ca,cp,dd,mv,st,ss,sL,Bd.c,Bd.vl,sR,Ci,GU,HZ,Lx,Ly,rb,cr,H4,ch]
    simp only[Gf,Ci,q,s,F,w2,d,e,n,o,a,DP,In,Dx,YE,YJ,Ff,Yi]
    cases p x<;>simp)
   (fun i r=>by
    dsimp only[N4,S8,al,Ey,EC,br,ix,B1,vz,vy,vw,vs,vg,v2,lr,Au,ln,Ak,lc,lf,DK,ap,aq,a0,a1,ad,cl,cs,cf,wa,wi,ir,ca,cp,dd,mv,st,ss,sL,Bd.c,Bd.vl,sR,Ci,GU,HZ,Lx,Ly,rb,cr,H4,ch]
    simp)
   (l.length-(i+1)) Aj i (i+1) l (by omega) (BB (by omega)) (by omega) rfl g.symm (by rw[g,YF];omega) rfl
  rw[show((i:Int)+1)=((i+1:Nat):Int)from rfl]at m⊢
  simp only[b,m,z,YV,YE,Yw,DP,YJ,YR,Yi,L3]
  have d:c≤l.length:=by rw[C];exact Ib _ _
  have e:(c:Int)=((E.take c).length:Int):=by rw[YF];omega
  simp[VS,A,D,al,Ey,EC,br,ix,B1,vz,vy,vw,vs,vg,v2,lr,Au,ln,Ak,lc,lf,DK,ap,aq,a0,a1,ad,cl,cs,cf,wa,wi,ir,ca,cp,dd,mv,st,ss,sL,Bd.c,Bd.vl,sR,Ci,GU,HZ,Lx,Ly,rb,cr,H4,ch]
  omega
theorem m58(l:List Fld)(h:l.length<549755813888):Ra l=some l:=by
 unfold Ra
 simp only[V3,al,Ey,EC,br,ix,B1,vz,vy,vw,vs,vg,v2,lr,Au,ln,Ak,lc,lf,DK,ap,aq,a0,a1,ad,cl,cs,cf,wa,wi,ir,ca,cp,dd,mv,st,ss,sL,Bd.c,Bd.vl,sR,Ci,Yw,YR,h,YJ]
theorem ZPe(l:List Fld)(f:Fld→Option Bool)(p:Fld→Bool)(d:∀x∈l,f x=some (p x))(h:l.length<4611686018427387904):QE l f=some (Cq l p):=by
 unfold QE
 simp only[Nu,Nw,Nk,Nl,al,Ey,EC,br,ix,B1,vz,vy,vw,vs,vg,v2,lr,Au,ln,Ak,lc,lf,DK,ap,aq,a0,a1,ad,cl,cs,cf,wa,wi,ir,ca,cp,dd,mv,st,ss,sL,Bd.c,Bd.vl,sR,Ci]
 rw[EF l p (fun i=>(i:Int)) () (hN:=BB h) (he:=by simp[RM,Nu,Nw,Nk,Nl,al,Ey,EC,br,ix,B1,vz,vy,vw,vs,vg,v2,lr,Au,ln,Ak,lc,lf,DK,ap,aq,a0,a1,ad,cl,cs,cf,wa,wi,ir,ca,cp,dd,mv,st,ss,sL,Bd.c,Bd.vl,sR,Ci]) (hs:=by
  intro i y hy
  obtain⟨a,rfl⟩:=Yn.1 hy
  have b:i+1<9223372036854775808:=by omega
  have c:=d l[i] (Yu hy)
  simp[RM,Nu,Nw,Nk,Nl,al,Ey,EC,br,ix,B1,vz,vy,vw,vs,vg,v2,lr,Au,ln,Ak,lc,lf,DK,ap,aq,a0,a1,ad,cl,cs,cf,wa,wi,ir,ca,cp,dd,mv,st,ss,sL,Bd.c,Bd.vl,sR,Ci,a,b,c]
  cases p l[i]<;>rfl)]
 unfold Cq
 cases l.findIdx? _<;>rfl
theorem m57(l:List Fld)(f:Fld→Option Bool)(p:Fld→Bool)(k:∀x∈l,f x=some (p x))(h:l.length<549755813888):QR l f=some (l.filter fun x=>!p x):=by
 have e0:=ZPe l f p k (by omega)
 unfold QR
 dsimp only[WJ,Zb,vw,vs,vg,vz,cs,br,lr,lf,lc,wi]
 rw[e0,Yi]
 cases hi:l.findIdx? p with
 |none=>
  rw[show Cq l p= -1 from by unfold Cq;rw[hi]]
  rw[show l.filter (fun x=>!p x)=l from LU.2 fun x a=>by rw[UV.1 hi x a];rfl]
  rfl
 |some i=>
  obtain⟨t,u,v⟩:=JE.1 hi
  rw[show Cq l p=(i:Int)from by unfold Cq;rw[hi]]
  have b:((i:Int)= -1)=False:=eq_false (by omega)
  have m: -9223372036854775808≤(i:Int)+1∧(i:Int)+1<9223372036854775808:=by omega
  have y:(l.take i).filter (fun x=>!p x)=l.take i:=LU.2 fun x a=>by
   obtain⟨j,H,rfl⟩:=UW.1 a
   rw[Bool.eq_false_iff.2 (v j (by omega))];rfl
  have g:(l.take (i+1)).filter (fun x=>!p x)=l.take i:=by rw[Ij t,JD,y];simp[u]
  obtain⟨c,E,z,A,C,D⟩:=tH (B:=Og l f) l p (fun i j r x w I a hl=>by
    have G:=(Yn.1 hl).1
    have q:(j:Int)<(l.length:Int):=by omega
    have s:=k x (Yu hl)
    have F: -9223372036854775808≤(i:Int)+1∧(i:Int)+1<9223372036854775808:=by omega
    have w2: -9223372036854775808≤(j:Int)+1∧(j:Int)+1<9223372036854775808:=by omega
    have d:(0:Int)≤(j:Int):=by omega
    have e:(0:Int)≤(i:Int):=by omega
    have n:(i:Int)<(l.length:Int):=by omega
    have o:i<r.length:=by omega
    dsimp only[Og,T8,al,Ey,EC,br,ix,B1,vz,vy,vw,vs,vg,v2,lr,Au,ln,Ak,lc,lf,DK,ap,aq,a0,a1,ad,cl,cs,cf,wa,wi,ir,ca,cp,dd,mv,st,ss,sL,Bd.c,Bd.vl,sR,Ci,GU,HZ,Lx,Ly,rb,cr,H4,ch]
    simp only[Gf,Ci,q,s,F,w2,d,e,n,o,a,DP,In,Dx,YE,YJ,Ff,Yi]
    cases p x<;>simp)
   (fun i r=>by
    dsimp only[Og,T8,al,Ey,EC,br,ix,B1,vz,vy,vw,vs,vg,v2,lr,Au,ln,Ak,lc,lf,DK,ap,aq,a0,a1,ad,cl,cs,cf,wa,wi,ir,ca,cp,dd,mv,st,ss,sL,Bd.c,Bd.vl,sR,Ci,GU,HZ,Lx,Ly,rb,cr,H4,ch]
    simp)
   (l.length-(i+1)) Aj i (i+1) l (by omega) (BB (by omega)) (by omega) rfl g.symm (by rw[g,YF];omega) rfl
  rw[show((i:Int)+1)=((i+1:Nat):Int)from rfl]at m⊢
  simp only[b,m,z,YV,YE,Yw,DP,YJ,YR,Yi,L3]
  have d:c≤l.length:=by rw[C];exact Ib _ _
  have e:(c:Int)=((E.take c).length:Int):=by rw[YF];omega
  simp[Xl,A,D,al,Ey,EC,br,ix,B1,vz,vy,vw,vs,vg,v2,lr,Au,ln,Ak,lc,lf,DK,ap,aq,a0,a1,ad,cl,cs,cf,wa,wi,ir,ca,cp,dd,mv,st,ss,sL,Bd.c,Bd.vl,sR,Ci,GU,HZ,Lx,Ly,rb,cr,H4,ch]
  omega
theorem fD{v:Val}(h:SzV v):b9 v=some (B0 v):=by
 obtain⟨t1,t2,t3,t4,t5⟩:=h
 have b:v.list.length<4611686018427387904:=by omega
 have c:v.pairs.length<4611686018427387904:=by omega
 have d:v.slots.length<4611686018427387904:=by omega
 have e:v.raws.length<4611686018427387904:=by omega
 have f:v.slots.length+v.raws.length<9223372036854775808:=by omega
 dsimp only[b9,kc,vy,vw,vg,lr,wa,Ah]
 simp only[b,c,d,e,f,Dd,YJ]
 congr 1
 unfold B0
 rw[OZ]
 by_cases a:v.text=⟨#[]⟩<;>simp only[a,YE,YV,Yj,Ya,Yk,Ye,Yb,Y5,C2,Ei,DQ,ne_eq,LX,L5,Dw,Dx,O1,Yw,or_false,false_or,Ym]<;>omega
theorem ZLN(n:Int):Q5 n=some (C8 n):=by
 dsimp only[Q5,Sf,lr]
 unfold C8
 rw[Bool.decide_or]
theorem n8{v:Val}(h:SzV v):b8 v=some (Eu v&&(if C8 v.kind=true then decide (v.bits=0)else decide (v.text=⟨#[]⟩))):=by
 obtain⟨t1,t2,t3,t4,t5⟩:=h
 have a:v.list.length<4611686018427387904:=by omega
 have b:v.pairs.length<4611686018427387904:=by omega
 have c:v.slots.length<4611686018427387904:=by omega
 have d:v.raws.length<4611686018427387904:=by omega
 have e:v.list.length+v.pairs.length<9223372036854775808:=by omega
 have f:v.list.length+v.pairs.length+v.slots.length<9223372036854775808:=by omega
 have g:v.list.length+v.pairs.length+v.slots.length+v.raws.length<9223372036854775808:=by omega
 have hl:decide ((0:Int)<((v.list.length+v.pairs.length+v.slots.length+v.raws.length:Nat):Int))=!Eu v:=by
  unfold Eu
  rw[←decide_not]
  refine decide_eq_decide.2 ?_
  omega
 dsimp only[b8,Zg,br,vz,vw,vs,lr,cl,wa,Ah,br]
 simp only[a,b,c,d,e,f,g,YJ]
 rw[hl,ZLN,Yi]
 cases Eu v<;>cases C8 v.kind<;>rfl
theorem Zv9(n b:Int):bJ n b=some (JW n b):=by
 unfold JW
 dsimp only[bJ,kx,br,vz,vy,lr,br]
 by_cases a:n=1
 ·subst a;rfl
 by_cases c:n=2
 ·subst c
  simp only[YE,YV,YJ,YR,Dd,show¬(2:Int)=1 by decide,Yw]
  rw[Bool.decide_and]
 by_cases e:n=9
 ·subst e;rfl
 by_cases d:n=4
 ·subst d;rfl
 simp only[a,c,d,e,YV,Yw,YR]
theorem gg(n:Int){v:Val}(h:SzV v):cj n v=some (CA n v):=by
 have k:=h.t
 have p:v.text.size<4611686018427387904:=by omega
 have m:I7 n=some (decide (1≤n)&&decide (n≤9)):=rfl
 dsimp only[cj,V8,br,vy,vw,lr,cl,clg,A2,br]
 rw[m,n8 h,Zv9,wz _ k,Yi]
 unfold CA
 by_cases c:1≤n∧n≤9∧v.kind=n
 ·obtain⟨g,i,j⟩:=c
  simp only[g,i,j,DP,YE,Bool.and_self,Y5,Io,Hb,C2,Gk,Ef,YQ,YJ,Yi,Dd,p,DQ]
  cases hl:Eu v with
  |false=>rfl
  |true=>
   cases b:C8 n with
   |true=>
    have o:JW n v.bits=true:=by
     unfold C8 at b
     rw[Ye]at b
     unfold JW
     rw[Yr (by omega),Yr (by omega),Yr (by omega),Yr (by omega)]
    rw[o]
    by_cases f:v.bits=0
    ·by_cases hs:v.text.size≤4096
     ·have a:¬(4096:Int)<v.text.size:=by omega
      unfold C8 at b
      rw[Ye]at b
      simp only[f,hs,a,YE,YV,DP,Y5,Io,Yw,YR,YJ,DQ,Bool.and_self,C2]
      congr 2
      rw[←decide_not]
      exact decide_eq_decide.2 (by omega)
     ·have a:(4096:Int)<v.text.size:=by omega
      simp only[hs,a,YE,YV,FJ,U1,YJ,Ei,H9]
    ·simp only[f,YV,H9,C2,L2,U1,YJ,Dw,Ei,DQ]
   |false=>
    have hs:v.text=⟨#[]⟩→¬(4096:Int)<v.text.size:=fun e=>by rw[e];decide
    have l:¬n=7:=by
     unfold C8 at b
     rw[Yb]at b
     omega
    by_cases d:v.text=⟨#[]⟩
    ·have hs:=hs d
     simp only[d,hs,l,YE,YV,Y5,C2,Yw,YR,DQ,O2,Hb,L2,O1]
     rw[d]at hs
     simp only[hs,YV,O1]
     cases JW n v.bits<;>rfl
    ·simp only[d,YV,C2,L2,YJ,Ei,H9,Yw,YR,Y5,U1,DQ]
 ·have e:((!(decide (1≤n)&&decide (n≤9)))||!decide (v.kind=n))=true:=by
   simp only[Yj,Yk,Yg,Yb]
   omega
  simp only[e,c,YV,Ei,Y5,Yw,U0,YJ,L2]
theorem Rr{n:Int}{v:Val}(c:1≤n)(d:n≤9)(e:v.kind=n)(a:B0 v=false):Eu v=true∧(C8 n=true→v.bits=0)∧(C8 n=false→v.text=⟨#[]⟩):=by
 unfold B0 at a
 rw[Yb]at a
 simp only[not_or,Classical.not_and_iff_not_or_not,Classical.not_not,ne_eq]at a
 obtain⟨a1,b,a3,a4,a5⟩:=a
 unfold Eu C8
 rw[Ye,Ye,Yb]
 refine⟨by omega,fun h=>?_,fun h=>?_⟩
 ·rcases a5 with a5|a5
  ·exact a5
  ·omega
 ·rcases a4 with a4|a4
  ·exact a4
  ·omega
def JN(s:Scm)(t:Typ)(v:Val):Int:=if CF t.kind v≠0∨t.kind≠9 then CF t.kind v else if(BO s t.name).1.opn=false∧FC (BO s t.name).1 v.bits=false then 16 else 0
theorem R5(s:Scm)(n:ByteArray)(h:s.enums.length≤1048576):cA s n=some (BO s n):=by
 have d:=EF (B:=NQ s.enums fun z=>MZ z n) (N:=Aj) s.enums (fun e=>decide (e.name=n)) (fun i=>(s.enums.getD i default,true)) () (fun i x a=>by
  have b:=B6 a
  have f:=(Yn.1 a).1
  have c:i+1<9223372036854775808:=by omega
  have e:MZ x n=some (decide (x.name=n)):=rfl
  dsimp only[NQ,Sa,br,ix,vw,vs,Au,ln,Ak,cf,wa,br]
  simp only[b,c,a,e,YE,YJ,Yi,YG,YQ]
  cases decide (x.name=n)<;>simp) (by simp[NQ,Sa,br,ix,vw,vs,Au,ln,Ak,cf,wa,br]) (BB (by omega))
 dsimp only[cA,WT,vw,lr,cs,bP,gy,jr,gq,vz,vw,lr,lc,Ah]
 unfold BO
 rw[d,Ni]
 cases s.enums.findIdx? fun m=>decide (m.name=n)<;>rfl
theorem ep{s:Scm}(h:SzS s)(n:ByteArray):(BO s n).1.items.length≤1048576:=by
 unfold BO B4
 cases e:s.enums.find? fun m=>decide (m.name=n)with
 |none=>decide
 |some m=>exact(h.e m (Il e)).il
theorem xf(l:List Itm)(f:Itm→Option Bool)(p:Itm→Bool)(e:∀x∈l,f x=some (p x))(h:l.length≤1048576):MX l f=some (l.any p):=by
 have g:=EF (B:=ND l f) (N:=Aj) l p (fun i=>(i:Int)) () (fun i x a=>by
  have b:=B6 a
  have j:=(Yn.1 a).1
  have c:i+1<9223372036854775808:=by omega
  have d:=e x (Yu a)
  dsimp only[ND,Sd,br,ix,vs,Au,ln,Ak,cf,wa,br]
  simp only[b,c,d,a,YE,YJ,Yi]
  cases p x<;>simp) (by simp[ND,Sd,br,ix,vs,Au,ln,Ak,cf,wa,br]) (BB (by omega))
 dsimp only[MX,XJ,lr,cs,bR,jX,eG,jG,vz,lr,lc,Ah]
 rw[g,←LR]
 cases l.findIdx? p with
 |none=>rfl
 |some i=>simp
theorem v8(e:Enm)(b:Int)(h:e.items.length≤1048576):bI e b=some (e.opn||FC e b):=by
 dsimp only[bI,fW,vw,lr,Dt]
 rw[xf e.items (fun z=>QU z b) (fun x=>decide (IntKind.u64.wrap x.num=b)) (fun x _=>rfl) h]
 unfold FC
 cases e.opn<;>simp
theorem ZSo{v:Val}(c:v.kind=7)(d:B0 v=false)(b:¬4096<v.text.size):CA 7 v=F0 v.text:=by
 obtain⟨a1,a,a3⟩:=Rr (n:=7) (by decide) (by decide) c d
 have a:=a (by decide)
 unfold CA
 rw[a1,show C8 7=true by decide,c,a]
 have b:v.text.size≤4096:=by omega
 simp[b]
theorem gO(s:Scm)(t:Typ){v:Val}(hs:SzS s)(h:SzV v):cB s t v=some (JN s t v):=by
 have i:=h.t
 have d:v.text.size<4611686018427387904:=by omega
 dsimp only[cB,iG,br,vz,vw,lr,cl,clg,A2,br]
 rw[fD h,wz _ i,gg t.kind h,R5 s _ hs.el,Yi,Yi,v8 _ _ (ep hs _)]
 unfold JN CF
 by_cases c:v.kind=t.kind
 ·cases j:B0 v with
  |true=>simp[c]
  |false=>
   by_cases a:4096<v.text.size
   ·have b:(4096:Int)<v.text.size:=by omega
    simp[c,d,a,b]
   ·have b:¬(4096:Int)<v.text.size:=by omega
    by_cases e:t.kind=7
    ·have g:=ZSo (c.trans e) j a
     rw[e]at c⊢
     rw[g]
     cases F0 v.text with
     |false=>simp[c,d,a,b]
     |true=>simp[c,d,a,b]
    ·cases CA t.kind v with
     |false=>simp[c,d,a,b,e]
     |true=>
      by_cases f:t.kind=9
      ·simp[c,d,a,b,e,f]
       cases(BO s t.name).1.opn<;>cases FC (BO s t.name).1 v.bits<;>simp
      ·simp[c,d,a,b,e,f]
 ·simp[c]
theorem wR{α ξ ρ:Type}{B:Nat→Option (Lv Nat ξ ρ)}{N:Nat}(l:List α)(p:α→Bool)(r:ρ)(e:ξ)
  (hs:∀i x,l[i]?=some x→B i=some (if p x=true then .rt r else .nx (i+1))) (he:B l.length=some (.ex e)) (hN:l.length<N):Ao B N 0=some (if l.any p=true then .inr r else .inl e):=by
 rw[EF l p (fun _=>r) e hs he hN,←LR]
 cases l.findIdx? p<;>rfl
theorem ZPh:20<Aj:=BB (by omega)
mutual
theorem NK:∀v:Val,cnt v≤2*AA (Ap v)+1
 |.mk k b t l p s r=>by
  have a:=xD l
  have c:=xT p
  have d:=xz s
  have f:=Di (e:=As) r
  simp only[cnt,Ap,AA,bk]
  omega
theorem xD:∀l:List Val,Bu l≤2*CY (Lj l)
 |[]=>by simp[Bu]
 |v::l=>by
  have a:=NK v
  have b:=xD l
  simp only[Bu,Lj,CY]
  omega
theorem Zyv:∀p:Pr,Oh p≤2*AA (Aq p)+2
 |.mk k v=>by
  have a:=NK k
  have b:=NK v
  simp only[Oh,Aq,Nz]
  omega
theorem xT:∀l:List Pr,Hl l≤2*CY (J5 l)
 |[]=>by simp[Hl]
 |v::l=>by
  have a:=Zyv v
  have b:=xT l
  simp only[Hl,J5,CY]
  omega
theorem Zxe:∀x:Slt,Oi x≤2*AA (Ag x)+1
 |.mk n v=>by
  have a:=NK v
  simp only[Oi,Ag,AA,bk]
  omega
theorem xz:∀l:List Slt,HO l≤2*CY (K7 l)
 |[]=>by simp[HO]
 |v::l=>by
  have a:=Zxe v
  have b:=xz l
  simp only[HO,K7,CY]
  omega
end
theorem ZJI(v:Val):cnt v=1+v.raws.length+Bu v.list+Hl v.pairs+HO v.slots:=by cases v;simp only[cnt,Val.raws,Val.list,Val.pairs,Val.slots]
theorem Zw8(p:Pr):Oh p=cnt p.key+cnt p.val:=by cases p;simp only[Oh,Pr.key,Pr.val]
theorem Zwi(x:Slt):Oi x=cnt x.val:=by cases x;simp only[Oi,Slt.val]
theorem Jb:∀a b:List Val,Bu (a++b)=Bu a+Bu b
 |[],b=>by simp[Bu]
 |x::a,b=>by rw[L6,Bu,Bu,Jb a b];omega
theorem ZIu{v:Val}(h:A6 v):cnt v≤2097153:=by
 have:=NK v
 rw[Gu]at this
 have h:AA (Ai v)≤1048576:=h
 omega
theorem ZuA(l:List Val)(i:Nat):Bu (l.take i)≤Bu l:=by
 conv=>rhs;rw[←Ia i l,Jb]
 omega
theorem Zyc{l:List Val}{i:Nat}{x:Val}(h:l[i]?=some x):Bu (l.take i)+cnt x≤Bu l:=by
 obtain⟨a,rfl⟩:=Yn.1 h
 have:=ZuA l (i+1)
 rw[Ij a,Jb,Bu,Bu]at this
 omega
def Ds(v:Val):List Val:=v.list++v.pairs.flatMap (fun p=>[p.key,p.val])++v.slots.map fun x=>x.val
theorem SL(l:List Pr):(l.flatMap fun p=>[p.key,p.val]).length=2*l.length:=by
 induction l with
 |nil=>rfl
 |cons p l a=>rw[List.flatMap_cons,Yv,a];simp;omega
theorem ZFc(l:List Pr):Bu (l.flatMap fun p=>[p.key,p.val])=Hl l:=by
 induction l with
 |nil=>rfl
 |cons p l a=>rw[List.flatMap_cons,Jb,a,Hl,Zw8,Bu,Bu,Bu];omega
theorem ZFr(l:List Slt):Bu (l.map fun x=>x.val)=HO l:=by
 induction l with
 |nil=>rfl
 |cons p l a=>rw[Y9,Bu,a,HO,Zwi]
theorem xq(v:Val):1+v.raws.length+Bu (Ds v)=cnt v:=by
 unfold Ds
 rw[Jb,Jb,ZFc,ZFr,ZJI]
 omega
theorem Zw4{v x:Val}(e:A6 v)(g:x∈Ds v):A6 x∧AA (Ai x)+1≤AA (Ai v):=by
 unfold Ds at g
 rcases Ii.1 g with d|d
 ·rcases Ii.1 d with c|c
  ·exact⟨N0 e c,by have:=qh c;omega⟩
  ·obtain⟨p,a,b⟩:=List.mem_flatMap.1 c
   have h:=Xc a
   have f:=HH e a
   rcases YM.1 b with rfl|b
   ·exact⟨f.1,by omega⟩
   ·rcases YM.1 b with rfl|b
    ·exact⟨f.2,by omega⟩
    ·cases b
 ·obtain⟨y,a,rfl⟩:=Y0.1 d
  exact⟨N3 e a,by have:=qo a;omega⟩
theorem Zxi(l:List Val)(h:l.length<549755813888):Q0 l=some l:=by
 cases l with
 |nil=>rfl
 |cons x r=>
  dsimp only[Q0,gZ,al,br,vw,lr,a0,mv,br]
  simp only[Db]at h
  simp
  omega
theorem ZGV{v:Val}(h:SzV v):cm v=some (Ds v):=by
 obtain⟨t1,t2,t3,t4,t5⟩:=h
 have e:=RC (B:=NO v) (N:=Aj) (ρ:=List Val) v.pairs (fun p=>v.list++p.flatMap fun p=>[p.key,p.val]) (fun i b=>(b,i)) id (fun i y hy=>by
  have a:=B6 hy
  have g:=(Yn.1 hy).1
  have c:i+1<9223372036854775808:=by omega
  have d:(v.list++(v.pairs.take i).flatMap fun p=>[p.key,p.val]).length<549755813800:=by
   rw[Yv,SL,YF]
   omega
  rw[List.flatMap_append,←Eg]
  generalize (v.list++(v.pairs.take i).flatMap fun p=>[p.key,p.val])=L at d⊢
  dsimp only[NO,R2,br,ix,vz,vw,vs,ln,Ak,kR,wa,fl,br]
  simp[a,hy,c]<;>omega) (by
   have:(v.list++v.pairs.flatMap fun p=>[p.key,p.val]).length<549755813800:=by
    rw[Yv,SL]
    omega
   dsimp only[NO,R2,br,ix,vz,vw,vs,ln,Ak,kR,wa,fl,br]
   simp) (BB (by omega))
 have f:=RC (B:=NP v) (N:=Aj) (ρ:=List Val) v.slots (fun p=>(v.list++v.pairs.flatMap fun p=>[p.key,p.val])++p.map fun x=>x.val) (fun i b=>(b,i)) id (fun i y hy=>by
  have a:=B6 hy
  have g:=(Yn.1 hy).1
  have c:i+1<9223372036854775808:=by omega
  have d:((v.list++v.pairs.flatMap fun p=>[p.key,p.val])++(v.slots.take i).map fun x=>x.val).length<549755813800:=by
   rw[Yv,Yv,SL,YL,YF]
   omega
  rw[OY,←Eg]
  generalize ((v.list++v.pairs.flatMap fun p=>[p.key,p.val])++(v.slots.take i).map fun x=>x.val)=L at d⊢
  dsimp only[NP,SM,br,ix,vz,vw,vs,ln,Ak,ap,wa,fl,br]
  simp[a,hy,c]<;>omega) (by
   dsimp only[NP,SM,br,ix,vz,vw,vs,ln,Ak,ap,wa,fl,br]
   simp) (BB (by omega))
 rw[show(v.list++([]:List Pr).flatMap fun p=>[p.key,p.val])=v.list by simp]at e
 rw[show((v.list++v.pairs.flatMap fun p=>[p.key,p.val])++([]:List Slt).map fun x=>x.val)=(v.list++v.pairs.flatMap fun p=>[p.key,p.val])by simp]at f
 dsimp only[cm,j7,jV,fK,fH,iy,ig,vz,vw,lr,lc,fl,fr,Ah]
 rw[Zxi _ (by omega)]
 simp only[Yi,e,f,id,L3]
 rfl
theorem ZxL{v:Val}(h:SzV v):(Ds v).length≤4194304:=by
 obtain⟨t1,t2,t3,t4,t5⟩:=h
 unfold Ds
 rw[Yv,Yv,SL,YL]
 omega
theorem mP:∀(d:Nat) (v:Val),AA (Ai v)<d→A6 v→Kq d v=some (cnt v:Int)
 |0,v,h,_=>by omega
 |d+1,v,h,k=>by
  have l:=CS k
  have w:=l.r
  have hl:=ZxL l
  have q:=ZIu k
  rw[←xq]at q
  have r:v.raws.length<4611686018427387904:=by omega
  have s:1+v.raws.length<9223372036854775808:=by omega
  have t:(Ds v).length<4611686018427387904:=by omega
  have m:=RC (B:=NT (Kq d) (Ds v)) (N:=Aj) (ρ:=Int) (Ds v) (fun p=>((1+v.raws.length+Bu p:Nat):Int)) (fun i b=>(b,i)) id (fun i x f=>by
   have n:=B6 f
   have o:i+1<9223372036854775808:=by have:=(Yn.1 f).1;omega
   have hm:=Zw4 k (Yu f)
   have e:=mP d x (by omega) hm.1
   have u:=Zyc f
   have g:((1+v.raws.length+Bu ((Ds v).take i):Nat):Int)+(cnt x:Int)=((1+v.raws.length+Bu ((Ds v).take i++[x]):Nat):Int):=by
    rw[Jb,Bu,Bu]
    omega
   have j: -9223372036854775808≤((1+v.raws.length+Bu ((Ds v).take i):Nat):Int)+(cnt x:Int)∧((1+v.raws.length+Bu ((Ds v).take i):Nat):Int)+(cnt x:Int)<9223372036854775808:=by omega
   generalize ((1+v.raws.length+Bu ((Ds v).take i):Nat):Int)=a at g j⊢
   generalize ((1+v.raws.length+Bu ((Ds v).take i++[x]):Nat):Int)=b at g⊢
   generalize (cnt x:Int)=c at e g j
   dsimp only[NT,R0,br,ix,vw,vs,v2,ln,Ak,cs,wa,wi,br]
   simp only[n,f,YE,YJ,Yi]
   rw[e,Yi,Ys j,Ys o,g]) (by dsimp only[NT,R0,br,ix,vw,vs,v2,ln,Ak,cs,wa,wi,br];simp) (BB (by omega))
  simp only[Bu,DS,id]at m
  show TT (Kq d) v=_
  dsimp only[TT,jc,jI,kG,vz,vw,vs,lr,lc,cl,wa,Ah]
  rw[ZGV l]
  simp only[r,s,t,YJ,m,Yi,L3]
  rw[xq]
theorem SD{l:List Fld}(h:CX l l.length):∀(d i:Nat) (a b:Fld),l[i]?=some a→l[i+1+d]?=some b→a.num<b.num
 |0,i,a,b,e,c=>h i a b (Yn.1 c).1 e c
 |d+1,i,a,b,e,c=>by
  have g:=(Yn.1 c).1
  have f:i+1+d<l.length:=by omega
  have j:=SD h d i a l[i+1+d] e (Yh f)
  have k:=h (i+1+d) l[i+1+d] b (by omega) (Yh f) c
  omega
theorem ZMH{l:List Fld}(h:CX l l.length){i:Nat}{f:Fld}(a:l[i]?=some f):∀g∈l.take i,g.num≠f.num:=fun g b=>by
 obtain⟨j,c,rfl⟩:=UW.1 b
 have:=SD h (i-(j+1)) j _ f (Yh (by omega)) (by rw[show j+1+(i-(j+1))=i by omega];exact a)
 omega
def Ul(F:List Fld):Prop:=∀f∈F,H6 f∧A6 f.dflt
theorem RK(F:List Fld)(k:Int):((BN F k).2=false∧A5 F k=zF)∨((BN F k).2=true∧A5 F k∈F):=by
 unfold A5 BN B4
 cases e:F.find? fun f=>decide (f.num=k)with
 |none=>exact .inl ⟨rfl,rfl⟩
 |some f=>exact .inr ⟨rfl,Il e⟩
def zV:Val:=.mk 0 0 ⟨#[]⟩ [] [] [] []
def H5(f:Fld):Val:=if f.hasDefault=true then f.dflt else if f.card=4 then .mk 11 0 ⟨#[]⟩ [] [] [] []else if f.card=5 then .mk 12 0 ⟨#[]⟩ [] [] [] []else if f.type.kind=10 then .mk 10 0 ⟨#[]⟩ [] [] [] []else if 1≤f.type.kind∧f.type.kind≤9 then .mk f.type.kind 0 ⟨#[]⟩ [] [] [] []else zV
def Bi(l:List Slt)(k:Int):Option Slt:=l.find? fun x=>decide (x.num=k)
theorem dM(l:List Slt)(k:Int):BK l k=(Bi l k).isSome:=by
 unfold BK Bi
 cases e:l.find? fun x=>decide (x.num=k)with
 |none=>exact List.any_eq_false.2 (O9.1 e)
 |some x=>refine YW.2 ?_;exact⟨x,Il e,List.find?_some (p:=fun x:Slt=>decide (x.num=k)) e⟩
theorem Hx(a b:List Slt)(k:Int):Bi (a++b) k=(Bi a k).or (Bi b k):=List.find?_append
theorem ZoE(l:List Slt)(x:Slt)(k:Int)(h:x.num≠k):Bi (GH l x) k=Bi l k:=by
 have e:Bi [x] k=none:=by simp[Bi,h]
 unfold GH
 cases l.findIdx? fun y=>decide (x.num<y.num)with
 |none=>show Bi (l++[x]) k=_;rw[Hx,e,Option.or_none]
 |some i=>
  show Bi (l.take i++[x]++l.drop i) k=_
  rw[Hx,Hx,e,Option.or_none,←Hx,Ia]
theorem ZnQ(l:List Slt)(x:Slt)(h:Bi l x.num=none):Bi (GH l x) x.num=some x:=by
 have e:Bi [x] x.num=some x:=by simp[Bi]
 unfold GH
 cases l.findIdx? fun y=>decide (x.num<y.num)with
 |none=>show Bi (l++[x]) _=_;rw[Hx,e,h];rfl
 |some i=>
  show Bi (l.take i++[x]++l.drop i) _=_
  have a:Bi (l.take i) x.num=none:=by
   rw[←Ia i l,Hx]at h
   cases b:Bi (l.take i) x.num with
   |none=>rfl
   |some y=>rw[b]at h;cases h
  rw[Hx,Hx,e,a]
  rfl
theorem wx{F:List Fld}(h:CX F F.length){i:Nat}{f:Fld}(a:F[i]?=some f):F=F.take i++f::F.drop (i+1)∧(∀g∈F.take i,g.num≠f.num)∧∀g∈F.drop (i+1),g.num≠f.num:=by
 obtain⟨hi,e⟩:=Yn.1 a
 refine⟨?_,ZMH h a,fun g c=>?_⟩
 ·rw[←e,List.getElem_cons_drop,Ia]
 ·obtain⟨d,b⟩:=YK.1 c
  rw[YN]at b
  have:=SD h d i f g a b
  omega
theorem Je{F:List Fld}(h:CX F F.length){i:Nat}{f:Fld}(c:F[i]?=some f):BN F f.num=(f,true):=by
 obtain⟨e,b,j⟩:=wx h c
 have a:F.find? (fun g=>decide (g.num=f.num))=some f:=by
  rw[e,List.find?_append,O9.2 fun g d=>by simpa using b g d]
  simp
 unfold BN B4
 rw[a]
 rfl
def E2(l:List Slt)(f:Fld):Val:=(Bi l f.num).elim (H5 f) fun x=>x.val
theorem g48(f:Fld):bM f=some (H5 f):=by
 dsimp only[bM,VE,br,vw,lr,cl,br,uZ,W0,br,vw,lr,cl,br,I7,N6,lr]
 unfold H5 zV
 simp only[Yi,Ye,Yk,Yg,Yb]
 grind
theorem ZFh(l:List Slt)(k:Int):match Bi l k with|some x=>∃i:Nat,Cq l (fun x=>decide (x.num=k))=(i:Int)∧l[i]?=some x|none=>Cq l (fun x=>decide (x.num=k))= -1:=by
 unfold Bi Cq
 rw[Rv]
 cases e:l.findIdx? fun x=>decide (x.num=k)with
 |none=>rfl
 |some i=>
  have a:=(JE.1 e).1
  simp[a]
  exact⟨i,rfl,Yh a⟩
theorem zH(s:Scm)(n:ByteArray)(v:Val)(f:Fld)(hs:s.messages.length≤1048576)(j:(AJ s n).length≤1048576)(o:v.slots.length≤4194304)(hm:(B4 s.messages zM fun m=>decide (m.name=n)).2=true)(k:BN (AJ s n) f.num=(f,true)):ce s n v f.num=some (E2 v.slots f,0):=by
 have b:Gm s n f.num=some (.mk (B4 s.messages zM fun m=>decide (m.name=n)).1 s,f,0):=by
  dsimp only[Gm,K4,La,K6,br,vw,lr,lc,cl,br]
  rw[zT _ _ hs,Yi,hm]
  simp only[Y5,Yw,YR,YJ]
  rw[Oq _ _ j,Yi]
  rw[show(B4 s.messages zM fun m=>decide (m.name=n)).1.fields=AJ s n from rfl,k]
  rfl
 have c:QL v.slots f.num=some (Cq v.slots fun x=>decide (x.num=f.num)):=by
  dsimp only[QL,S9,lr,cs]
  rw[Uh v.slots (fun z=>MV z f.num) (fun x=>decide (x.num=f.num)) (fun x _=>rfl) (by omega)]
  rfl
 have h:=ZFh v.slots f.num
 unfold E2
 dsimp only[ce,U7,br,B1,vw,lr,cl,br]
 rw[b,Yi,c,Yi]
 cases e:Bi v.slots f.num with
 |none=>
  rw[e]at h
  simp only at h
  rw[h,g48]
  rfl
 |some x=>
  rw[e]at h
  obtain⟨i,d,a⟩:=h
  rw[d]
  have l:=(Yn.1 a).1
  have g:=B6 a
  simp[a,g]
theorem RN{s:Scm}(h:∀(i:Nat) (m:Msg),s.messages[i]?=some m→GdM s m)(hs:AA (AC s)≤1048576)(n:ByteArray):CX (AJ s n) (AJ s n).length∧Ul (AJ s n)∧(AJ s n).length≤1048576:=by
 have hl:=eb (FH hs) n
 unfold AJ B4 at*
 cases e:s.messages.find? fun m=>decide (m.name=n)with
 |none=>exact⟨fun i a b hi=>by simp[zM]at hi,fun f c=>by simp[zM]at c,by simp[zM]⟩
 |some m=>
  rw[e]at hl
  have hm:=Il e
  obtain⟨i,hi⟩:=YK.1 hm
  have g:=h i m hi
  refine⟨g.asc,fun f c=>?_,hl⟩
  obtain⟨j,k⟩:=YK.1 c
  refine⟨(g.df j f k).1,?_⟩
  have d:=CT (e:=AH) hm
  have l:=CT (e:=Ar) (show f∈m.fields from c)
  simp only[AC,AA,bk]at hs
  simp only[AH,AA,bk]at d
  have e:AA (Ai f.dflt)≤AA (Ar f):=by
   simp only[Ar,Ai,AA,bk]
   omega
  show AA (Ai f.dflt)≤1048576
  omega
theorem o6g(s:Scm)(n:ByteArray)(h:SzS s):Ok (fun b=>b=true→∀(i:Nat) (m:Msg),s.messages[i]?=some m→GdM s m) (bx s n):=by
 dsimp only[bx,Zy,vz,vw,lr,clg,A2]
 have a:=o15 _ h
 have c:∀k:Few s,Ok (fun b=>b=true→∀(i:Nat) (m:Msg),s.messages[i]?=some m→GdM s m) (QD s):=fun k=>o16 _ h k
 (repeat' (first|with_reducible refine Ok.br (fun _=>?_) (fun _=>?_)|with_reducible refine Ok.pure ?_|(with_reducible apply Ok.bind;(exact a);intro _ _)|(with_reducible apply Ok.bind;(exact c (by simp_all));intro _ _)|(with_reducible apply Ok.clg;(exact fun _=>a);intro _)|(with_reducible apply Ok.clg;(exact fun _=>c (by simp_all));intro _)|with_reducible refine Ok.if ?_ ?_))<;>(simp_all<;>(rename_i q;exact q))
structure GdF (s:Scm) (f:Fld):Prop where
 en:f.type.kind=9→(BO s f.type.name).2=true
 ms:f.type.kind=10→(Bg s f.type.name).2=true
 ty:1≤f.type.kind∧f.type.kind≤10
 ky:f.card=5→f.key=1∨f.key=2∨f.key=3∨f.key=4∨f.key=5∨f.key=7
structure GdS (s:Scm):Prop where
 fl:∀(n:ByteArray) (f:Fld),f∈AJ s n→GdF s f
 asc:∀n:ByteArray,CX (AJ s n) (AJ s n).length
theorem PN{n:Int}{v:Val}(h:CF n v=0):v.kind=n∧B0 v=false∧v.text.size≤4096∧CA n v=true:=by
 unfold CF at h
 by_cases a1:v.kind≠n∨B0 v=true
 ·rw[Ys a1]at h;cases h
 ·rw[Yr a1]at h
  by_cases a:4096<v.text.size
  ·rw[Ys a]at h;cases h
  ·rw[Yr a]at h
   cases a3:CA n v with
   |false=>
    rw[a3]at h
    rw[Yr (by decide)]at h
    split at h<;>cases h
   |true=>
    refine⟨Decidable.not_not.1 fun e=>a1 (.inl e),?_,by omega,rfl⟩
    cases b:B0 v with
    |false=>rfl
    |true=>exact absurd (.inr b) a1
theorem ew{s:Scm}{t:Typ}{v:Val}{R:Msg→Val→Int}(a:1≤t.kind)(b:t.kind≤9)(he:t.kind=9→(BO s t.name).2=true):JN s t v=Cp R s t v:=by
 unfold JN Cp
 rw[Yr (by omega:¬t.kind=10),Yr (by omega:¬(t.kind<1∨9<t.kind))]
 by_cases c:CF t.kind v≠0∨t.kind≠9
 ·rw[Ys c,Ys c]
 ·rw[Yr c,Yr c,he (by omega),Yr (by decide:¬true=false)]
theorem ZKl{n:Int}{a b:Val}(l:n=1∨n=2∨n=3∨n=4∨n=5∨n=7)(j:CF n a=0)(k:CF n b=0):Fy a b=ME a b:=by
 obtain⟨a1,h,_,_⟩:=PN j
 obtain⟨d,i,_,_⟩:=PN k
 obtain⟨_,a3,a4⟩:=Rr (n:=n) (by omega) (by omega) a1 h
 obtain⟨_,e,f⟩:=Rr (n:=n) (by omega) (by omega) d i
 unfold Fy ME
 rw[a1,d,Y6 rfl,DQ]
 unfold C8 at a3 a4 e f
 by_cases c:n=7
 ·rw[a3 (Y6 (.inl c)),e (Y6 (.inl c)),Ys (.inl c)]
  simp
 ·have g:decide (n=7∨n=8)=false:=Dy (by omega)
  rw[a4 g,f g,Yr (by omega),Yr (by omega)]
  simp
theorem wG(l:List Pr)(f:Pr→Option Bool)(p:Pr→Bool)(e:∀x∈l,f x=some (p x))(h:l.length≤1048576):I5 l f=some (l.any p):=by
 have g:=EF (B:=NN l f) (N:=Aj) l p (fun i=>(i:Int)) () (fun i x a=>by
  have b:=B6 a
  have j:=(Yn.1 a).1
  have c:i+1<9223372036854775808:=by omega
  have d:=e x (Yu a)
  dsimp only[NN,Sj,br,ix,vs,Au,ln,Ak,cf,wa,br]
  simp only[b,c,d,a,YE,YJ,Yi]
  cases p x<;>simp) (by simp[NN,Sj,br,ix,vs,Au,ln,Ak,cf,wa,br]) (BB (by omega))
 dsimp only[I5,WW,lr,cs,bS,e9,gu,eK,vz,lr,lc,Ah]
 rw[g,←LR]
 cases l.findIdx? p with
 |none=>rfl
 |some i=>simp
theorem dO(l:List Slt)(f:Slt→Option Bool)(p:Slt→Bool)(a:∀x∈l,f x=some (p x))(h:l.length≤1048576):Kk l f=some (l.any p):=by
 dsimp only[Kk,kv,lr,cs]
 rw[Uh l f p a (by omega)]
 simp only[Yi]
 rw[yd]
theorem ZJu(l:List Slt)(f:Fld)(h:l.length≤1048576):Q1 l f=some (BK l f.num):=by
 dsimp only[Q1,dE,lr,cs]
 rw[dO l (fun z=>QP z f) (fun x=>decide (x.num=f.num)) (fun x _=>rfl) h]
 rfl
theorem ZJr(l:List Slt)(f:Fld)(h:l.length≤1048576):QZ l f=some (BK l f.num):=by
 dsimp only[QZ,dP,lr,cs]
 rw[dO l (fun z=>QO z f) (fun x=>decide (x.num=f.num)) (fun x _=>rfl) h]
 rfl
theorem ZL5(l:List Slt)(f:Fld)(h:l.length≤1048576):Q9 l f=some (BK l f.num):=by
 dsimp only[Q9,dT,lr,cs]
 rw[dO l (fun z=>QH z f) (fun x=>decide (x.num=f.num)) (fun x _=>rfl) h]
 rfl
def Cs(F:List Fld)(u:ByteArray):List Fld:=if u=⟨#[]⟩then[]else F.filter fun f=>decide (f.union=u)
theorem xS(m:Msg)(u:ByteArray)(h:m.fields.length≤1048576):bW m u=some (Cs m.fields u):=by
 unfold Cs
 by_cases c:u=⟨#[]⟩
 ·subst c
  rfl
 ·dsimp only[bW,XS,WO,XZ,Xf,Vd,br,vz,vw,lr,lc,fl,fr,br]
  rw[m58 _ (by omega),Yi,m57 m.fields (fun z=>Q6 z u) (fun f=>!decide (f.union=u)) (fun f _=>rfl) (by omega),Yi]
  simp[c]
theorem eh(F:List Fld)(u:ByteArray):(Cs F u).length≤F.length:=by
 unfold Cs
 split
 ·exact DT _
 ·exact Ib _ _
theorem ZKx{F:List Fld}(h:CX F F.length){g:Fld}(a:g∈F):BN F g.num=(g,true):=by
 obtain⟨i,hi⟩:=YK.1 a
 exact Je h hi
theorem ZMn{F:List Fld}(h:CX F F.length)(l:List Slt)(k:Int)(j:BK l k=false)(u:ByteArray):((Cs F u).any fun g=>(!decide (g.num=k))&&BK l g.num)=MI F l u:=by
 unfold Cs MI
 by_cases c:u=⟨#[]⟩
 ·simp[c]
 ·rw[Yr c,Dy c,C2,DQ,OZ,YW,YW]
  constructor
  ·rintro⟨g,d,a⟩
   obtain⟨m,n⟩:=Eh.1 d
   rw[Ya]at a
   obtain⟨y,o,i⟩:=YW.1 (show(l.any fun x=>decide (x.num=g.num))=true from a.2)
   rw[Ye]at i
   refine⟨y,o,?_⟩
   unfold A5
   rw[i,ZKx h m]
   exact n
  ·rintro⟨y,d,a⟩
   rw[Ye]at a
   rcases RK F y.num with⟨f,b⟩|⟨f,b⟩
   ·rw[b]at a
    exact absurd a.symm c
   ·have p:=dD f
    refine⟨A5 F y.num,Eh.2 ⟨b,Y6 a⟩,?_⟩
    rw[p,Ya]
    have hy:BK l y.num=true:=YW.2 ⟨y,d,Y6 rfl⟩
    refine⟨?_,hy⟩
    rw[Yk,Yb]
    intro e
    rw[e]at hy
    rw[hy]at j
    cases j
abbrev K5:=Scm→Fld→Val→Int→Option Int
theorem ZG7(R:K5)(o:Fld→Val→Int)(s:Scm)(m:Msg)(l:List Slt)(i:Nat)(x:Slt)(d:Int)(F:CX m.fields m.fields.length)(hm:m.fields.length≤1048576)(hl:l.length≤1048576)(n:l[i]?=some x)(E:∀f:Fld,f∈m.fields→R s f x.val d=some (o f x.val)):Q4 R s m l i d=some (IG o m.fields l i x):=by
 have hi:=(Yn.1 n).1
 have u:(l.take i).length≤1048576:=by rw[YF];omega
 have w0:(0:Int)≤i∧(i:Int)<l.length:=by omega
 have b:(0:Int)≤i∧(i:Int)≤l.length:=by omega
 have c:i≤l.length:=by omega
 have w:(BN m.fields x.num).1=A5 m.fields x.num:=rfl
 have J:(l.getD i Rw.z)=x:=by rw[YG,n];rfl
 have I:∀y:Fld×Bool,BK (l.take i) y.1.num=false→Ao (KT s l i d R y (Cs m.fields y.1.union)) Aj 0=some (if MI m.fields (l.take i) y.1.union=true then .inr 15 else .inl ()):=fun y hy=>by
  have v:=eh m.fields y.1.union
  have q:=wR (B:=KT s l i d R y (Cs m.fields y.1.union)) (N:=Aj) (Cs m.fields y.1.union) (fun g=>(!decide (g.num=y.1.num))&&BK (l.take i) g.num) (15:Int) () (fun j g k=>by
   have C:=B6 k
   have D:j+1<9223372036854775808:=by have:=(Yn.1 k).1;omega
   have e:=ZJr (l.take i) g u
   dsimp only[KT,Sy,br,ix,vw,vs,Au,ln,Ak,Dt,wa,br]
   simp only[C,D,k,b,c,e,Ff,Bd.c,Bd.vl,JG,FK,YE,YJ,Yi,DP,Dd,Ef,YQ,DT]
   cases(!decide (g.num=y.1.num))&&BK (l.take i) g.num<;>simp) (by dsimp only[KT,Sy,br,ix,vw,vs,Au,ln,Ak,Dt,wa,br];simp) (BB (by omega))
  rw[q,ZMn F _ _ hy]
 have z:=ZJu (l.take i) (A5 m.fields x.num) u
 have A:=xS m (A5 m.fields x.num).union hm
 have v:(Cs m.fields (A5 m.fields x.num).union).length<4611686018427387904:=by have:=eh m.fields (A5 m.fields x.num).union;omega
 unfold IG
 dsimp only[Q4,iz,fm,fw,fP,fF,br,B1,vz,vw,lr,lc,cl,cs,sL,du,Ah,br]
 simp only[Ff,n,w0,b,c,J,DP,YJ,Oq _ _ hm,Yi,w,Bd.c,Bd.vl,JG,FK,z,A,v,DT]
 cases r:(BN m.fields x.num).2 with
 |false=>simp
 |true=>
  have t:(A5 m.fields x.num).num=x.num:=dD r
  have a:A5 m.fields x.num∈m.fields:=by
   rcases RK m.fields x.num with⟨h,p⟩|⟨h,p⟩
   ·rw[r]at h;cases h
   ·exact p
  have H:=E _ a
  have q:=I (BN m.fields x.num)
  rw[w,t]at q
  rw[t]
  cases G:BK (l.take i) x.num with
  |true=>simp
  |false=>
   have q:=q G
   simp only[q,Y5,Yw,YR,Yi]
   cases MI m.fields (l.take i) (A5 m.fields x.num).union with
   |true=>simp
   |false=>simp[H]
structure GdT (s:Scm) (t:Typ):Prop where
 en:t.kind=9→(BO s t.name).2=true
 ms:t.kind=10→(Bg s t.name).2=true
 ty:1≤t.kind∧t.kind≤10
theorem GdF.t{s:Scm}{f:Fld}(h:GdF s f):GdT s f.type:=⟨h.en,h.ms,h.ty⟩
def P5(R:K5)(s:Scm)(d:Nat):Prop:=∀d':Nat,d=d'+1→∀(f:Fld) (x:Val),GdF s f→A6 x→R s f x (16-(d':Int))=some (F3 (Bv s true d') s true f x)
theorem ZJe{s:Scm}(hs:AA (AC s)≤1048576)(m:Msg)(x:Raw)(hm:m.fields.length≤1048576)(q:x.data.size≤1048576):cH s m x=some (JK s m.fields x):=by
 have h:=FH hs
 have o:x.data.size<4611686018427387904:=by omega
 have k:=R5 s (A5 m.fields x.num).type.name h.el
 have l:=v8 (BO s (A5 m.fields x.num).type.name).1 x.bits (ep h _)
 have p:(BN m.fields x.num).1=A5 m.fields x.num:=rfl
 have n:cO s (A5 m.fields x.num) x=some (T7 s (A5 m.fields x.num) x):=by
  unfold T7
  dsimp only[cO,ko,vw,lr,cl,clg]
  rw[k,Yi,l]
  generalize BO s (A5 m.fields x.num).type.name=g
  generalize A5 m.fields x.num=f
  simp only[Ef,Dd,YJ,YQ]
  congr 1
  cases g.2<;>cases g.1.opn<;>cases decide (f.type.kind=9)<;>cases decide (f.card=5)<;>cases decide (x.wire=0)<;>cases decide (x.bits<2147483648)<;>cases FC g.1 x.bits<;>rfl
 dsimp only[cH,fy,br,vy,vw,lr,cl,clg,A2,br]
 rw[Oq _ _ hm,Yi,p,n]
 unfold JK
 generalize T7 s (A5 m.fields x.num) x=kp
 have j:(if((decide (x.wire=3)&&decide ((4096:Int)<x.data.size))||decide ((65536:Int)<x.data.size))=true then some (3:Int)else some 0)=some (if(x.wire=3∧4096<x.data.size)∨65536<x.data.size then 3 else 0):=by
  by_cases c:(x.wire=3∧4096<x.data.size)∨65536<x.data.size
  ·rw[Ys c,Ys]
   simp only[Yj,Ya,Ye]
   omega
  ·rw[Yr c,Yr]
   simp only[Yj,Ya,Ye]
   omega
 simp only[o,Dd,YJ,Ef,YQ]
 by_cases a:x.num<1∨65535<x.num∨x.wire<0∨6<x.wire
 ·have a1:(((decide (x.num<1)||decide (65535<x.num))||decide (x.wire<0))||decide (6<x.wire))=true:=by
   simp only[Yj,Ye]
   omega
  rw[Ys a1,Ys (by omega)]
 ·have a1:¬(((decide (x.num<1)||decide (65535<x.num))||decide (x.wire<0))||decide (6<x.wire))=true:=by
   simp only[Yj,Ye]
   omega
  rw[Yr a1]
  by_cases b:(x.wire≤2∧x.data≠⟨#[]⟩)∨(2<x.wire∧x.bits≠0)
  ·have d:((decide (x.wire≤2)&&!decide (x.data=⟨#[]⟩))||((!decide (x.wire≤2))&&!decide (x.bits=0)))=true:=by
    by_cases i:x.data=⟨#[]⟩<;>simp only[i,YE,YV,Y5,C2,H9,O2,Hb,Yj,Ya,Yk,Ye,Yb,ne_eq,LX,L5,FJ,In,false_or]at b⊢<;>omega
   have e:x.num<1∨65535<x.num∨x.wire<0∨6<x.wire∨(x.wire≤2∧x.data≠⟨#[]⟩)∨(2<x.wire∧x.bits≠0):=.inr (.inr (.inr (.inr b)))
   rw[Ys e,d]
   rfl
  ·have d:((decide (x.wire≤2)&&!decide (x.data=⟨#[]⟩))||((!decide (x.wire≤2))&&!decide (x.bits=0)))=false:=by
    by_cases i:x.data=⟨#[]⟩<;>simp only[i,YE,YV,Y5,C2,H9,O2,Hb,Ym,Yg,US,Ye,Yb,ne_eq,LX,L5,FJ,In,false_or]at b⊢<;>omega
   have e:¬(x.num<1∨65535<x.num∨x.wire<0∨6<x.wire∨(x.wire≤2∧x.data≠⟨#[]⟩)∨(2<x.wire∧x.bits≠0)):=fun h=>by
    rcases h with h|h|h|h|h
    ·exact a (.inl h)
    ·exact a (.inr (.inl h))
    ·exact a (.inr (.inr (.inl h)))
    ·exact a (.inr (.inr (.inr h)))
    ·exact b h
   rw[Yr e,d,j]
   cases(BN m.fields x.num).2<;>cases kp<;>simp
theorem zd(R:K5){s:Scm}(hs:AA (AC s)≤1048576)(g:GdS s)(n:ByteArray)(v:Val)(d:Nat)(L:d≤16)(q:A6 v)(C:P5 R s d):QI R s (Bg s n).1 v (17-(d:Int))=some (Bv s true d (Bg s n).1 v):=by
 have h:=FH hs
 have hm:(Bg s n).1.fields.length≤1048576:=eb h n
 have y:CX (Bg s n).1.fields (Bg s n).1.fields.length:=g.asc n
 have j:∀f∈(Bg s n).1.fields,GdF s f:=g.fl n
 generalize (Bg s n).1=m at hm y j
 have E:=CS q
 obtain⟨s1,s2,M,z,O⟩:=CS q
 have I:m.fields.length<4611686018427387904:=by omega
 have J:v.slots.length<4611686018427387904:=by omega
 have K:v.raws.length<4611686018427387904:=by omega
 dsimp only[QI,hJ,jW,fk,ju,is,br,vz,vw,lr,lc,clg,Ah,br]
 rw[fD E]
 by_cases c:v.kind≠10∨B0 v=true
 ·have A:Bv s true d m v=12:=by cases d<;>(unfold Bv;rw[Ys c])
  rw[A]
  by_cases b:v.kind=10
  ·have p:B0 v=true:=c.resolve_left fun e=>e b
   simp[b,p]
  ·simp[b]
 ·have b:v.kind=10:=Decidable.not_not.1 fun e=>c (.inl e)
  have p:B0 v=false:=by
   cases h:B0 v with
   |false=>rfl
   |true=>exact absurd (.inr h) c
  cases d with
  |zero=>
   unfold Bv
   rw[Yr c]
   simp[b,p]
  |succ d=>
   have u:¬(16:Int)<17-((d+1:Nat):Int):=by omega
   have F:=Hu (B:=NC s m v (17-((d+1:Nat):Int)) R) (N:=Aj) v.slots (IG (F3 (Bv s true d) s true) m.fields v.slots) id () (fun i x a _=>by
    have e:=ZG7 R (F3 (Bv s true d) s true) s m v.slots i x (17-((d+1:Nat):Int)) y hm z a fun f t=>by
     have:=C d rfl f x.val (j f t) (N3 q (Yu a))
     rw[show 17-((d+1:Nat):Int)=16-(d:Int)by omega]
     exact this
    have k:=B6 a
    have l:i+1<9223372036854775808:=by have:=(Yn.1 a).1;omega
    dsimp only[NC,Sn,br,vw,vs,v2,Au,ln,Ak,cs,wa,br]
    simp only[k,l,e,YE,YJ,Yi]
    by_cases hy:IG (F3 (Bv s true d) s true) m.fields v.slots i x=0<;>simp[hy]) (by dsimp only[NC,Sn,br,vw,vs,v2,Au,ln,Ak,cs,wa,br];simp) (BB (by omega))
   have G:=Hu (B:=NR s m v R) (N:=Aj) m.fields (fun _ f=>Mw v.slots f) id () (fun i f j _=>by
    have k:=B6 j
    have l:i+1<9223372036854775808:=by have:=(Yn.1 j).1;omega
    have e:=ZL5 v.slots f z
    unfold Mw
    dsimp only[NR,Sh,br,ix,vw,vs,Au,ln,Ak,Dt,wa,br]
    simp only[k,l,j,e,YE,YJ,Yi,Dd,Ef,YQ]
    by_cases D:f.card=1<;>cases BK v.slots f.num<;>simp[D]) (by dsimp only[NR,Sh,br,ix,vw,vs,Au,ln,Ak,Dt,wa,br];simp) (BB (by omega))
   have H:=Hu (B:=NH s m v R) (N:=Aj) v.raws (fun _ x=>JK s m.fields x) id () (fun i x a _=>by
    have k:=B6 a
    have l:i+1<9223372036854775808:=by have:=(Yn.1 a).1;omega
    have e:=ZJe hs m x hm (ZOC q (Yu a))
    dsimp only[NH,RV,br,ix,vw,vs,Au,ln,Ak,cl,wa,br]
    simp only[k,l,a,e,YE,YJ,Yi]
    by_cases hy:JK s m.fields x=0<;>simp[hy]) (by dsimp only[NH,RV,br,ix,vw,vs,Au,ln,Ak,cl,wa,br];simp) (BB (by omega))
   unfold Bv
   rw[Yr c]
   simp only[b,p,u,I,J,K,F,G,H,YE,YV,Y5,C2,Io,Yw,Gk,Ef,YQ,YJ,YR,Yi]
   by_cases o:BQ (IG (F3 (Bv s true d) s true) m.fields v.slots) v.slots 0=0
   ·by_cases r:BQ (fun _ f=>Mw v.slots f) m.fields 0=0
    ·by_cases w:BQ (fun _ x=>JK s m.fields x) v.raws 0=0
     ·simp[o,r,w]
     ·simp[o,r,w]
    ·simp[o,r]
   ·simp[o]
theorem y8(R:K5){s:Scm}(hs:AA (AC s)≤1048576)(g:GdS s)(t:Typ)(a:GdT s t)(v:Val)(d:Nat)(j:d≤16)(b:A6 v)(i:P5 R s d):Kp R s t v (16-(d:Int))=some (Cp (Bv s true d) s t v):=by
 have h:=FH hs
 have e:M0 s t.name=some (Bg s t.name):=k9 s _ h.ml
 have hm:=zd R hs g t.name v d j b i
 have w: -9223372036854775808≤17-(d:Int)∧17-(d:Int)<9223372036854775808:=by omega
 have wl:16-(d:Int)+1=17-(d:Int):=by omega
 dsimp only[Kp,fB,br,vw,vs,lr,cl,cs,wi,br]
 by_cases c:t.kind=10
 ·have f:=a.ms c
  unfold Cp
  rw[Ys c,Ys f,e]
  simp only[c,YE,YJ,Yi,w,DP,wl,hm]
 ·rw[gO s t h (CS b),ew (R:=Bv s true d) a.ty.1 (by have:=a.ty.2;omega) a.en]
  simp only[c,YV,Yw,YR,Yi]
theorem ZLE(R:K5){s:Scm}(hs:AA (AC s)≤1048576)(g:GdS s)(f:Fld)(C:GdF s f)(H:f.card=5)(l:List Pr)(hl:l.length≤1048576)(A:∀p∈l,A6 p.key∧A6 p.val)(d:Nat)(J:d≤16)(I:P5 R s d):QK R s f l (16-(d:Int))=some (BQ (JS (Cp (Bv s true d) s f.type) f.key true l) l 0):=by
 have h:=FH hs
 have y:=fun(x:Val) (L:A6 x)=>y8 R hs g f.type C.t x d J L I
 have K:=C.ky H
 have w2:l.length<4611686018427387904:=by omega
 generalize 16-(d:Int)=P at y
 have Q:=Hu (B:=KQ s f l P R) (N:=Aj) l (JS (Cp (Bv s true d) s f.type) f.key true l) id () (fun i p a G=>by
  have v:=B6 a
  have hi:=(Yn.1 a).1
  have w:i+1<9223372036854775808:=by omega
  have F:i≤l.length:=by omega
  have BF:=A p (Yu a)
  have t:=gO s (.mk f.key ⟨#[]⟩) h (CS BF.1)
  have u:JN s (.mk f.key ⟨#[]⟩) p.key=CF f.key p.key:=by
   unfold JN
   rw[Ys (.inr (show f.key≠9 by omega))]
  rw[u]at t
  have D:=y p.val BF.2
  have M:∀q∈l.take i,CF f.key q.key=0:=fun q m=>by
   obtain⟨j,k⟩:=YK.1 m
   rw[YU]at k
   split at k
   ·have:=G j q (by assumption) k
    unfold JS at this
    by_cases c:CF f.key q.key=0
    ·exact c
    ·rw[Ys c]at this
     exact absurd this c
   ·cases k
  unfold JS
  by_cases n:CF f.key p.key=0
  ·have E:I5 (l.take i) (fun z=>MY z p)=some ((l.take i).any fun q=>ME q.key p.key):=wG _ _ _ (fun q m=>by
    have b:=M q m
    have O:=(PN b).1
    have e:=(zW (d:=q.key) (x:=p.key) (by rw[O];omega) (A q (O5 m)).1 BF.1).1
    rw[ZKl K b n]at e
    dsimp only[MY,gQ,vw,lr,cl]
    rw[e]
    rfl) (by rw[YF];omega)
   dsimp only[KQ,NS,br,ix,vw,vs,Au,ln,Ak,cl,cs,wa,sL,br]
   simp only[v,w,F,a,t,D,E,n,Bd.c,Bd.vl,JG,FK,YE,YJ,Yi,DP,DT]
   by_cases o:((l.take i).any fun q=>ME q.key p.key)=true
   ·simp[o]
   ·by_cases r:Cp (Bv s true d) s f.type p.val=0
    ·simp only[o,r]
     simp
    ·simp only[o,r]
     simp[r]
  ·dsimp only[KQ,NS,br,ix,vw,vs,Au,ln,Ak,cl,cs,wa,sL,br]
   simp only[v,w,a,t,YE,YJ,Yi]
   simp[n]) (by dsimp only[KQ,NS,br,ix,vw,vs,Au,ln,Ak,cl,cs,wa,sL,br];simp) (BB (by omega))
 dsimp only[QK,gS,gf,fc,vz,lr,lc,Ah]
 rw[Q]
 by_cases c6:BQ (JS (Cp (Bv s true d) s f.type) f.key true l) l 0=0
 ·simp[c6,w2]
 ·simp[c6,w2]
theorem ZI3(R:K5){s:Scm}(hs:AA (AC s)≤1048576)(g:GdS s)(f:Fld)(o:GdF s f)(v:Val)(d:Nat)(n:d≤16)(k:A6 v)(m:P5 R s d):TJ R s f v (16-(d:Int))=some (F3 (Bv s true d) s true f v):=by
 have h:=FH hs
 have y:=CS k
 obtain⟨s1,s2,C,D,E⟩:=CS k
 have q:v.list.length<4611686018427387904:=by omega
 have l:=fun(x:Val) (b:A6 x)=>y8 R hs g f.type o.t x d n b m
 have hN:=fun u=>ZLE R hs g f o u v.pairs C (fun p w=>HH k w) d n m
 generalize 16-(d:Int)=z at l hN
 have A:=Hu (B:=NM s f v z R) (N:=Aj) v.list (fun _ x=>Cp (Bv s true d) s f.type x) id () (fun i x b _=>by
  have r:=B6 b
  have t:i+1<9223372036854775808:=by have:=(Yn.1 b).1;omega
  have e:=l x (N0 k (Yu b))
  dsimp only[NM,R3,br,ix,vw,vs,v2,Au,ln,Ak,cs,wa,br]
  simp only[r,t,b,e,YE,YJ,Yi]
  by_cases hy:Cp (Bv s true d) s f.type x=0<;>simp[hy]) (by dsimp only[NM,R3,br,ix,vw,vs,v2,Au,ln,Ak,cs,wa,br];simp) (BB (by omega))
 have e0:=l v k
 unfold F3
 dsimp only[TJ,gD,jE,gm,ip,jp,hP,kN,hH,br,vz,vw,lr,lc,clg,cs,Ah,br]
 rw[fD y,A,e0]
 by_cases c:f.card=4
 ·by_cases a:v.kind=11
  ·cases B0 v with
   |true=>simp[c,a]
   |false=>
    by_cases c6:BQ (fun _ x=>Cp (Bv s true d) s f.type x) v.list 0=0
    ·simp[c,a,c6,q]
    ·simp[c,a,c6,q]
  ·simp[c,a]
 ·by_cases j:f.card=5
  ·have hN:=hN j
   by_cases a:v.kind=12
   ·cases B0 v with
    |true=>simp[j,a]
    |false=>simp[j,a,hN]
   ·simp[j,a]
  ·simp[c,j]
theorem x4{s:Scm}(hs:AA (AC s)≤1048576)(g:GdS s):∀(a d:Nat),d<a→d≤16→∀(f:Fld) (v:Val),GdF s f→A6 v→I6 a s f v (16-(d:Int))=some (F3 (Bv s true d) s true f v)
 |0,d,b,_,_,_,_,_=>absurd b (Ih _)
 |a+1,d,b,c,f,v,h,j=>ZI3 (I6 a) hs g f h v d c j fun d' e k x i l=>x4 hs g a d' (by omega) (by omega) k x i l
theorem ZKg{s:Scm}(hs:AA (AC s)≤1048576)(g:GdS s)(n:ByteArray)(v:Val)(b:A6 v):ci s n v=some (ML s true n v):=by
 have h:=FH hs
 have j:M0 s n=some (Bg s n):=k9 s _ h.ml
 have i:=zd (I6 Aj) hs g n v 16 (Yp _) b fun d' e f x l m=>x4 hs g Aj d' (by have:=ZPh;omega) (by omega) f x l m
 rw[show(17:Int)-((16:Nat):Int)=1 by decide]at i
 have k:=mP Aj v (by have o:AA (Ai v)≤1048576:=b;exact BB (by omega)) b
 unfold ML
 dsimp only[ci,jZ,br,vw,lr,cl,br]
 rw[j,Yi,i,k]
 cases(Bg s n).2 with
 |false=>simp
 |true=>
  by_cases c:Bv s true 16 (Bg s n).1 v=0
  ·by_cases d:4096<cnt v
   ·have a:(4096:Int)<cnt v:=by omega
    simp[c,d,a]
   ·have a:¬(4096:Int)<cnt v:=by omega
    simp[c,d,a]
  ·simp[c]
def Fu(s:Scm)(t:Typ)(v:Val):Bool:=if t.kind=10 then decide (ML s true t.name v=0)else decide (Cp (Bv s true 16) s t v=0)
theorem ZD0{s:Scm}(hs:AA (AC s)≤1048576)(g:GdS s)(t:Typ)(v:Val)(d:A6 v):bX s t v=some (Fu s t v):=by
 have h:=FH hs
 have i:I7 t.kind=some (decide (1≤t.kind)&&decide (t.kind≤9)):=rfl
 unfold Fu
 dsimp only[bX,Vj,br,vw,lr,cl,br]
 rw[ZKg hs g t.name v d,i,R5 s _ h.el,gO s t h (CS d)]
 by_cases c:t.kind=10
 ·simp[c]
 ·by_cases a:1≤t.kind∧t.kind≤9
  ·by_cases b:t.kind=9
   ·cases he:(BO s t.name).2 with
    |false=>
     have e:Cp (Bv s true 16) s t v≠0:=by
      unfold Cp
      rw[Yr c,Yr (by omega)]
      split
      ·rename_i h
       rcases h with h|h
       ·exact h
       ·exact absurd b h
      ·decide
     simp[b,he]
     exact fun h=>e h
    |true=>
     rw[ew (R:=Bv s true 16) a.1 a.2 fun _=>he]
     simp[b,he]
   ·rw[ew (R:=Bv s true 16) a.1 a.2 fun e=>absurd e b]
    simp[c,a.1,a.2,b]
  ·have e:Cp (Bv s true 16) s t v=12:=by
    unfold Cp
    rw[Yr c,Ys (by omega)]
   have f:(decide (1≤t.kind)&&decide (t.kind≤9))=false:=by
    rw[Yg,Yb,Yb]
    omega
   rw[e]
   simp[c,f]
theorem x6{α:Type}[Inhabited α]{l:List α}{z:α}{p:α→Bool}{x:α}(b:x∈l)(a:p x=true):(B4 l z p).2=true:=by
 unfold B4
 cases e:l.find? p with
 |none=>exact absurd a (O9.1 e x b)
 |some y=>rfl
theorem ZJ5{s:Scm}(h:∀(i:Nat) (m:Msg),s.messages[i]?=some m→GdM s m)(hs:AA (AC s)≤1048576):GdS s:=by
 refine⟨fun n f a=>?_,fun n=>(RN h hs n).1⟩
 unfold AJ B4 at a
 cases e:s.messages.find? fun m=>decide (m.name=n)with
 |none=>rw[e]at a;cases a
 |some m=>
  rw[e]at a
  obtain⟨i,hi⟩:=YK.1 (Il e)
  obtain⟨j,g⟩:=YK.1 (show f∈m.fields from a)
  obtain⟨_,c,t1,t2,t3⟩:=(h i m hi).df j f g
  refine⟨fun k=>?_,fun k=>?_,t3,c.2⟩
  ·obtain⟨x,b,d⟩:=t1 k
   exact x6 b (Y6 d)
  ·obtain⟨⟨x,b,d⟩,_⟩:=t2 k
   exact x6 b (Y6 d)
end Go.Proofs.YtleccgigifnfgaaGreat
