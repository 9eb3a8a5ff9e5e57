import Derived.Test.YtbcmdieedjamgaaGreatZe25
import Derived.Test.YtbcmdieedjamgaaGreatZe24
import Derived.Test.YtbcmdieedjamgaaGreatZe22
import Derived.Test.YtbcmdieedjamgaaGreatZe00
namespace Go.Proofs.YtbcmdieedjamgaaGreat
set_option linter.all false
open Go Go.Eng
section
variable {α:Type} [Rw α] [Tid α]
def AQ(pf:α→α→Option Int)(cmp:α→α→Int)(l:List α):Prop:=∀x∈l,∀y∈l,pf x y=some (cmp x y)
theorem AQ.perm{pf:α→α→Option Int}{cmp:α→α→Int}{l v:List α}(h:AQ pf cmp l)(p:v.Perm l):AQ pf cmp v:=fun x hx y hy=>h x (p.mem_iff.1 hx) y (p.mem_iff.1 hy)
theorem AQ.atI{pf:α→α→Option Int}{cmp:α→α→Int}{l:List α}(h:AQ pf cmp l){i j:Nat}(hi:i<l.length)(a:j<l.length):pf (l.getD i Rw.z) (l.getD j Rw.z)=some (cmp (l.getD i Rw.z) (l.getD j Rw.z)):=by
 have e:∀k (h:k<l.length),l.getD k Rw.z=l[k]:=fun k h=>by rw[Yg,Ye h,YM]
 rw[e i hi,e j a]
 exact h _ (Gk hi) _ (Gk a)
theorem ZJX(l:List α)(a b:Nat)(pf:α→α→Option Int)(cmp:α→α→Int)(B:AQ pf cmp l)(k:Int)(hl:l.length≤4194304):∀(j:Nat) (v:List α) (N c:Nat),j<N→j<c→j<l.length→v.Perm l→
  ∃p i,EV (Rw.z:α) a cmp c j v=.inl (p,i)∧Ai (Fa l (a:Int) (b:Int) pf k) N ((j:Int),v)=some (.inl i)∧i.Perm l:=by
 intro j
 induction j with
 |zero=>
  intro v N c hN z A d
  have o:=d.length_eq
  obtain⟨N,rfl⟩:∃m,N=m+1:=⟨N-1,by omega⟩
  obtain⟨c,rfl⟩:∃m,c=m+1:=⟨c-1,by omega⟩
  have g:¬(a:Int)<((0:Nat):Int):=by omega
  refine⟨0,v,by rw[EV];simp only[g,YW,Er,cond_false],?_,d⟩
  have e:Fa l (a:Int) (b:Int) pf k (((0:Nat):Int),v)=some (.ex v):=by
   dsimp only[Fa,PQ,br,vz,vs,vg,ln,Af,Hw,wi,AA,ca,Fo,st,BO,fl,br,AA]
   grind
  rw[Ai,e]
 |succ j C=>
  intro v N c hN z A d
  have o:=d.length_eq
  obtain⟨N,rfl⟩:∃m,N=m+1:=⟨N-1,by omega⟩
  obtain⟨c,rfl⟩:∃m,c=m+1:=⟨c-1,by omega⟩
  by_cases g:(a:Int)<((j+1:Nat):Int)
  ·have s:((j+1:Nat):Int)-1=(j:Int):=by omega
   have y: -9223372036854775808≤(j:Int)∧(j:Int)<9223372036854775808:=by omega
   have w:(0:Int)≤((j+1:Nat):Int)∧((j+1:Nat):Int)<(l.length:Int):=by omega
   have x:(0:Int)≤(j:Int)∧(j:Int)<(l.length:Int):=by omega
   have f:j+1<v.length:=by omega
   have h:j<v.length:=by omega
   have q:v[j+1]?=some (v.getD (j+1) Rw.z):=by rw[Yg,Ye f];rfl
   have r:v[j]?=some (v.getD j Rw.z):=by rw[Yg,Ye h];rfl
   have t:j+1-1=j:=rfl
   have u:=(B.perm d).atI f h
   by_cases n:cmp (v.getD (j+1) Rw.z) (v.getD j Rw.z)<0
   ·obtain⟨p,i,D,E,F⟩:=C ((v.set (j+1) (v.getD j Rw.z)).set j (v.getD (j+1) Rw.z)) N c (by omega) (by omega) (by omega) ((Lb v (j+1) j f h).trans d)
    refine⟨p,i,by rw[EV];simp only[g,t,n,Yp,NX,cond_true];exact D,?_,F⟩
    have e:Fa l (a:Int) (b:Int) pf k (((j+1:Nat):Int),v)=some (.nx ((j:Int),(v.set (j+1) (v.getD j Rw.z)).set j (v.getD (j+1) Rw.z))):=by
     dsimp only[Fa,PQ,br,vz,vs,vg,ln,Af,Hw,wi,AA,ca,Fo,st,BO,fl,br,AA]
     simp only[g,s,y,w,x,f,h,q,r,u,n,Yp,forall_const,Cm,NX,Yt,YP,FA,YM,Ya,Oa]
    rw[Ai,e]
    exact E
   ·refine⟨j+1,v,by rw[EV];simp only[g,t,n,Yp,YW,Ka,cond_false],?_,d⟩
    have e:Fa l (a:Int) (b:Int) pf k (((j+1:Nat):Int),v)=some (.ex v):=by
     dsimp only[Fa,PQ,br,vz,vs,vg,ln,Af,Hw,wi,AA,ca,Fo,st,BO,fl,br,AA]
     simp only[g,s,y,w,x,f,h,u,n,Yp,YW,forall_const,Cm,Ka,Yo,Yt,YQ,YP,FA,YM]
    rw[Ai,e]
  ·refine⟨j+1,v,by rw[EV];simp only[g,YW,Er,cond_false],?_,d⟩
   have e:Fa l (a:Int) (b:Int) pf k (((j+1:Nat):Int),v)=some (.ex v):=by
    dsimp only[Fa,PQ,br,vz,vs,vg,ln,Af,Hw,wi,AA,ca,Fo,st,BO,fl,br,AA]
    simp only[g,YW,Yo,NY,Er,Yt,YQ]
   rw[Ai,e]
theorem im(l:List α)(a b:Nat)(pf:α→α→Option Int)(cmp:α→α→Int)(n:AQ pf cmp l)(hl:l.length≤4194304)(o:b≤l.length):∀(d i:Nat) (v:List α) (N c:Nat),b-i≤d→d<N→b-i<c→v.Perm l→
  ∃k e,Gq (Rw.z:α) a b cmp c i v=.inl (k,e)∧(i<4611686018427387904→Ai (HW l (a:Int) (b:Int) pf) N ((i:Int),v)=some (.inl e))∧e.Perm l
 |d,i,v,N,c,u,hN,x,j=>by
  have p:=j.length_eq
  obtain⟨N,rfl⟩:∃m,N=m+1:=⟨N-1,by omega⟩
  obtain⟨c,rfl⟩:∃m,c=m+1:=⟨c-1,by omega⟩
  by_cases g:i<b
  ·obtain⟨d,rfl⟩:∃m,d=m+1:=⟨d-1,by omega⟩
   have f:(i:Int)<(b:Int):=by omega
   obtain⟨y,w,q,z,r⟩:=ZJX l a b pf cmp n (i:Int) hl i v Ah (i+1) (AP (by omega)) (by omega) (by omega) j
   obtain⟨k,e,s,A,t⟩:=im l a b pf cmp n hl o d (i+1) w N c (by omega) (by omega) (by omega) r
   refine⟨k,e,by rw[Gq];simp only[f,Yp,cond_true,q,CE];exact s,fun hi=>?_,t⟩
   have B: -9223372036854775808≤(i:Int)+1∧(i:Int)+1<9223372036854775808:=by omega
   have h:HW l (a:Int) (b:Int) pf ((i:Int),v)=some (.nx ((i:Int)+1,w)):=by
    dsimp only[HW,fM,gK,gR,br,vz,vs,ln,Af,lc,wi,fl,br]
    grind
   rw[Ai,h]
   grind
  ·have f:¬(i:Int)<(b:Int):=by omega
   refine⟨i,v,by rw[Gq];simp only[f,YW,cond_false],fun _=>?_,j⟩
   have h:HW l (a:Int) (b:Int) pf ((i:Int),v)=some (.ex v):=by
    dsimp only[HW,fM,gK,gR,br,vz,vs,ln,Af,lc,wi,fl,br]
    grind
   rw[Ai,h]
theorem xh(l:List α)(a b:Nat)(pf:α→α→Option Int)(cmp:α→α→Int)(d:AQ pf cmp l)(hl:l.length≤4194304)(h:a≤4194304)(c:b≤l.length):Jo l (a:Int) (b:Int) pf=some (Dw Rw.z l a b cmp):=by
 obtain⟨i,k,e,f,j⟩:=im l a b pf cmp d hl c (b-(a+1)) (a+1) l Ah (b-(a+1)+1) (Yf _) (AP (by omega)) (by omega) (.refl _)
 have m: -9223372036854775808≤(a:Int)+1∧(a:Int)+1<9223372036854775808:=by omega
 have g:=f (by omega)
 rw[show((a+1:Nat):Int)=(a:Int)+1 from by omega]at g
 unfold Jo Dw
 rw[e]
 dsimp only[Jo,Zz0,P0,vz,vs,lr,lc,wi,fl]
 grind
theorem Zz5(l:List α)(a b:Nat)(cmp:α→α→Int)(hl:l.length≤4194304)(c:b≤l.length):(Dw (Rw.z:α) l a b cmp).Perm l:=by
 obtain⟨f,g,d,_,e⟩:=im l a b (fun x y=>some (cmp x y)) cmp (fun _ _ _ _=>rfl) hl c (b-(a+1)) (a+1) l (b-(a+1)+1) (b-(a+1)+1) (Yf _) (by omega) (by omega) (.refl _)
 unfold Dw
 rw[d]
 exact e
end
end Go.Proofs.YtbcmdieedjamgaaGreat
namespace Go.Proofs.YtbcmdieedjamgaaGreat
set_option linter.all false
open Go Go.Eng
section
variable {α:Type} [Rw α] [Tid α]
def R8(pf:α→α→Option Int)(cmp:α→α→Int):Prop:=∀(c:Nat) (l:List α) (a m b:Nat),AQ pf cmp l→l.length≤4194304→b-a<c→a<m→m<b→b≤l.length→Db c l (a:Int) (m:Int) (b:Int) pf=some (A1 Rw.z c l a m b cmp)∧(A1 (Rw.z:α) c l a m b cmp).Perm l
section
variable {pf:α→α→Option Int} {cmp:α→α→Int}
theorem qK(l:List α)(k:AQ pf cmp l)(hl:l.length≤4194304):∀(d x y:Nat) (v:List α) (N a:Nat),l.length+1-y≤d→d<N→l.length+1-y<a→x≤l.length→v.Perm l→
  ∃x' i c,G2 (Rw.z:α) l.length cmp a x y v=.inl (x',i,c)∧Ai (Ig l (l.length:Int) pf) N (x,y,v)=some (.inl (x',c))∧c.Perm l∧x'≤l.length
 |d,x,y,v,N,a,r,hN,s,hx,e=>by
  have n:=e.length_eq
  obtain⟨N,rfl⟩:∃m,N=m+1:=⟨N-1,by omega⟩
  obtain⟨a,rfl⟩:∃m,a=m+1:=⟨a-1,by omega⟩
  by_cases g:y≤l.length
  ·obtain⟨d,rfl⟩:∃m,d=m+1:=⟨d-1,by omega⟩
   have f:(y:Int)≤(l.length:Int):=by omega
   have hs:=xh v x y pf cmp (k.perm e) (by omega) (by omega) (by omega)
   have b:=(Zz5 v x y cmp (by omega) (by omega)).trans e
   have j:=b.length_eq
   obtain⟨x',i,c,o,p,q⟩:=qK l k hl d y (y+20) (Dw Rw.z v x y cmp) N a (by omega) (by omega) (by omega) g b
   refine⟨x',i,c,by rw[G2,Yn f,cond_true];exact o,?_,q⟩
   have t:y+20<9223372036854775808:=by omega
   have h:Ig l (l.length:Int) pf (x,y,v)=some (.nx (y,y+20,Dw Rw.z v x y cmp)):=by
    dsimp only[Ig,XE,ZG,XS,Ze,br,vz,vs,v2,ln,Af,lc,wa,fl,br,wm]
    grind
   rw[Ai,h]
   exact p
  ·have f:¬(y:Int)≤(l.length:Int):=by omega
   refine⟨x,y,v,by rw[G2,Yr f,cond_false],?_,e,hx⟩
   have h:Ig l (l.length:Int) pf (x,y,v)=some (.ex (x,v)):=by
    dsimp only[Ig,XE,ZG,XS,Ze,br,vz,vs,v2,ln,Af,lc,wa,fl,br,wm]
    grind
   rw[Ai,h]
theorem wn(n:R8 pf cmp)(l:List α)(o:AQ pf cmp l)(hl:l.length≤4194304)(s:Nat)(i:0<s)(j:s≤l.length):∀(d x y:Nat) (v:List α) (N a:Nat),l.length+1-y≤d→d<N→l.length+1-y<a→x≤l.length→y=x+2*s→v.Perm l→
  ∃x' k b,G3 (Rw.z:α) l.length cmp s a x y v=.inl (x',k,b)∧Ai (Ij l (l.length:Int) pf s) N (x,y,v)=some (.inl (x',b))∧b.Perm l∧x'≤l.length
 |d,x,y,v,N,a,w,hN,z,hx,hy,c=>by
  have p:=c.length_eq
  obtain⟨N,rfl⟩:∃m,N=m+1:=⟨N-1,by omega⟩
  obtain⟨a,rfl⟩:∃m,a=m+1:=⟨a-1,by omega⟩
  by_cases g:y≤l.length
  ·obtain⟨d,rfl⟩:∃m,d=m+1:=⟨d-1,by omega⟩
   have e:(y:Int)≤(l.length:Int):=by omega
   obtain⟨hs,h⟩:=n (y-x+1) v x (x+s) y (o.perm c) (by omega) (by omega) (by omega) (by omega) (by omega)
   obtain⟨x',k,b,q,r,t⟩:=wn n l o hl s i j d y (y+2*s) (A1 Rw.z (y-x+1) v x (x+s) y cmp) N a (by omega) (by omega) (by omega) g rfl (h.trans c)
   refine⟨x',k,b,by rw[G3,Yn e,cond_true];exact q,?_,t⟩
   have A:y+2*s<9223372036854775808:=by omega
   have w2:2*s<9223372036854775808:=by omega
   have B:x+s<9223372036854775808:=by omega
   have u:((y:Int)-(x:Int)+1).toNat=y-x+1:=by omega
   have f:Ij l (l.length:Int) pf s (x,y,v)=some (.nx (y,y+2*s,A1 Rw.z (y-x+1) v x (x+s) y cmp)):=by
    dsimp only[Ij,XB,X1,X9,ZO,br,vz,vs,ln,Af,lc,wa,fl,br,wm]
    grind
   rw[Ai,f]
   exact r
  ·have e:¬(y:Int)≤(l.length:Int):=by omega
   refine⟨x,y,v,by rw[G3,Yr e,cond_false],?_,c,hx⟩
   have f:Ij l (l.length:Int) pf s (x,y,v)=some (.ex (x,v)):=by
    dsimp only[Ij,XB,X1,X9,ZO,br,vz,vs,ln,Af,lc,wa,fl,br,wm]
    grind
   rw[Ai,f]
theorem XJ(h:R8 pf cmp)(l:List α)(i:AQ pf cmp l)(hl:l.length≤4194304):∀(d s:Nat) (v:List α) (N a:Nat),0<s→l.length-s≤d→d<N→l.length-s<a→v.Perm l→
  ∃s' c,FH (Rw.z:α) l.length cmp a s v=.inl (s',c)∧Ai (GC l (l.length:Int) pf) N (s,v)=some (.inl c)∧c.Perm l
 |d,s,v,N,a,n,C,hN,D,o=>by
  have z:=o.length_eq
  obtain⟨N,rfl⟩:∃m,N=m+1:=⟨N-1,by omega⟩
  obtain⟨a,rfl⟩:∃m,a=m+1:=⟨a-1,by omega⟩
  by_cases g:s<l.length
  ·obtain⟨d,rfl⟩:∃m,d=m+1:=⟨d-1,by omega⟩
   have f:(s:Int)<(l.length:Int):=by omega
   obtain⟨x,y,w,t,E,j,F⟩:=wn h l i hl s n (by omega) (l.length+1-2*s) 0 (2*s) v Ah (l.length+1-2*s+1) (Yf _) (AP (by omega)) (by omega) (by omega) (by omega) o
   have A:=j.length_eq
   have G:s*2<9223372036854775808:=by omega
   have w2:2*s<9223372036854775808:=by omega
   have H:x+s<9223372036854775808:=by omega
   by_cases u:x+s<l.length
   ·have b:((x+s:Nat):Int)<(l.length:Int):=by omega
    obtain⟨hs,k⟩:=h (l.length-x+1) w x (x+s) l.length (i.perm j) (by omega) (by omega) (by omega) u (by omega)
    obtain⟨s',c,p,q,r⟩:=XJ h l i hl d (s*2) (A1 Rw.z (l.length-x+1) w x (x+s) l.length cmp) N a (by omega) (by omega) (by omega) (by omega) (k.trans j)
    refine⟨s',c,by rw[FH,Yn f,cond_true,t];simp only[CE,Yn b,cond_true];exact p,?_,r⟩
    have B:((l.length:Int)-(x:Int)+1).toNat=l.length-x+1:=by omega
    have e:GC l (l.length:Int) pf (s,v)=some (.nx (s*2,A1 Rw.z (l.length-x+1) w x (x+s) l.length cmp)):=by
     dsimp only[GC,UF,U9,Us,Vd,U4,UO,Uy,VC,br,vz,vs,ln,Af,lc,wa,fl,br,wm]
     grind
    rw[Ai,e]
    exact q
   ·have b:¬((x+s:Nat):Int)<(l.length:Int):=by omega
    obtain⟨s',c,p,q,r⟩:=XJ h l i hl d (s*2) w N a (by omega) (by omega) (by omega) (by omega) j
    refine⟨s',c,by rw[FH,Yn f,cond_true,t];simp only[CE,Yr b,cond_false];exact p,?_,r⟩
    have e:GC l (l.length:Int) pf (s,v)=some (.nx (s*2,w)):=by
     dsimp only[GC,UF,U9,Us,Vd,U4,UO,Uy,VC,br,vz,vs,ln,Af,lc,wa,fl,br,wm]
     grind
    rw[Ai,e]
    exact q
  ·have f:¬(s:Int)<(l.length:Int):=by omega
   refine⟨s,v,by rw[FH,Yr f,cond_false],?_,o⟩
   have e:GC l (l.length:Int) pf (s,v)=some (.ex v):=by
    dsimp only[GC,UF,U9,Us,Vd,U4,UO,Uy,VC,br,vz,vs,ln,Af,lc,wa,fl,br,wm]
    grind
   rw[Ai,e]
theorem iJ(d:R8 pf cmp)(l:List α)(a:AQ pf cmp l)(hl:l.length≤4194304):FF l pf=some (Gs Rw.z l cmp):=by
 obtain⟨x,y,w,f,g,c,h⟩:=qK l a hl (l.length+1-20) 0 20 l Ah (l.length+1-20+1) (Yf _) (AP (by omega)) (by omega) (by omega) (.refl _)
 have e:=c.length_eq
 have hs:=xh w x l.length pf cmp (a.perm c) (by omega) (by omega) (by omega)
 have b:=(Zz5 w x l.length cmp (by omega) (by omega)).trans c
 obtain⟨s',m,i,j,k⟩:=XJ d l a hl (l.length-20) 20 (Dw Rw.z w x l.length cmp) Ah (l.length-20+1) (by omega) (Yf _) (AP (by omega)) (by omega) b
 unfold FF Gs TM
 rw[f]
 dsimp only[FF,tP,qQ,QK,vz,lr,lc,fl,Bp,Ms,mD,ZzO,lQ,Qb,vz,lr,lc,fl,Ms,wm]
 grind
end
end
theorem ZTX{n:Nat}(h:n<9223372036854775808):IntKind.u64.wrap (n:Int)=(n:Int):=by
 simp only[IntKind.wrap,IntKind.bits,IntKind.signed]
 simp
 omega
theorem vf{n:Nat}(h:n<9223372036854775808):IntKind.i64.wrap (n:Int)=(n:Int):=by
 simp only[IntKind.wrap,IntKind.bits,IntKind.signed]
 simp
 omega
theorem Jd{x y:Nat}(h:x+y<9223372036854775808):IntKind.i64.wrap (Am .u64 (IntKind.u64.wrap ((x:Int)+(y:Int))) 1)=(((x+y)/2:Nat):Int):=by
 rw[show(x:Int)+(y:Int)=((x+y:Nat):Int)from by omega,ZTX h]
 have:Am .u64 ((x+y:Nat):Int) 1=(((x+y)/2:Nat):Int):=by
  unfold Am
  have e:(2:Int)^(min (1:Int).toNat IntKind.u64.bits)=2:=by decide
  rw[e,Int.fdiv_eq_ediv_of_nonneg _ (by decide)]
  omega
 rw[this]
 exact vf (by omega)
section
variable {α:Type} [Rw α] [Tid α]
theorem iq(l:List α)(R:List α→Int→Int→Int→(α→α→Option Int)→Option (List α))(a:Nat)(pf:α→α→Option Int)(cmp:α→α→Int)(o:AQ pf cmp l)(hl:l.length≤4194304)(k:a<l.length):∀(d i j N b:Nat),j-i≤d→d<N→j-i<b→i≤j→j≤l.length→
  ∃c f,EW (Rw.z:α) l a cmp b i j=.inl (c,f)∧Ai (Gx l (a:Int) pf R) N ((i:Int),(j:Int))=some (.inl (c:Int))∧i≤c∧c≤j
 |d,i,j,N,b,A,hN,B,n,C=>by
  obtain⟨N,rfl⟩:∃m,N=m+1:=⟨N-1,by omega⟩
  obtain⟨b,rfl⟩:∃m,b=m+1:=⟨b-1,by omega⟩
  by_cases g:i<j
  ·obtain⟨d,rfl⟩:∃m,d=m+1:=⟨d-1,by omega⟩
   have h:(i:Int)<(j:Int):=by omega
   have t:i≤(i+j)/2:=by omega
   have u:(i+j)/2<j:=by omega
   have v:=Jd (x:=i) (y:=j) (by omega)
   have E: -9223372036854775808≤(i:Int)+(j:Int)∧(i:Int)+(j:Int)<9223372036854775808:=by omega
   have s:(0:Int)≤1:=by decide
   have D:=o.atI (i:=(i+j)/2) (j:=a) (by omega) k
   by_cases r:cmp (l.getD ((i+j)/2) Rw.z) (l.getD a Rw.z)<0
   ·obtain⟨c,f,p,q,w,z⟩:=iq l R a pf cmp o hl k d ((i+j)/2+1) j N b (by omega) (by omega) (by omega) (by omega) (by omega)
    refine⟨c,f,by rw[EW,Yn h,cond_true,Yn r];exact p,?_,by omega,by omega⟩
    have e:Gx l (a:Int) pf R ((i:Int),(j:Int))=some (.nx (((((i+j)/2:Nat):Int)+1),(j:Int))):=by
     dsimp only[Gx,PK,br,vz,vs,v2,ln,Af,cf,wi,AA,ca,fl,br,AA,wk,shr]
     grind
    rw[Ai,e]
    exact q
   ·obtain⟨c,f,p,q,w,z⟩:=iq l R a pf cmp o hl k d i ((i+j)/2) N b (by omega) (by omega) (by omega) (by omega) (by omega)
    refine⟨c,f,by rw[EW,Yn h,cond_true,Yr r];exact p,?_,by omega,by omega⟩
    have e:Gx l (a:Int) pf R ((i:Int),(j:Int))=some (.nx ((i:Int),(((i+j)/2:Nat):Int))):=by
     dsimp only[Gx,PK,br,vz,vs,v2,ln,Af,cf,wi,AA,ca,fl,br,AA,wk,shr]
     grind
    rw[Ai,e]
    exact q
  ·have h:¬(i:Int)<(j:Int):=by omega
   refine⟨i,j,by rw[EW,Yr h,cond_false],?_,Yf _,n⟩
   have e:Gx l (a:Int) pf R ((i:Int),(j:Int))=some (.ex (i:Int)):=by
    dsimp only[Gx,PK,br,vz,vs,v2,ln,Af,cf,wi,AA,ca,fl,br,AA,wk,shr]
    grind
   rw[Ai,e]
theorem fX(l:List α)(R:List α→Int→Int→Int→(α→α→Option Int)→Option (List α))(a:Nat)(pf:α→α→Option Int)(cmp:α→α→Int)(o:AQ pf cmp l)(hl:l.length≤4194304)(k:a<l.length):∀(d i j N b:Nat),j-i≤d→d<N→j-i<b→i≤j→j≤l.length→
  ∃c f,EX (Rw.z:α) l a cmp b i j=.inl (c,f)∧Ai (Gz l (a:Int) pf R) N ((i:Int),(j:Int))=some (.inl (c:Int))∧i≤c∧c≤j
 |d,i,j,N,b,A,hN,B,n,C=>by
  obtain⟨N,rfl⟩:∃m,N=m+1:=⟨N-1,by omega⟩
  obtain⟨b,rfl⟩:∃m,b=m+1:=⟨b-1,by omega⟩
  by_cases g:i<j
  ·obtain⟨d,rfl⟩:∃m,d=m+1:=⟨d-1,by omega⟩
   have h:(i:Int)<(j:Int):=by omega
   have t:i≤(i+j)/2:=by omega
   have u:(i+j)/2<j:=by omega
   have v:=Jd (x:=i) (y:=j) (by omega)
   have E: -9223372036854775808≤(i:Int)+(j:Int)∧(i:Int)+(j:Int)<9223372036854775808:=by omega
   have s:(0:Int)≤1:=by decide
   have D:=o.atI (i:=a) (j:=(i+j)/2) k (by omega)
   by_cases r:cmp (l.getD a Rw.z) (l.getD ((i+j)/2) Rw.z)<0
   ·obtain⟨c,f,p,q,w,z⟩:=fX l R a pf cmp o hl k d i ((i+j)/2) N b (by omega) (by omega) (by omega) (by omega) (by omega)
    refine⟨c,f,by rw[EX,Yn h,cond_true,Yn r];exact p,?_,by omega,by omega⟩
    have e:Gz l (a:Int) pf R ((i:Int),(j:Int))=some (.nx ((i:Int),(((i+j)/2:Nat):Int))):=by
     dsimp only[Gz,P6,br,vz,vs,ln,Af,cf,wi,AA,ca,fl,br,AA,wk,shr]
     grind
    rw[Ai,e]
    exact q
   ·obtain⟨c,f,p,q,w,z⟩:=fX l R a pf cmp o hl k d ((i+j)/2+1) j N b (by omega) (by omega) (by omega) (by omega) (by omega)
    refine⟨c,f,by rw[EX,Yn h,cond_true,Yr r];exact p,?_,by omega,by omega⟩
    have e:Gz l (a:Int) pf R ((i:Int),(j:Int))=some (.nx (((((i+j)/2:Nat):Int)+1),(j:Int))):=by
     dsimp only[Gz,P6,br,vz,vs,ln,Af,cf,wi,AA,ca,fl,br,AA,wk,shr]
     grind
    rw[Ai,e]
    exact q
  ·have h:¬(i:Int)<(j:Int):=by omega
   refine⟨i,j,by rw[EX,Yr h,cond_false],?_,Yf _,n⟩
   have e:Gz l (a:Int) pf R ((i:Int),(j:Int))=some (.ex (i:Int)):=by
    dsimp only[Gz,P6,br,vz,vs,ln,Af,cf,wi,AA,ca,fl,br,AA,wk,shr]
    grind
   rw[Ai,e]
end
section
variable {α:Type} [Rw α] [Tid α]
theorem Zzp(l:List α)(R:List α→Int→Int→Int→(α→α→Option Int)→Option (List α))(pf:α→α→Option Int)(a0:Nat×Nat)(hl:l.length≤4194304)(j:1≤a0.1)(k:a0.1≤l.length):∀(d i:Nat) (v:List α) (N a:Nat),a0.1-1-i≤d→d<N→a0.1-1-i<a→v.Perm l→i≤l.length→
  ∃h b,Gn (Rw.z:α) a0 a i v=.inl (h,b)∧Ai (HV l pf R (a0.1:Int)) N ((i:Int),v)=some (.inl b)∧b.Perm l
 |d,i,v,N,a,w,hN,x,f,hi=>by
  have n:=f.length_eq
  obtain⟨N,rfl⟩:∃m,N=m+1:=⟨N-1,by omega⟩
  obtain⟨a,rfl⟩:∃m,a=m+1:=⟨a-1,by omega⟩
  have u:(a0.1:Int)-1=((a0.1-1:Nat):Int):=by omega
  have C: -9223372036854775808≤((a0.1-1:Nat):Int)∧((a0.1-1:Nat):Int)<9223372036854775808:=by omega
  by_cases g:i<a0.1-1
  ·obtain⟨d,rfl⟩:∃m,d=m+1:=⟨d-1,by omega⟩
   have c:(i:Int)<((a0.1-1:Nat):Int):=by omega
   obtain⟨h,b,q,r,s⟩:=Zzp l R pf a0 hl j k d (i+1) ((v.set i (v.getD (i+1) Rw.z)).set (i+1) (v.getD i Rw.z)) N a (by omega) (by omega) (by omega) ((Lb v i (i+1) (by omega) (by omega)).trans f) (by omega)
   refine⟨h,b,by rw[Gn,Yn c,cond_true];exact q,?_,s⟩
   have t:(i:Int)+1=((i+1:Nat):Int):=by omega
   have B: -9223372036854775808≤((i+1:Nat):Int)∧((i+1:Nat):Int)<9223372036854775808:=by omega
   have y:(0:Int)≤(i:Int)∧(i:Int)<(l.length:Int):=by omega
   have z:(0:Int)≤((i+1:Nat):Int)∧((i+1:Nat):Int)<(l.length:Int):=by omega
   have o:i<v.length:=by omega
   have p:i+1<v.length:=by omega
   have A:v[i]?=some (v.getD i Rw.z):=by rw[Yg,Ye o];rfl
   have v2:v[i+1]?=some (v.getD (i+1) Rw.z):=by rw[Yg,Ye p];rfl
   have e:HV l pf R (a0.1:Int) ((i:Int),v)=some (.nx (((i+1:Nat):Int),(v.set i (v.getD (i+1) Rw.z)).set (i+1) (v.getD i Rw.z))):=by
    dsimp only[HV,UL,br,vz,vs,ln,Af,wi,AA,ca,st,BO,fl,br,AA,wk,shr]
    grind
   rw[Ai,e]
   exact r
  ·have c:¬(i:Int)<((a0.1-1:Nat):Int):=by omega
   refine⟨i,v,by rw[Gn,Yr c,cond_false],?_,f⟩
   have e:HV l pf R (a0.1:Int) ((i:Int),v)=some (.ex v):=by
    dsimp only[HV,UL,br,vz,vs,ln,Af,wi,AA,ca,st,BO,fl,br,AA,wk,shr]
    grind
   rw[Ai,e]
theorem ZIS(l:List α)(R:List α→Int→Int→Int→(α→α→Option Int)→Option (List α))(pf:α→α→Option Int)(b:Nat×Nat)(hl:l.length≤4194304):∀(i:Nat) (v:List α) (N a:Nat),i<N→i<a→v.Perm l→i<l.length→
  ∃h f,FD (Rw.z:α) b a i v=.inl (h,f)∧Ai (GB l pf R (b.1:Int)) N ((i:Int),v)=some (.inl f)∧f.Perm l:=by
 intro i
 induction i with
 |zero=>
  intro v N a hN o d hi
  have g:=d.length_eq
  obtain⟨N,rfl⟩:∃m,N=m+1:=⟨N-1,by omega⟩
  obtain⟨a,rfl⟩:∃m,a=m+1:=⟨a-1,by omega⟩
  have c:¬(b.1:Int)<((0:Nat):Int):=by omega
  refine⟨0,v,by rw[FD,Yr c,cond_false],?_,d⟩
  have e:GB l pf R (b.1:Int) (((0:Nat):Int),v)=some (.ex v):=by
   dsimp only[GB,PM,br,vz,vs,ln,Af,wi,AA,ca,st,BO,fl,br,AA,wk,shr]
   grind
  rw[Ai,e]
 |succ i p=>
  intro v N a hN o d hi
  have g:=d.length_eq
  obtain⟨N,rfl⟩:∃m,N=m+1:=⟨N-1,by omega⟩
  obtain⟨a,rfl⟩:∃m,a=m+1:=⟨a-1,by omega⟩
  by_cases c:(b.1:Int)<((i+1:Nat):Int)
  ·obtain⟨h,f,q,r,s⟩:=p ((v.set (i+1) (v.getD i Rw.z)).set i (v.getD (i+1) Rw.z)) N a (by omega) (by omega) ((Lb v (i+1) i (by omega) (by omega)).trans d) (by omega)
   refine⟨h,f,by rw[FD,Yn c,cond_true];exact q,?_,s⟩
   have n:((i+1:Nat):Int)-1=(i:Int):=by omega
   have x: -9223372036854775808≤(i:Int)∧(i:Int)<9223372036854775808:=by omega
   have t:(0:Int)≤(i:Int)∧(i:Int)<(l.length:Int):=by omega
   have u:(0:Int)≤((i+1:Nat):Int)∧((i+1:Nat):Int)<(l.length:Int):=by omega
   have j:i<v.length:=by omega
   have k:i+1<v.length:=by omega
   have w:v[i]?=some (v.getD i Rw.z):=by rw[Yg,Ye j];rfl
   have v2:v[i+1]?=some (v.getD (i+1) Rw.z):=by rw[Yg,Ye k];rfl
   have e:GB l pf R (b.1:Int) (((i+1:Nat):Int),v)=some (.nx ((i:Int),(v.set (i+1) (v.getD i Rw.z)).set i (v.getD (i+1) Rw.z))):=by
    dsimp only[GB,PM,br,vz,vs,ln,Af,wi,AA,ca,st,BO,fl,br,AA,wk,shr]
    simp only[c,n,x,t,u,j,k,w,v2,Yp,Yt,Cm,YP,Ya,Oa]
   rw[Ai,e]
   exact r
  ·refine⟨i+1,v,by rw[FD,Yr c,cond_false],?_,d⟩
   have e:GB l pf R (b.1:Int) (((i+1:Nat):Int),v)=some (.ex v):=by
    dsimp only[GB,PM,br,vz,vs,ln,Af,wi,AA,ca,st,BO,fl,br,AA,wk,shr]
    simp only[c,YW,Yo,YQ]
   rw[Ai,e]
end
section
variable {α:Type} [Rw α] [Tid α]
theorem eZ(l:List α)(R:List α→Int→Int→Int→(α→α→Option Int)→Option (List α))(a m b:Nat)(pf:α→α→Option Int)(cmp:α→α→Int)(q:AQ pf cmp l)(hl:l.length≤4194304)(t:a<m)(u:m<b)(v:b≤l.length):∀(d i j N c:Nat),j-i≤d→d<N→j-i<c→i≤j→j≤(a+b)/2+m∧j≤l.length→(a+b)/2+m≤l.length+i→
  ∃e h,FE (Rw.z:α) l a m b cmp c i j=.inl (e,h)∧Ai (Dm l (a:Int) (m:Int) (b:Int) pf R) N ((i:Int),(j:Int))=some (.inl (e:Int))∧i≤e∧e≤j
 |d,i,j,N,c,E,hN,F,p,G,hi=>by
  obtain⟨N,rfl⟩:∃m,N=m+1:=⟨N-1,by omega⟩
  obtain⟨c,rfl⟩:∃m,c=m+1:=⟨c-1,by omega⟩
  by_cases g:i<j
  ·obtain⟨d,rfl⟩:∃m,d=m+1:=⟨d-1,by omega⟩
   have o:(i:Int)<(j:Int):=by omega
   have A:i≤(i+j)/2:=by omega
   have B:(i+j)/2<j:=by omega
   have n:=Jd (x:=i) (y:=j) (by omega)
   have k:=Jd (x:=a) (y:=b) (by omega)
   have e0:(((a+b)/2:Nat):Int)+(m:Int)-1=(((a+b)/2+m-1:Nat):Int):=by omega
   have I: -9223372036854775808≤(i:Int)+(j:Int)∧(i:Int)+(j:Int)<9223372036854775808:=by omega
   have z:(0:Int)≤1:=by decide
   have H:=q.atI (i:=(a+b)/2+m-1-(i+j)/2) (j:=(i+j)/2) (by omega) (by omega)
   by_cases w:cmp (l.getD ((a+b)/2+m-1-(i+j)/2) Rw.z) (l.getD ((i+j)/2) Rw.z)<0
   ·obtain⟨e,h,r,s,C,D⟩:=eZ l R a m b pf cmp q hl t u v d i ((i+j)/2) N c (by omega) (by omega) (by omega) (by omega) (by omega) (by omega)
    refine⟨e,h,by rw[FE,Yn o,cond_true,Yn w];exact r,?_,by omega,by omega⟩
    have f:Dm l (a:Int) (m:Int) (b:Int) pf R ((i:Int),(j:Int))=some (.nx ((i:Int),(((i+j)/2:Nat):Int))):=by
     dsimp only[Dm,Jz,br,vz,vs,ln,Af,cf,wi,AA,ca,fl,br,AA,wk,shr]
     rw[n,k,e0]
     grind
    rw[Ai,f]
    exact s
   ·obtain⟨e,h,r,s,C,D⟩:=eZ l R a m b pf cmp q hl t u v d ((i+j)/2+1) j N c (by omega) (by omega) (by omega) (by omega) (by omega) (by omega)
    refine⟨e,h,by rw[FE,Yn o,cond_true,Yr w];exact r,?_,by omega,by omega⟩
    have f:Dm l (a:Int) (m:Int) (b:Int) pf R ((i:Int),(j:Int))=some (.nx (((((i+j)/2:Nat):Int)+1),(j:Int))):=by
     dsimp only[Dm,Jz,br,vz,vs,ln,Af,cf,wi,AA,ca,fl,br,AA,wk,shr]
     rw[n,k,e0]
     grind
    rw[Ai,f]
    exact s
  ·have o:¬(i:Int)<(j:Int):=by omega
   refine⟨i,j,by rw[FE,Yr o,cond_false],?_,Yf _,p⟩
   have f:Dm l (a:Int) (m:Int) (b:Int) pf R ((i:Int),(j:Int))=some (.ex (i:Int)):=by
    dsimp only[Dm,Jz,br,vz,vs,ln,Af,cf,wi,AA,ca,fl,br,AA,wk,shr]
    grind
   rw[Ai,f]
theorem fa(l:List α)(R:List α→Int→Int→Int→(α→α→Option Int)→Option (List α))(a m b:Nat)(pf:α→α→Option Int)(cmp:α→α→Int)(q:AQ pf cmp l)(hl:l.length≤4194304)(t:a<m)(u:m<b)(v:b≤l.length):∀(d i j N c:Nat),j-i≤d→d<N→j-i<c→i≤j→j≤(a+b)/2+m∧j≤l.length→(a+b)/2+m≤l.length+i→
  ∃e h,FC (Rw.z:α) l a m b cmp c i j=.inl (e,h)∧Ai (Dm l (a:Int) (m:Int) (b:Int) pf R) N ((i:Int),(j:Int))=some (.inl (e:Int))∧i≤e∧e≤j
 |d,i,j,N,c,E,hN,F,p,G,hi=>by
  obtain⟨N,rfl⟩:∃m,N=m+1:=⟨N-1,by omega⟩
  obtain⟨c,rfl⟩:∃m,c=m+1:=⟨c-1,by omega⟩
  by_cases g:i<j
  ·obtain⟨d,rfl⟩:∃m,d=m+1:=⟨d-1,by omega⟩
   have o:(i:Int)<(j:Int):=by omega
   have A:i≤(i+j)/2:=by omega
   have B:(i+j)/2<j:=by omega
   have n:=Jd (x:=i) (y:=j) (by omega)
   have k:=Jd (x:=a) (y:=b) (by omega)
   have e0:(((a+b)/2:Nat):Int)+(m:Int)-1=(((a+b)/2+m-1:Nat):Int):=by omega
   have I: -9223372036854775808≤(i:Int)+(j:Int)∧(i:Int)+(j:Int)<9223372036854775808:=by omega
   have z:(0:Int)≤1:=by decide
   have H:=q.atI (i:=(a+b)/2+m-1-(i+j)/2) (j:=(i+j)/2) (by omega) (by omega)
   by_cases w:cmp (l.getD ((a+b)/2+m-1-(i+j)/2) Rw.z) (l.getD ((i+j)/2) Rw.z)<0
   ·obtain⟨e,h,r,s,C,D⟩:=fa l R a m b pf cmp q hl t u v d i ((i+j)/2) N c (by omega) (by omega) (by omega) (by omega) (by omega) (by omega)
    refine⟨e,h,by rw[FC,Yn o,cond_true,Yn w];exact r,?_,by omega,by omega⟩
    have f:Dm l (a:Int) (m:Int) (b:Int) pf R ((i:Int),(j:Int))=some (.nx ((i:Int),(((i+j)/2:Nat):Int))):=by
     dsimp only[Dm,Jz,br,vz,vs,ln,Af,cf,wi,AA,ca,fl,br,AA,wk,shr]
     rw[n,k,e0]
     grind
    rw[Ai,f]
    exact s
   ·obtain⟨e,h,r,s,C,D⟩:=fa l R a m b pf cmp q hl t u v d ((i+j)/2+1) j N c (by omega) (by omega) (by omega) (by omega) (by omega) (by omega)
    refine⟨e,h,by rw[FC,Yn o,cond_true,Yr w];exact r,?_,by omega,by omega⟩
    have f:Dm l (a:Int) (m:Int) (b:Int) pf R ((i:Int),(j:Int))=some (.nx (((((i+j)/2:Nat):Int)+1),(j:Int))):=by
     dsimp only[Dm,Jz,br,vz,vs,ln,Af,cf,wi,AA,ca,fl,br,AA,wk,shr]
     rw[n,k,e0]
     grind
    rw[Ai,f]
    exact s
  ·have o:¬(i:Int)<(j:Int):=by omega
   refine⟨i,j,by rw[FC,Yr o,cond_false],?_,Yf _,p⟩
   have f:Dm l (a:Int) (m:Int) (b:Int) pf R ((i:Int),(j:Int))=some (.ex (i:Int)):=by
    dsimp only[Dm,Jz,br,vz,vs,ln,Af,cf,wi,AA,ca,fl,br,AA,wk,shr]
    grind
   rw[Ai,f]
end
theorem wv{α:Type}(z:α)(c:Nat)(l:List α)(a m b:Nat)(cf:α→α→Int)(s:Nat):
  (cond ((decide (((s:Nat):Int)<((m:Nat):Int))&&decide (((m:Nat):Int)<(((((a+b)/2)+m)-s:Nat):Int)))) (cond ((decide (((a:Nat):Int)<((s:Nat):Int))&&decide (((s:Nat):Int)<(((a+b)/2:Nat):Int)))) (cond ((decide ((((a+b)/2:Nat):Int)<(((((a+b)/2)+m)-s:Nat):Int))&&decide ((((((a+b)/2)+m)-s:Nat):Int)<((b:Nat):Int)))) ((A1 z c (A1 z c (B9 z l s m ((((a+b)/2)+m)-s) cf) a s ((a+b)/2) cf) ((a+b)/2) ((((a+b)/2)+m)-s) b cf)) ((A1 z c (B9 z l s m ((((a+b)/2)+m)-s) cf) a s ((a+b)/2) cf))) (cond ((decide ((((a+b)/2:Nat):Int)<(((((a+b)/2)+m)-s:Nat):Int))&&decide ((((((a+b)/2)+m)-s:Nat):Int)<((b:Nat):Int)))) ((A1 z c (B9 z l s m ((((a+b)/2)+m)-s) cf) ((a+b)/2) ((((a+b)/2)+m)-s) b cf)) ((B9 z l s m ((((a+b)/2)+m)-s) cf)))) (cond ((decide (((a:Nat):Int)<((s:Nat):Int))&&decide (((s:Nat):Int)<(((a+b)/2:Nat):Int)))) (cond ((decide ((((a+b)/2:Nat):Int)<(((((a+b)/2)+m)-s:Nat):Int))&&decide ((((((a+b)/2)+m)-s:Nat):Int)<((b:Nat):Int)))) ((A1 z c (A1 z c l a s ((a+b)/2) cf) ((a+b)/2) ((((a+b)/2)+m)-s) b cf)) ((A1 z c l a s ((a+b)/2) cf))) (cond ((decide ((((a+b)/2:Nat):Int)<(((((a+b)/2)+m)-s:Nat):Int))&&decide ((((((a+b)/2)+m)-s:Nat):Int)<((b:Nat):Int)))) ((A1 z c l ((a+b)/2) ((((a+b)/2)+m)-s) b cf)) (l))))=FR z c l a m b cf s:=by
 unfold FR
 grind
section
variable {α:Type} [Rw α] [Tid α]
theorem l6(R:List α→Int→Int→Int→(α→α→Option Int)→Option (List α))(pf:α→α→Option Int)(cmp:α→α→Int)(n:Nat)
  (p:∀(l:List α) (a m b:Nat),AQ pf cmp l→l.length≤4194304→b-a<n→a<m→m<b→b≤l.length→R l (a:Int) (m:Int) (b:Int) pf=some (A1 Rw.z n l a m b cmp)∧(A1 (Rw.z:α) n l a m b cmp).Perm l)
  (l:List α) (o:AQ pf cmp l) (a m b s:Nat) (hl:l.length≤4194304) (J:b-a<n+1) (D:a<m) (E:m<b) (F:b≤l.length) (G:4≤b-a) (H:s≤(a+b)/2) (I:(a+b)/2+m≤b+s):
  (fd l (a:Int) (m:Int) (b:Int) pf R (s:Int)).m=some (FR (Rw.z:α) n l a m b cmp s)∧(FR (Rw.z:α) n l a m b cmp s).Perm l:=by
 have u:=Jd (x:=a) (y:=b) (by omega)
 have v:(((a+b)/2:Nat):Int)+(m:Int)-(s:Int)=(((a+b)/2+m-s:Nat):Int):=by omega
 have w: -9223372036854775808≤(((a+b)/2+m-s:Nat):Int)∧(((a+b)/2+m-s:Nat):Int)<9223372036854775808:=by omega
 have A:a<(a+b)/2:=by omega
 have B:(a+b)/2<b:=by omega
 unfold FR
 dsimp only[PK,UL,fw,fG,ii,P6,PM,fQ,fV,fi,Jz,PG,ZuT,Zs4,Zs3,Zsq,Ztt,Zru,Pz,ZrK,Zra,ZuP,ZsW,ZrN,Zrz,Zun,ZtQ,Py,Zuk,ZtT,ZrY,Zum,ZuI,Zua,PJ,ZtH,Zt1,ZtN,ZrW,Zs8,ZsG,ZsF,Zq7,fd,Jt,K8,Uf,Pu,Pw,K9,br,vz,vg,vs,v2,wi,wk,shr,AA,ca,Fo,cf,Hw,lc,ln,lf,Af,fl,st,BO,lr,wg]
 simp only[u,v]
 generalize (a+b)/2=h at*
 generalize h+m-s=e at*
 simp only[w,Cm,Yt]
 have C:e≤b:=by omega
 by_cases c:s<m∧m<e<;>by_cases g:a<s∧s<h<;>by_cases i:h<e∧e<b
 ·
   have q:=RR l s m e cmp hl c.1 c.2 (by omega)
   have f:=(Pv (z:=(Rw.z:α)) l s m e cmp c.1 c.2 (by omega)).2.1
   have k:=f.length_eq
   obtain⟨r,d⟩:=p (B9 (Rw.z:α) l s m e cmp) a s h (o.perm f) (by omega) (by omega) g.1 g.2 (by omega)
   obtain⟨t,j⟩:=p (A1 (Rw.z:α) n (B9 (Rw.z:α) l s m e cmp) a s h cmp) h e b (o.perm (d.trans f)) (by have:=d.length_eq;omega) (by omega) i.1 i.2 (by have:=d.length_eq;omega)
   simp only[D9 c,D9 g,D9 i,q,k,r,d.length_eq,t,j.length_eq,Yt,Ya,cond_true]
   first|exact⟨trivial,j.trans (d.trans f)⟩|exact⟨rfl,j.trans (d.trans f)⟩
 ·
   have q:=RR l s m e cmp hl c.1 c.2 (by omega)
   have f:=(Pv (z:=(Rw.z:α)) l s m e cmp c.1 c.2 (by omega)).2.1
   have k:=f.length_eq
   obtain⟨r,d⟩:=p (B9 (Rw.z:α) l s m e cmp) a s h (o.perm f) (by omega) (by omega) g.1 g.2 (by omega)
   simp only[D9 c,D9 g,D8 i,q,k,r,d.length_eq,Yo,Yt,YQ,Ya,cond_true,cond_false]
   first|exact⟨trivial,d.trans f⟩|exact⟨rfl,d.trans f⟩
 ·
   have q:=RR l s m e cmp hl c.1 c.2 (by omega)
   have f:=(Pv (z:=(Rw.z:α)) l s m e cmp c.1 c.2 (by omega)).2.1
   have k:=f.length_eq
   obtain⟨t,j⟩:=p (B9 (Rw.z:α) l s m e cmp) h e b (o.perm f) (by omega) (by omega) i.1 i.2 (by omega)
   simp only[D9 c,D8 g,D9 i,q,k,t,j.length_eq,Yo,Yt,YQ,Ya,cond_true,cond_false]
   first|exact⟨trivial,j.trans f⟩|exact⟨rfl,j.trans f⟩
 ·
   have q:=RR l s m e cmp hl c.1 c.2 (by omega)
   have f:=(Pv (z:=(Rw.z:α)) l s m e cmp c.1 c.2 (by omega)).2.1
   have k:=f.length_eq
   simp only[D9 c,D8 g,D8 i,q,k,Yo,Yt,YQ,Ya,cond_true,cond_false]
   first|exact⟨trivial,f⟩|exact⟨rfl,f⟩
 ·
   obtain⟨r,d⟩:=p l a s h o (by omega) (by omega) g.1 g.2 (by omega)
   obtain⟨t,j⟩:=p (A1 (Rw.z:α) n l a s h cmp) h e b (o.perm d) (by have:=d.length_eq;omega) (by omega) i.1 i.2 (by have:=d.length_eq;omega)
   simp only[D8 c,D9 g,D9 i,r,d.length_eq,t,j.length_eq,Yo,Yt,YQ,Ya,cond_true,cond_false]
   first|exact⟨trivial,j.trans d⟩|exact⟨rfl,j.trans d⟩
 ·
   obtain⟨r,d⟩:=p l a s h o (by omega) (by omega) g.1 g.2 (by omega)
   simp only[D8 c,D9 g,D8 i,r,d.length_eq,Yo,Yt,YQ,Ya,cond_true,cond_false]
   first|exact⟨trivial,d⟩|exact⟨rfl,d⟩
 ·
   obtain⟨t,j⟩:=p l h e b o (by omega) (by omega) i.1 i.2 (by omega)
   simp only[D8 c,D8 g,D9 i,t,j.length_eq,Yo,Yt,YQ,Ya,cond_true,cond_false]
   first|exact⟨trivial,j⟩|exact⟨rfl,j⟩
 simp only[D8 c,D8 g,D8 i,Yo,YQ,cond_false]
 first|exact⟨trivial,.refl _⟩|exact⟨rfl,.refl _⟩
theorem gv{pf:α→α→Option Int}{cmp:α→α→Int}:R8 pf cmp:=by
 intro c
 induction c with
 |zero=>intro l a m b _ _ h;omega
 |succ c w=>
  intro l a m b d hl t f g e
  rw[A1]
  show(K9 l (a:Int) (m:Int) (b:Int) pf (Db c)).m=_∧_
  have wa: -9223372036854775808≤((m-a:Nat):Int)∧((m-a:Nat):Int)<9223372036854775808:=by omega
  have P: -9223372036854775808≤((b-m:Nat):Int)∧((b-m:Nat):Int)<9223372036854775808:=by omega
  have H:(m:Int)-(a:Int)=((m-a:Nat):Int):=by omega
  have I:(b:Int)-(m:Int)=((b-m:Nat):Int):=by omega
  by_cases J:m-a=1
  ·have k:((m-a:Nat):Int)=1:=by omega
   obtain⟨i,j,p,q,r,s⟩:=iq l (Db c) a pf cmp d hl (by omega) (b-m) m b Ah (b-m+1) (Yf _) (AP (by omega)) (YO _) (by omega) e
   obtain⟨z,v,B,C,D⟩:=Zzp l (Db c) pf (i,j) hl (show 1≤i by omega) (show i≤l.length by omega) (i-1-a) a l Ah (i-a+1) (Yf _) (AP (by omega)) (by dsimp only;omega) (.refl _) (by omega)
   dsimp only[K9,ii,fG,fw,br,vz,vg,vs,v2,wi,wk,shr,AA,ca,Fo,cf,Hw,lc,ln,lf,Af,fl,st,BO,lr,wg]
   grind
  ·have k:¬((m-a:Nat):Int)=1:=by omega
   by_cases K:b-m=1
   ·have n:((b-m:Nat):Int)=1:=by omega
    obtain⟨i,j,p,q,r,s⟩:=fX l (Db c) m pf cmp d hl (by omega) (m-a) a m Ah (m-a+1) (Yf _) (AP (by omega)) (YO _) (by omega) (by omega)
    obtain⟨z,v,B,C,D⟩:=ZIS l (Db c) pf (i,j) hl m l Ah (m+1) (AP (by omega)) (YO _) (.refl _) (by omega)
    dsimp only[K9,Pw,Pu,fi,fV,fQ,br,vz,vg,vs,v2,wi,wk,shr,AA,ca,Fo,cf,Hw,lc,ln,lf,Af,fl,st,BO,lr,wg]
    grind
   ·have n:¬((b-m:Nat):Int)=1:=by omega
    have A:=Jd (x:=a) (y:=b) (by omega)
    have M: -9223372036854775808≤(a:Int)+(b:Int)∧(a:Int)+(b:Int)<9223372036854775808:=by omega
    have F:(((a+b)/2:Nat):Int)+(m:Int)=(((a+b)/2+m:Nat):Int):=by omega
    have w2: -9223372036854775808≤(((a+b)/2+m:Nat):Int)∧(((a+b)/2+m:Nat):Int)<9223372036854775808:=by omega
    have N: -9223372036854775808≤(((a+b)/2+m:Nat):Int)-1∧(((a+b)/2+m:Nat):Int)-1<9223372036854775808:=by omega
    have u:(0:Int)≤1:=by decide
    by_cases L:(a+b)/2<m
    ·have o:(((a+b)/2:Nat):Int)<(m:Int):=by omega
     have G:(((a+b)/2+m:Nat):Int)-(b:Int)=(((a+b)/2+m-b:Nat):Int):=by omega
     have O: -9223372036854775808≤(((a+b)/2+m-b:Nat):Int)∧(((a+b)/2+m-b:Nat):Int)<9223372036854775808:=by omega
     obtain⟨i,j,p,q,r,s⟩:=eZ l (Db c) a m b pf cmp d hl f g e ((a+b)/2-((a+b)/2+m-b)) ((a+b)/2+m-b) ((a+b)/2) Ah ((a+b)/2-((a+b)/2+m-b)+1) (Yf _) (AP (by omega)) (YO _) (by omega) (by omega) (by omega)
     obtain⟨t1,t2⟩:=l6 (Db c) pf cmp c w l d a m b i hl t f g e (by omega) (by omega) (by omega)
     have E:=wv (Rw.z:α) c l a m b cmp i
     dsimp only[K9,Pw,Pu,Uf,K8,Jt,br,vz,vg,vs,v2,wi,wk,shr,AA,ca,Fo,cf,Hw,lc,ln,lf,Af,fl,st,BO,lr,wg]
     grind
    ·have o:¬(((a+b)/2:Nat):Int)<(m:Int):=by omega
     obtain⟨i,j,p,q,r,s⟩:=fa l (Db c) a m b pf cmp d hl f g e (m-a) a m Ah (m-a+1) (Yf _) (AP (by omega)) (YO _) (by omega) (by omega) (by omega)
     obtain⟨t1,t2⟩:=l6 (Db c) pf cmp c w l d a m b i hl t f g e (by omega) (by omega) (by omega)
     have E:=wv (Rw.z:α) c l a m b cmp i
     dsimp only[K9,Pw,Pu,Uf,K8,Jt,br,vz,vg,vs,v2,wi,wk,shr,AA,ca,Fo,cf,Hw,lc,ln,lf,Af,fl,st,BO,lr,wg]
     grind
end
theorem xn:yu=some true:=by kernel_rfl
def IN(x y:Slt):Int:=BJ x.num y.num
theorem ZTs(x y:Slt):Mw x y=some (IN x y):=by
 dsimp only[Mw,u0,wg,lr,cl]
 rw[SI]
 rfl
theorem MO{α:Type}(k:α→Int):CmpLaw fun x y:α=>BJ (k x) (k y):=by
 constructor<;>(intros;unfold BJ at*;grind)
theorem ZH0(l:List Slt)(hl:l.length≤4194304):FF l (fun z0 a=>Mw z0 a)=some (C1 IN l):=by
 have h:=iJ gv l (fun x _ y _=>ZTs x y) hl
 rw[dC (show CmpLaw IN from MO Slt.num) l]at h
 exact h
def GM(x y:Raw):Int:=BJ x.num y.num
theorem ZTS(x y:Raw):Mz x y=some (GM x y):=by
 dsimp only[Mz,tc,wg,lr,cl]
 rw[SI]
 rfl
theorem ZH5(l:List Raw)(hl:l.length≤4194304):FF l (fun z0 a=>Mz z0 a)=some (C1 GM l):=by
 have h:=iJ gv l (fun x _ y _=>ZTS x y) hl
 rw[dC (show CmpLaw GM from MO Raw.num) l]at h
 exact h
theorem ws(l:List Fld)(f:Fld→Option Bool)(p:Fld→Bool)(d:∀x∈l,f x=some (p x))(h:l.length≤1048576):SV l f=some (l.any p):=by
 have e:=Et (B:=PW l f) (N:=Ah) l p (fun i=>(i:Int)) () (fun i x hx=>by
  have a:=Bs hx
  have g:=(Yb.1 hx).1
  have b:i+1<9223372036854775808:=by omega
  have c:=d x (Yj hx)
  dsimp only[PW,gb,br,ix,vs,At,ln,Af,cf,wa,br]
  simp only[a,b,c,hx,Yp,Yt,Ya]
  cases p x<;>simp) (by simp[PW,gb,br,ix,vs,At,ln,Af,cf,wa,br]) (AP (by omega))
 dsimp only[SV,rl,lr,cs,dg,kf,nd,Zzz,vz,lr,lc,Aj]
 rw[e,←NS]
 cases l.findIdx? p with
 |none=>rfl
 |some i=>simp
theorem ZKt(g f:Fld)(v:Val)(h:v.slots.length≤4194304):O6 g f v=some (!decide (g.num=f.num)&&BM v.slots g.num):=by
 dsimp only[O6,oy,wg,lr,AH]
 rw[n19 v g.num (by omega)]
 cases decide (g.num=f.num)<;>simp
theorem ZNF(m:Msg)(f:Fld)(v:Val)(hm:m.fields.length≤1048576)(h:v.slots.length≤4194304):dt m f v=some (Cs m.fields f v.slots):=by
 dsimp only[dt,tJ,wg,lr,cl,cs]
 unfold Cs
 by_cases c:f.union=⟨#[]⟩
 ·rw[c,ZXx,Ya,ws [] _ (fun _=>false) (fun x hx=>by cases hx) (by simp)]
  simp
 ·rw[m29 m f.union hm c,Ya,ws _ _ (fun g=>!decide (g.num=f.num)&&BM v.slots g.num) (fun g _=>ZKt g f v h) (D7 (LS _ _) hm)]
  rw[List.any_filter]
  simp[c,Bool.and_assoc]
theorem ZTJ(m:Msg)(a:List Slt)(b:Val)(hm:m.fields.length≤1048576)(d:a.length≤1048576)(c:b.slots.length≤4194304):OX a (fun z0=>O7 z0 m b)=some (a.filter fun x=>!Cs m.fields (AW m.fields x.num) b.slots):=
 n41 a _ (fun x=>Cs m.fields (AW m.fields x.num) b.slots) (fun x _=>by
  dsimp only[O7,ri,wg,lr,cl]
  rw[n43 m x.num hm,Ya,show(Bo m.fields x.num).1=AW m.fields x.num from rfl,ZNF m _ b hm c]
  rfl) (by omega)
theorem ZJc(x y:List Val)(hx:x.length≤1048576)(hy:y.length≤1048576):S8 [x,y]=some (x++y):=by
 have e:(Ah:Nat)=(Ah-3)+1+1+1:=by have:=AP (n:=10) (by omega);omega
 have f:Ai (Il [x,y]) Ah (0,0)=some (.inl (x.length+y.length)):=by
  have d:x.length<9223372036854775808:=by omega
  have w2:x.length+y.length<9223372036854775808:=by omega
  have i:¬((x.length:Nat):Int)<0:=by omega
  have j:¬((x.length+y.length:Nat):Int)<0:=by omega
  have a:Il [x,y] (0,0)=some (.nx (x.length,1)):=by dsimp only[Il,Vz,br,ix,vz,vs,v2,ln,Af,wa,dd,Aj,br];simp[d]
  have b:Il [x,y] (x.length,1)=some (.nx (x.length+y.length,2)):=by dsimp only[Il,Vz,br,ix,vz,vs,v2,ln,Af,wa,dd,Aj,br];simp[w2];omega
  have c:Il [x,y] (x.length+y.length,2)=some (.ex (x.length+y.length)):=by dsimp only[Il,Vz,br,ix,vz,vs,v2,ln,Af,wa,dd,Aj,br];simp
  rw[e,Ai,a]
  dsimp only
  rw[Ai,b]
  dsimp only
  rw[Ai,c]
 have h:Ai (Ic [x,y]) Ah ([],0)=some (.inl (x++y)):=by
  have d:x.length<549755813888:=by omega
  have w2:x.length+y.length<549755813888:=by omega
  have a:Ic [x,y] ([],0)=some (.nx (x,1)):=by dsimp only[Ic,VJ,br,ix,vz,vs,ln,Af,aq,wa,fl,br];simp[d]
  have b:Ic [x,y] (x,1)=some (.nx (x++y,2)):=by dsimp only[Ic,VJ,br,ix,vz,vs,ln,Af,aq,wa,fl,br];simp[w2]
  have c:Ic [x,y] (x++y,2)=some (.ex (x++y)):=by dsimp only[Ic,VJ,br,ix,vz,vs,ln,Af,aq,wa,fl,br];simp
  rw[e,Ai,a]
  dsimp only
  rw[Ai,b]
  dsimp only
  rw[Ai,c]
 have g:x.length+y.length<549755813888:=by omega
 dsimp only[S8,ox,ua,rH,sd,rz,vu,vz,vw,lr,lc,mv,fl,Aj]
 rw[f,Ya]
 simp only[CE,dI,g,Yt,Ya]
 rw[h]
 rfl
theorem ZQh(x y:List Pr)(hx:x.length≤1048576)(hy:y.length≤1048576):S9 [x,y]=some (x++y):=by
 have e:(Ah:Nat)=(Ah-3)+1+1+1:=by have:=AP (n:=10) (by omega);omega
 have f:Ai (H2 [x,y]) Ah (0,0)=some (.inl (x.length+y.length)):=by
  have d:x.length<9223372036854775808:=by omega
  have w2:x.length+y.length<9223372036854775808:=by omega
  have i:¬((x.length:Nat):Int)<0:=by omega
  have j:¬((x.length+y.length:Nat):Int)<0:=by omega
  have a:H2 [x,y] (0,0)=some (.nx (x.length,1)):=by dsimp only[H2,Vr,br,ix,vz,vs,v2,ln,Af,wa,dd,Aj,br];simp[d]
  have b:H2 [x,y] (x.length,1)=some (.nx (x.length+y.length,2)):=by dsimp only[H2,Vr,br,ix,vz,vs,v2,ln,Af,wa,dd,Aj,br];simp[w2];omega
  have c:H2 [x,y] (x.length+y.length,2)=some (.ex (x.length+y.length)):=by dsimp only[H2,Vr,br,ix,vz,vs,v2,ln,Af,wa,dd,Aj,br];simp
  rw[e,Ai,a]
  dsimp only
  rw[Ai,b]
  dsimp only
  rw[Ai,c]
 have h:Ai (H9 [x,y]) Ah ([],0)=some (.inl (x++y)):=by
  have d:x.length<549755813888:=by omega
  have w2:x.length+y.length<549755813888:=by omega
  have a:H9 [x,y] ([],0)=some (.nx (x,1)):=by dsimp only[H9,Vm,br,ix,vz,vs,ln,Af,aq,wa,fl,br];simp[d]
  have b:H9 [x,y] (x,1)=some (.nx (x++y,2)):=by dsimp only[H9,Vm,br,ix,vz,vs,ln,Af,aq,wa,fl,br];simp[w2]
  have c:H9 [x,y] (x++y,2)=some (.ex (x++y)):=by dsimp only[H9,Vm,br,ix,vz,vs,ln,Af,aq,wa,fl,br];simp
  rw[e,Ai,a]
  dsimp only
  rw[Ai,b]
  dsimp only
  rw[Ai,c]
 have g:x.length+y.length<549755813888:=by omega
 dsimp only[S9,oB,tB,sD,sO,qw,oD,vz,vw,lr,lc,mv,fl,Aj]
 rw[f,Ya]
 simp only[CE,dQ,g,Yt,Ya]
 rw[h]
 rfl
theorem ZQN(x y:List Raw)(hx:x.length≤1048576)(hy:y.length≤1048576):Ti [x,y]=some (x++y):=by
 have e:(Ah:Nat)=(Ah-3)+1+1+1:=by have:=AP (n:=10) (by omega);omega
 have f:Ai (HY [x,y]) Ah (0,0)=some (.inl (x.length+y.length)):=by
  have d:x.length<9223372036854775808:=by omega
  have w2:x.length+y.length<9223372036854775808:=by omega
  have i:¬((x.length:Nat):Int)<0:=by omega
  have j:¬((x.length+y.length:Nat):Int)<0:=by omega
  have a:HY [x,y] (0,0)=some (.nx (x.length,1)):=by dsimp only[HY,VX,br,ix,vz,vs,v2,ln,Af,wa,dd,Aj,br];simp[d]
  have b:HY [x,y] (x.length,1)=some (.nx (x.length+y.length,2)):=by dsimp only[HY,VX,br,ix,vz,vs,v2,ln,Af,wa,dd,Aj,br];simp[w2];omega
  have c:HY [x,y] (x.length+y.length,2)=some (.ex (x.length+y.length)):=by dsimp only[HY,VX,br,ix,vz,vs,v2,ln,Af,wa,dd,Aj,br];simp
  rw[e,Ai,a]
  dsimp only
  rw[Ai,b]
  dsimp only
  rw[Ai,c]
 have h:Ai (H6 [x,y]) Ah ([],0)=some (.inl (x++y)):=by
  have d:x.length<549755813888:=by omega
  have w2:x.length+y.length<549755813888:=by omega
  have a:H6 [x,y] ([],0)=some (.nx (x,1)):=by dsimp only[H6,VN,br,ix,vz,vs,ln,Af,aq,wa,fl,br];simp[d]
  have b:H6 [x,y] (x,1)=some (.nx (x++y,2)):=by dsimp only[H6,VN,br,ix,vz,vs,ln,Af,aq,wa,fl,br];simp[w2]
  have c:H6 [x,y] (x++y,2)=some (.ex (x++y)):=by dsimp only[H6,VN,br,ix,vz,vs,ln,Af,aq,wa,fl,br];simp
  rw[e,Ai,a]
  dsimp only
  rw[Ai,b]
  dsimp only
  rw[Ai,c]
 have g:x.length+y.length<549755813888:=by omega
 dsimp only[Ti,oh,p7,oP,rK,qz,py,vz,vw,lr,lc,mv,fl,Aj]
 rw[f,Ya]
 simp only[CE,dL,g,Yt,Ya]
 rw[h]
 rfl
theorem ZGN{a b:ByteArray}(h:a.toList=b.toList):a=b:=by
 rw[ByteArray.toList_eq,ByteArray.toList_eq]at h
 exact ByteArray.ext (C9 h)
theorem Ia{a b:ByteArray}:EO a b<0↔a.toList<b.toList:=by
 have e:BB a b=true↔a.toList<b.toList:=by unfold BB;rw[Go.Proofs.bytesLess_eq,YB]
 rw[←e]
 unfold EO
 cases h:BB a b with
 |true=>simp
 |false=>by_cases c:a=b<;>simp[c]
theorem ZGq{α:Type}(k:α→ByteArray):CmpLaw fun x y:α=>EO (k x) (k y):=by
 constructor
 ·intro x y w a b
  exact Ia.2 (List.lt_trans (Ia.1 a) (Ia.1 b))
 ·intro x y w a b e
  have c:=fun h=>a (Ia.2 h)
  have d:=fun h=>b (Ia.2 h)
  exact List.le_trans (RN.1 d) (RN.1 c) (Ia.1 e)
 ·intro x h
  exact List.lt_irrefl _ (Ia.1 h)
theorem ZSu{a b:ByteArray}:EO a b=0↔¬EO a b<0∧¬EO b a<0:=by
 constructor
 ·intro h
  have e:a=b:=YZ (by rw[←ow,h];rfl)
  subst e
  exact⟨by omega,by omega⟩
 ·rintro⟨c,d⟩
  have e:a=b:=ZGN (List.le_antisymm (RN.1 fun h=>d (Ia.2 h)) (RN.1 fun h=>c (Ia.2 h)))
  exact YZ (by rw[ow];exact Yn e)
theorem X4{a b:Int}:BJ a b=0↔¬BJ a b<0∧¬BJ b a<0:=by
 unfold BJ
 grind
def IP(k:Int)(a b:Val):Int:=if k=7∨k=8 then EO a.text b.text else if k=2∨k=3 then BJ (IntKind.u64.wrap (a.bits+9223372036854775808)) (IntKind.u64.wrap (b.bits+9223372036854775808))else if k=6 then BJ (GQ a.bits.toNat) (GQ b.bits.toNat)else BJ a.bits b.bits
theorem eO(k:Int):CmpLaw (IP k):=by
 unfold IP
 split
 ·exact ZGq Val.text
 ·split
  ·exact MO fun v:Val=>IntKind.u64.wrap (v.bits+9223372036854775808)
  ·split
   ·exact MO fun v:Val=>((GQ v.bits.toNat:Nat):Int)
   ·exact MO Val.bits
theorem ZTv(k:Int)(a b:Val):IP k a b=0↔¬IP k a b<0∧¬IP k b a<0:=by
 unfold IP
 split
 ·exact ZSu
 ·split
  ·exact X4
  ·split
   ·exact X4
   ·exact X4
theorem gX(a b:Val):BX a b=if a.kind≠b.kind then BJ a.kind b.kind else IP a.kind a b:=rfl
theorem Ie(a b:Val):BX a b<0↔a.kind<b.kind∨(a.kind=b.kind∧IP a.kind a b<0):=by
 rw[gX]
 by_cases e:a.kind=b.kind
 ·simp[e]
 ·have h:BJ a.kind b.kind<0↔a.kind<b.kind:=by unfold BJ;grind
  simp[e,h]
theorem T7:CmpLaw BX:=by
 constructor
 ·intro x y w
  rw[Ie,Ie,Ie]
  rintro(b|⟨a,b⟩) (c|⟨f,c⟩)
  ·exact .inl (by omega)
  ·exact .inl (by omega)
  ·exact .inl (by omega)
  ·exact .inr ⟨a.trans f,(eO _).tr x y w b (by rw[a];exact c)⟩
 ·intro x y w
  rw[Ie,Ie,Ie]
  intro b c d
  have a1:¬x.kind<y.kind:=fun h=>b (.inl h)
  have g:¬y.kind<w.kind:=fun h=>c (.inl h)
  rcases d with d|⟨e,d⟩
  ·omega
  ·have a:x.kind=y.kind:=by omega
   exact(eO _).ng x y w (fun h=>b (.inr ⟨a,h⟩)) (fun h=>c (.inr ⟨by omega,by rw[←a];exact h⟩)) d
 ·intro x
  rw[Ie]
  rintro(h|⟨_,h⟩)
  ·omega
  ·exact(eO _).ir x h
theorem ZUG(a b:Val):BX a b=0↔¬BX a b<0∧¬BX b a<0:=by
 rw[Ie,Ie]
 by_cases e:a.kind=b.kind
 ·have f:BX a b=IP a.kind a b:=by rw[gX];simp[e]
  rw[f,ZTv]
  rw[←e]
  constructor
  ·rintro⟨c,d⟩
   exact⟨fun h=>h.elim (by omega) fun h=>c h.2,fun h=>h.elim (by omega) fun h=>d h.2⟩
  ·rintro⟨c,d⟩
   exact⟨fun h=>c (.inr ⟨rfl,h⟩),fun h=>d (.inr ⟨rfl,h⟩)⟩
 ·have f:BX a b=BJ a.kind b.kind:=by rw[gX];simp[e]
  rw[f]
  constructor
  ·intro h
   exfalso
   unfold BJ at h
   grind
  ·rintro⟨c,d⟩
   exfalso
   have a1:¬a.kind<b.kind:=fun h=>c (.inl h)
   have g:¬b.kind<a.kind:=fun h=>d (.inl h)
   omega
def Bj(x y:Pr):Int:=BX x.key y.key
theorem G5:CmpLaw Bj:=⟨fun x y w=>T7.tr x.key y.key w.key,fun x y w=>T7.ng x.key y.key w.key,fun x=>T7.ir x.key⟩
theorem M3(x y:Pr):Bj x y=0↔¬Bj x y<0∧¬Bj y x<0:=ZUG x.key y.key
theorem Zvq{x y w:Pr}(a:Bj x y<0)(b:¬Bj w y<0):Bj x w<0:=Decidable.byContradiction fun h=>G5.ng x w y h b a
theorem ZPu(x y:Pr)(a:Bj x y<0)(b:Bj y x<0):False:=G5.ir x (G5.tr x y x a b)
theorem ZFa{x y w:Pr}(a:Bj x y=0)(b:Bj y w=0):Bj x w=0:=by
 rw[M3]at*
 exact⟨G5.ng _ _ _ a.1 b.1,G5.ng _ _ _ b.2 a.2⟩
def IE(l:List Pr):Prop:=l.Pairwise fun x y=>Bj x y<0
theorem ZvU{a b:List Pr}(c:IE a)(d:IE b)(h:∀x,x∈a↔x∈b):a=b:=by
 have f:∀{l:List Pr},IE l→l.Nodup:=fun hl=>hl.imp fun {x y} h e=>by subst e;exact G5.ir _ h
 exact eD ZPu c d ((List.perm_ext_iff_of_nodup (f c) (f d)).2 h)
def ZWI(l:List Pr)(x:Pr):Prop:=∃j:Nat,l[j]?=some x∧∀(k:Nat) (y:Pr),l[k]?=some y→Bj x y=0→k≤j
theorem zx(q:Pr)(out:List Pr)(p:Pr):Gb (q::out) p=if Bj q p<0 then q::Gb out p else p::q::out:=by
 unfold Gb IK
 rw[W6]
 by_cases h:Bj q p<0
 ·have a:BX q.key p.key<0:=h
  rw[Yi h,Yn a]
  rfl
 ·have a:¬BX q.key p.key<0:=h
  rw[Ym h,Yr a]
  rfl
theorem Znk{out:List Pr}{p x:Pr}:x∈Gb out p↔x=p∨x∈out:=by
 induction out with
 |nil=>exact Yx
 |cons q out a=>
  rw[zx]
  split
  ·rw[Yx,a,Yx]
   grind
  ·exact Yx
theorem ZxF{out:List Pr}{p:Pr}(h:IE out)(b:∀x∈out,¬Bj x p=0):IE (Gb out p):=by
 induction out with
 |nil=>exact LR _ _
 |cons q out g=>
  obtain⟨a,f⟩:=Y4.1 h
  rw[zx]
  split
  ·rename_i c
   refine Y4.2 ⟨fun x hx=>?_,g f fun x hx=>b x (Yw _ hx)⟩
   rcases Znk.1 hx with rfl|hx
   ·exact c
   ·exact a x hx
  ·rename_i c
   have d:Bj p q<0:=Decidable.byContradiction fun e=>b q Yz ((M3 q p).2 ⟨c,e⟩)
   refine Y4.2 ⟨fun x hx=>?_,h⟩
   rcases Yx.1 hx with rfl|hx
   ·exact d
   ·exact G5.tr p q x d (a x hx)
theorem dT(l:List Pr):∀i:Nat,IE (CB l i)∧∀x,x∈CB l i↔∃j:Nat,j<i∧l[j]?=some x∧∀(k:Nat) (y:Pr),l[k]?=some y→Bj x y=0→k≤j
 |0=>⟨.nil,fun x=>Iff.intro (fun h=>by cases h) fun⟨j,h,_⟩=>absurd h (Y6 j)⟩
 |i+1=>by
  obtain⟨o,g⟩:=dT l i
  unfold CB
  cases e:l[i]? with
  |none=>
   refine⟨o,fun x=>(g x).trans ?_⟩
   constructor
   ·rintro⟨j,a,b⟩
    exact⟨j,by omega,b⟩
   ·rintro⟨j,a,b⟩
    have:j≠i:=fun n=>by rw[n,e]at b;cases b.1
    exact⟨j,by omega,b⟩
  |some q=>
   have r:((l.drop (i+1)).any fun x=>decide (BX q.key x.key=0))=true↔∃(k:Nat) (y:Pr),i<k∧l[k]?=some y∧Bj q y=0:=by
    rw[YR]
    constructor
    ·rintro⟨y,hy,a⟩
     obtain⟨k,m⟩:=YJ.1 hy
     rw[Y1]at m
     exact⟨i+1+k,y,by omega,m,YZ a⟩
    ·rintro⟨k,y,a,b,c⟩
     refine⟨y,YJ.2 ⟨k-(i+1),?_⟩,Yn c⟩
     rw[Y1,show i+1+(k-(i+1))=k by omega]
     exact b
   dsimp only
   split
   ·rename_i c
    obtain⟨z,A,a0,s,t⟩:=r.1 c
    refine⟨o,fun x=>(g x).trans ?_⟩
    constructor
    ·rintro⟨j,a,b⟩
     exact⟨j,by omega,b⟩
    ·rintro⟨j,a,d,f⟩
     have:j≠i:=fun n=>by
      subst n
      rw[e]at d
      cases d
      have:=f z A s t
      omega
     exact⟨j,by omega,d,f⟩
   ·rename_i c
    have v:∀x∈CB l i,¬Bj x q=0:=fun x hx w=>by
     obtain⟨j,a,_,b⟩:=(g x).1 hx
     have:=b i q e w
     omega
    refine⟨ZxF o v,fun x=>?_⟩
    rw[Znk,g]
    constructor
    ·rintro(rfl|⟨j,a,b⟩)
     ·refine⟨i,YO _,e,fun k y m hy=>?_⟩
      exact Nat.le_of_not_lt fun p=>c (r.2 ⟨k,y,p,m,hy⟩)
     ·exact⟨j,by omega,b⟩
    ·rintro⟨j,a,d,f⟩
     by_cases u:j=i
     ·subst u
      rw[e]at d
      cases d
      exact .inl rfl
     ·exact .inr ⟨j,by omega,d,f⟩
theorem zY(l:List Pr):IE (Io l):=(dT l l.length).1
theorem Zxp{l:List Pr}{x:Pr}:x∈Io l↔ZWI l x:=by
 refine((dT l l.length).2 x).trans ?_
 constructor
 ·rintro⟨j,_,b⟩
  exact⟨j,b⟩
 ·rintro⟨j,b⟩
  exact⟨j,(Yb.1 b.1).1,b⟩
def EG:List Pr→List Pr
 |[]=>[]
 |[p]=>[p]
 |p::q::l=>if Bj p q=0 then EG (q::l)else p::EG (q::l)
theorem zc:∀r:List (Pr×Nat),r.Pairwise (Gh Bj)→IE (EG (r.map (·.1)))∧∀x,x∈EG (r.map (·.1))↔∃j,(x,j)∈r∧∀y k,(y,k)∈r→Bj x y=0→k≤j
 |[],_=>⟨.nil,fun x=>Iff.intro (fun h=>by cases h) fun⟨j,h,_⟩=>by cases h⟩
 |[(p,i)],_=>by
  refine⟨LR _ _,fun x=>?_⟩
  show x∈[p]↔_
  rw[Y3]
  constructor
  ·rintro rfl
   refine⟨i,Y3.2 rfl,fun y k h _=>?_⟩
   cases Y3.1 h
   exact Yf _
  ·rintro⟨j,h,_⟩
   cases Y3.1 h
   rfl
 |(p,i)::(q,j)::r,h=>by
  obtain⟨t,o⟩:=Y4.1 h
  obtain⟨n,g⟩:=zc ((q,j)::r) o
  have m:=t (q,j) Yz
  show IE (if Bj p q=0 then EG (((q,j)::r).map (·.1))else p::EG (((q,j)::r).map (·.1)))∧∀x,x∈(if Bj p q=0 then EG (((q,j)::r).map (·.1))else p::EG (((q,j)::r).map (·.1)))↔_
  by_cases c:Bj p q=0
  ·rw[Yi c]
   have u:i<j:=by
    rcases m with a|⟨_,a⟩
    ·exact absurd a ((M3 p q).1 c).1
    ·exact a
   refine⟨n,fun x=>(g x).trans ?_⟩
   constructor
   ·rintro⟨k,a,b⟩
    refine⟨k,Yw _ a,fun y l hy e=>?_⟩
    rcases Yx.1 hy with hy|hy
    ·cases hy
     have:=b q j Yz (ZFa e c)
     omega
    ·exact b y l hy e
   ·rintro⟨k,a,b⟩
    rcases Yx.1 a with a|a
    ·cases a
     have:=b q j (Yw _ Yz) c
     omega
    ·exact⟨k,a,fun y l hy e=>b y l (Yw _ hy) e⟩
  ·rw[Ym c]
   have f:Bj p q<0:=by
    rcases m with a|⟨a,_⟩
    ·exact a
    ·exact Decidable.byContradiction fun s=>c ((M3 p q).2 ⟨s,a⟩)
   have d:∀y k,(y,k)∈(q,j)::r→Bj p y<0:=fun y k hy=>by
    rcases Yx.1 hy with hy|hy
    ·cases hy
     exact f
    ·rcases(Y4.1 o).1 (y,k) hy with a|⟨a,_⟩
     ·exact G5.tr _ _ _ f a
     ·exact Zvq f a
   refine⟨Y4.2 ⟨fun x hx=>?_,n⟩,fun x=>?_⟩
   ·obtain⟨k,a,_⟩:=(g x).1 hx
    exact d x k a
   ·rw[Yx,g]
    constructor
    ·rintro(rfl|⟨k,a,b⟩)
     ·refine⟨i,Yz,fun y k hy e=>?_⟩
      rcases Yx.1 hy with hy|hy
      ·cases hy
       exact Yf _
      ·exact absurd (d y k hy) ((M3 _ _).1 e).1
     ·refine⟨k,Yw _ a,fun y l hy e=>?_⟩
      rcases Yx.1 hy with hy|hy
      ·cases hy
       exact absurd (d x k a) ((M3 _ _).1 e).2
      ·exact b y l hy e
    ·rintro⟨k,a,b⟩
     rcases Yx.1 a with a|a
     ·cases a
      exact .inl rfl
     ·exact .inr ⟨k,a,fun y l hy e=>b y l (Yw _ hy) e⟩
theorem Zpq(l:List Pr):EG (C1 Bj l)=Io l:=by
 obtain⟨r,c,d,e⟩:=Tx G5 l 0 [] .nil (fun a f=>by cases f)
 obtain⟨s1,s2⟩:=zc r d
 have c:C1 Bj l=r.map (·.1):=c
 rw[c]
 refine ZvU s1 (zY l) fun x=>(s2 x).trans (Iff.trans ?_ Zxp.symm)
 have hm:∀y k,(y,k)∈r↔l[k]?=some y:=fun y k=>by
  rw[e.mem_iff,Fy]
  exact List.mem_zipIdx_iff_getElem?
 constructor
 ·rintro⟨j,a,b⟩
  exact⟨j,(hm x j).1 a,fun k y g=>b y k ((hm y k).2 g)⟩
 ·rintro⟨j,a,b⟩
  exact⟨j,(hm x j).2 a,fun y k hy=>b k y ((hm y k).1 hy)⟩
end Go.Proofs.YtbcmdieedjamgaaGreat
