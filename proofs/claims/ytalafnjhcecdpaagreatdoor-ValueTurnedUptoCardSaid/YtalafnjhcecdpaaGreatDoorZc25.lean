import Derived.Test.YtalafnjhcecdpaaGreatDoorZc24
import Derived.Test.YtalafnjhcecdpaaGreatDoorZc23
import Derived.Test.YtalafnjhcecdpaaGreatDoorZc22
import Derived.Test.YtalafnjhcecdpaaGreatDoorZc00
namespace Go.Proofs.YtalafnjhcecdpaaGreatDoor
set_option linter.all false
open Go Go.Eng
section
variable {α:Type} [Rw α] [Tid α]
def AQ(pf:α→α→Option Int)(cmp:α→α→Int)(l:List α):Prop:=∀x∈l,∀y∈l,pf x y=some (cmp x y)
theorem AQ.perm{pf:α→α→Option Int}{cmp:α→α→Int}{l v:List α}(h:AQ pf cmp l)(p:v.Perm l):AQ pf cmp v:=fun x hx y hy=>h x (p.mem_iff.1 hx) y (p.mem_iff.1 hy)
theorem AQ.atI{pf:α→α→Option Int}{cmp:α→α→Int}{l:List α}(h:AQ pf cmp l){i j:Nat}(hi:i<l.length)(a:j<l.length):pf (l.getD i Rw.z) (l.getD j Rw.z)=some (cmp (l.getD i Rw.z) (l.getD j Rw.z)):=by
 have e:∀k (h:k<l.length),l.getD k Rw.z=l[k]:=fun k h=>by rw[Yj,Ya h,YS]
 rw[e i hi,e j a]
 exact h _ (Ix hi) _ (Ix a)
theorem sF(l:List α)(a b:Nat)(pf:α→α→Option Int)(cmp:α→α→Int)(B:AQ pf cmp l)(k:Int)(hl:l.length≤4194304):∀(j:Nat) (v:List α) (N c:Nat),j<N→j<c→j<l.length→v.Perm l→
  ∃p i,EF (Rw.z:α) a cmp c j v=.inl (p,i)∧Ag (EM l (a:Int) (b:Int) pf k) N ((j:Int),v)=some (.inl i)∧i.Perm l:=by
 intro j
 induction j with
 |zero=>
  intro v N c hN z A d
  have o:=d.length_eq
  obtain⟨N,rfl⟩:∃m,N=m+1:=⟨N-1,by omega⟩
  obtain⟨c,rfl⟩:∃m,c=m+1:=⟨c-1,by omega⟩
  have g:¬(a:Int)<((0:Nat):Int):=by omega
  refine⟨0,v,by rw[EF];simp only[g,YK,DE,cond_false],?_,d⟩
  have e:EM l (a:Int) (b:Int) pf k (((0:Nat):Int),v)=some (.ex v):=by
   dsimp only[EM,br,vz,vs,vg,ln,Af,G8,wi,AC,ca,EX,st,B0,fl,br,AC]
   grind
  rw[Ag,e]
 |succ j C=>
  intro v N c hN z A d
  have o:=d.length_eq
  obtain⟨N,rfl⟩:∃m,N=m+1:=⟨N-1,by omega⟩
  obtain⟨c,rfl⟩:∃m,c=m+1:=⟨c-1,by omega⟩
  by_cases g:(a:Int)<((j+1:Nat):Int)
  ·have s:((j+1:Nat):Int)-1=(j:Int):=by omega
   have y: -9223372036854775808≤(j:Int)∧(j:Int)<9223372036854775808:=by omega
   have w:(0:Int)≤((j+1:Nat):Int)∧((j+1:Nat):Int)<(l.length:Int):=by omega
   have x:(0:Int)≤(j:Int)∧(j:Int)<(l.length:Int):=by omega
   have f:j+1<v.length:=by omega
   have h:j<v.length:=by omega
   have q:v[j+1]?=some (v.getD (j+1) Rw.z):=by rw[Yj,Ya f];rfl
   have r:v[j]?=some (v.getD j Rw.z):=by rw[Yj,Ya h];rfl
   have t:j+1-1=j:=rfl
   have u:=(B.perm d).atI f h
   by_cases n:cmp (v.getD (j+1) Rw.z) (v.getD j Rw.z)<0
   ·obtain⟨p,i,D,E,F⟩:=C ((v.set (j+1) (v.getD j Rw.z)).set j (v.getD (j+1) Rw.z)) N c (by omega) (by omega) (by omega) ((J4 v (j+1) j f h).trans d)
    refine⟨p,i,by rw[EF];simp only[g,t,n,Yv,Jz,cond_true];exact D,?_,F⟩
    have e:EM l (a:Int) (b:Int) pf k (((j+1:Nat):Int),v)=some (.nx ((j:Int),(v.set (j+1) (v.getD j Rw.z)).set j (v.getD (j+1) Rw.z))):=by
     dsimp only[EM,br,vz,vs,vg,ln,Af,G8,wi,AC,ca,EX,st,B0,fl,br,AC]
     simp only[g,s,y,w,x,f,h,q,r,u,n,Yv,forall_const,DD,Jz,Yy,Fb,Fa,YS,Yd,P8]
    rw[Ag,e]
    exact E
   ·refine⟨j+1,v,by rw[EF];simp only[g,t,n,Yv,YK,Hk,cond_false],?_,d⟩
    have e:EM l (a:Int) (b:Int) pf k (((j+1:Nat):Int),v)=some (.ex v):=by
     dsimp only[EM,br,vz,vs,vg,ln,Af,G8,wi,AC,ca,EX,st,B0,fl,br,AC]
     simp only[g,s,y,w,x,f,h,u,n,Yv,YK,forall_const,DD,Hk,Ym,Yy,YH,Fb,Fa,YS]
    rw[Ag,e]
  ·refine⟨j+1,v,by rw[EF];simp only[g,YK,DE,cond_false],?_,d⟩
   have e:EM l (a:Int) (b:Int) pf k (((j+1:Nat):Int),v)=some (.ex v):=by
    dsimp only[EM,br,vz,vs,vg,ln,Af,G8,wi,AC,ca,EX,st,B0,fl,br,AC]
    simp only[g,YK,Ym,Ld,DE,Yy,YH]
   rw[Ag,e]
theorem bo(l:List α)(a b:Nat)(pf:α→α→Option Int)(cmp:α→α→Int)(n:AQ pf cmp l)(hl:l.length≤4194304)(o:b≤l.length):∀(d i:Nat) (v:List α) (N c:Nat),b-i≤d→d<N→b-i<c→v.Perm l→
  ∃k e,FR (Rw.z:α) a b cmp c i v=.inl (k,e)∧(i<4611686018427387904→Ag (HH l (a:Int) (b:Int) pf) N ((i:Int),v)=some (.inl e))∧e.Perm l
 |d,i,v,N,c,u,hN,x,j=>by
  have p:=j.length_eq
  obtain⟨N,rfl⟩:∃m,N=m+1:=⟨N-1,by omega⟩
  obtain⟨c,rfl⟩:∃m,c=m+1:=⟨c-1,by omega⟩
  by_cases g:i<b
  ·obtain⟨d,rfl⟩:∃m,d=m+1:=⟨d-1,by omega⟩
   have f:(i:Int)<(b:Int):=by omega
   obtain⟨y,w,q,z,r⟩:=sF l a b pf cmp n (i:Int) hl i v Aj (i+1) (A6 (by omega)) (by omega) (by omega) j
   obtain⟨k,e,s,A,t⟩:=bo l a b pf cmp n hl o d (i+1) w N c (by omega) (by omega) (by omega) r
   refine⟨k,e,by rw[FR];simp only[f,Yv,cond_true,q,D9];exact s,fun hi=>?_,t⟩
   have B: -9223372036854775808≤(i:Int)+1∧(i:Int)+1<9223372036854775808:=by omega
   have h:HH l (a:Int) (b:Int) pf ((i:Int),v)=some (.nx ((i:Int)+1,w)):=by
    dsimp only[HH,br,vz,vs,ln,Af,lc,wi,fl,br]
    grind
   rw[Ag,h]
   grind
  ·have f:¬(i:Int)<(b:Int):=by omega
   refine⟨i,v,by rw[FR];simp only[f,YK,cond_false],fun _=>?_,j⟩
   have h:HH l (a:Int) (b:Int) pf ((i:Int),v)=some (.ex v):=by
    dsimp only[HH,br,vz,vs,ln,Af,lc,wi,fl,br]
    grind
   rw[Ag,h]
theorem jx(l:List α)(a b:Nat)(pf:α→α→Option Int)(cmp:α→α→Int)(d:AQ pf cmp l)(hl:l.length≤4194304)(h:a≤4194304)(c:b≤l.length):IB l (a:Int) (b:Int) pf=some (Dl Rw.z l a b cmp):=by
 obtain⟨i,k,e,f,j⟩:=bo l a b pf cmp d hl c (b-(a+1)) (a+1) l Aj (b-(a+1)+1) (Ye _) (A6 (by omega)) (by omega) (.refl _)
 have m: -9223372036854775808≤(a:Int)+1∧(a:Int)+1<9223372036854775808:=by omega
 have g:=f (by omega)
 rw[show((a+1:Nat):Int)=(a:Int)+1 from by omega]at g
 unfold IB Dl
 rw[e]
 dsimp only[IB,O6,vz,vs,lr,lc,wi,fl]
 grind
theorem p6(l:List α)(a b:Nat)(cmp:α→α→Int)(hl:l.length≤4194304)(c:b≤l.length):(Dl (Rw.z:α) l a b cmp).Perm l:=by
 obtain⟨f,g,d,_,e⟩:=bo l a b (fun x y=>some (cmp x y)) cmp (fun _ _ _ _=>rfl) hl c (b-(a+1)) (a+1) l (b-(a+1)+1) (b-(a+1)+1) (Ye _) (by omega) (by omega) (.refl _)
 unfold Dl
 rw[d]
 exact e
end
end Go.Proofs.YtalafnjhcecdpaaGreatDoor
namespace Go.Proofs.YtalafnjhcecdpaaGreatDoor
set_option linter.all false
open Go Go.Eng
section
variable {α:Type} [Rw α] [Tid α]
def Q5(pf:α→α→Option Int)(cmp:α→α→Int):Prop:=∀(c:Nat) (l:List α) (a m b:Nat),AQ pf cmp l→l.length≤4194304→b-a<c→a<m→m<b→b≤l.length→C1 c l (a:Int) (m:Int) (b:Int) pf=some (AX Rw.z c l a m b cmp)∧(AX (Rw.z:α) c l a m b cmp).Perm l
section
variable {pf:α→α→Option Int} {cmp:α→α→Int}
theorem iv(l:List α)(k:AQ pf cmp l)(hl:l.length≤4194304):∀(d x y:Nat) (v:List α) (N a:Nat),l.length+1-y≤d→d<N→l.length+1-y<a→x≤l.length→v.Perm l→
  ∃x' i c,GF (Rw.z:α) l.length cmp a x y v=.inl (x',i,c)∧Ag (HC l (l.length:Int) pf) N (x,y,v)=some (.inl (x',c))∧c.Perm l∧x'≤l.length
 |d,x,y,v,N,a,r,hN,s,hx,e=>by
  have n:=e.length_eq
  obtain⟨N,rfl⟩:∃m,N=m+1:=⟨N-1,by omega⟩
  obtain⟨a,rfl⟩:∃m,a=m+1:=⟨a-1,by omega⟩
  by_cases g:y≤l.length
  ·obtain⟨d,rfl⟩:∃m,d=m+1:=⟨d-1,by omega⟩
   have f:(y:Int)≤(l.length:Int):=by omega
   have hs:=jx v x y pf cmp (k.perm e) (by omega) (by omega) (by omega)
   have b:=(p6 v x y cmp (by omega) (by omega)).trans e
   have j:=b.length_eq
   obtain⟨x',i,c,o,p,q⟩:=iv l k hl d y (y+20) (Dl Rw.z v x y cmp) N a (by omega) (by omega) (by omega) g b
   refine⟨x',i,c,by rw[GF,Yo f,cond_true];exact o,?_,q⟩
   have t:y+20<9223372036854775808:=by omega
   have h:HC l (l.length:Int) pf (x,y,v)=some (.nx (y,y+20,Dl Rw.z v x y cmp)):=by
    dsimp only[HC,br,vz,vs,v2,ln,Af,lc,wa,fl,br,wm]
    grind
   rw[Ag,h]
   exact p
  ·have f:¬(y:Int)≤(l.length:Int):=by omega
   refine⟨x,y,v,by rw[GF,Yp f,cond_false],?_,e,hx⟩
   have h:HC l (l.length:Int) pf (x,y,v)=some (.ex (x,v)):=by
    dsimp only[HC,br,vz,vs,v2,ln,Af,lc,wa,fl,br,wm]
    grind
   rw[Ag,h]
theorem eC(n:Q5 pf cmp)(l:List α)(o:AQ pf cmp l)(hl:l.length≤4194304)(s:Nat)(i:0<s)(j:s≤l.length):∀(d x y:Nat) (v:List α) (N a:Nat),l.length+1-y≤d→d<N→l.length+1-y<a→x≤l.length→y=x+2*s→v.Perm l→
  ∃x' k b,GG (Rw.z:α) l.length cmp s a x y v=.inl (x',k,b)∧Ag (HG l (l.length:Int) pf s) N (x,y,v)=some (.inl (x',b))∧b.Perm l∧x'≤l.length
 |d,x,y,v,N,a,w,hN,z,hx,hy,c=>by
  have p:=c.length_eq
  obtain⟨N,rfl⟩:∃m,N=m+1:=⟨N-1,by omega⟩
  obtain⟨a,rfl⟩:∃m,a=m+1:=⟨a-1,by omega⟩
  by_cases g:y≤l.length
  ·obtain⟨d,rfl⟩:∃m,d=m+1:=⟨d-1,by omega⟩
   have e:(y:Int)≤(l.length:Int):=by omega
   obtain⟨hs,h⟩:=n (y-x+1) v x (x+s) y (o.perm c) (by omega) (by omega) (by omega) (by omega) (by omega)
   obtain⟨x',k,b,q,r,t⟩:=eC n l o hl s i j d y (y+2*s) (AX Rw.z (y-x+1) v x (x+s) y cmp) N a (by omega) (by omega) (by omega) g rfl (h.trans c)
   refine⟨x',k,b,by rw[GG,Yo e,cond_true];exact q,?_,t⟩
   have A:y+2*s<9223372036854775808:=by omega
   have w2:2*s<9223372036854775808:=by omega
   have B:x+s<9223372036854775808:=by omega
   have u:((y:Int)-(x:Int)+1).toNat=y-x+1:=by omega
   have f:HG l (l.length:Int) pf s (x,y,v)=some (.nx (y,y+2*s,AX Rw.z (y-x+1) v x (x+s) y cmp)):=by
    dsimp only[HG,br,vz,vs,ln,Af,lc,wa,fl,br,wm]
    grind
   rw[Ag,f]
   exact r
  ·have e:¬(y:Int)≤(l.length:Int):=by omega
   refine⟨x,y,v,by rw[GG,Yp e,cond_false],?_,c,hx⟩
   have f:HG l (l.length:Int) pf s (x,y,v)=some (.ex (x,v)):=by
    dsimp only[HG,br,vz,vs,ln,Af,lc,wa,fl,br,wm]
    grind
   rw[Ag,f]
theorem VC(h:Q5 pf cmp)(l:List α)(i:AQ pf cmp l)(hl:l.length≤4194304):∀(d s:Nat) (v:List α) (N a:Nat),0<s→l.length-s≤d→d<N→l.length-s<a→v.Perm l→
  ∃s' c,Fe (Rw.z:α) l.length cmp a s v=.inl (s',c)∧Ag (F4 l (l.length:Int) pf) N (s,v)=some (.inl c)∧c.Perm l
 |d,s,v,N,a,n,C,hN,D,o=>by
  have z:=o.length_eq
  obtain⟨N,rfl⟩:∃m,N=m+1:=⟨N-1,by omega⟩
  obtain⟨a,rfl⟩:∃m,a=m+1:=⟨a-1,by omega⟩
  by_cases g:s<l.length
  ·obtain⟨d,rfl⟩:∃m,d=m+1:=⟨d-1,by omega⟩
   have f:(s:Int)<(l.length:Int):=by omega
   obtain⟨x,y,w,t,E,j,F⟩:=eC h l i hl s n (by omega) (l.length+1-2*s) 0 (2*s) v Aj (l.length+1-2*s+1) (Ye _) (A6 (by omega)) (by omega) (by omega) (by omega) o
   have A:=j.length_eq
   have G:s*2<9223372036854775808:=by omega
   have w2:2*s<9223372036854775808:=by omega
   have H:x+s<9223372036854775808:=by omega
   by_cases u:x+s<l.length
   ·have b:((x+s:Nat):Int)<(l.length:Int):=by omega
    obtain⟨hs,k⟩:=h (l.length-x+1) w x (x+s) l.length (i.perm j) (by omega) (by omega) (by omega) u (by omega)
    obtain⟨s',c,p,q,r⟩:=VC h l i hl d (s*2) (AX Rw.z (l.length-x+1) w x (x+s) l.length cmp) N a (by omega) (by omega) (by omega) (by omega) (k.trans j)
    refine⟨s',c,by rw[Fe,Yo f,cond_true,t];simp only[D9,Yo b,cond_true];exact p,?_,r⟩
    have B:((l.length:Int)-(x:Int)+1).toNat=l.length-x+1:=by omega
    have e:F4 l (l.length:Int) pf (s,v)=some (.nx (s*2,AX Rw.z (l.length-x+1) w x (x+s) l.length cmp)):=by
     dsimp only[F4,br,vz,vs,ln,Af,lc,wa,fl,br,wm]
     grind
    rw[Ag,e]
    exact q
   ·have b:¬((x+s:Nat):Int)<(l.length:Int):=by omega
    obtain⟨s',c,p,q,r⟩:=VC h l i hl d (s*2) w N a (by omega) (by omega) (by omega) (by omega) j
    refine⟨s',c,by rw[Fe,Yo f,cond_true,t];simp only[D9,Yp b,cond_false];exact p,?_,r⟩
    have e:F4 l (l.length:Int) pf (s,v)=some (.nx (s*2,w)):=by
     dsimp only[F4,br,vz,vs,ln,Af,lc,wa,fl,br,wm]
     grind
    rw[Ag,e]
    exact q
  ·have f:¬(s:Int)<(l.length:Int):=by omega
   refine⟨s,v,by rw[Fe,Yp f,cond_false],?_,o⟩
   have e:F4 l (l.length:Int) pf (s,v)=some (.ex v):=by
    dsimp only[F4,br,vz,vs,ln,Af,lc,wa,fl,br,wm]
    grind
   rw[Ag,e]
theorem cT(d:Q5 pf cmp)(l:List α)(a:AQ pf cmp l)(hl:l.length≤4194304):Fj l pf=some (FS Rw.z l cmp):=by
 obtain⟨x,y,w,f,g,c,h⟩:=iv l a hl (l.length+1-20) 0 20 l Aj (l.length+1-20+1) (Ye _) (A6 (by omega)) (by omega) (by omega) (.refl _)
 have e:=c.length_eq
 have hs:=jx w x l.length pf cmp (a.perm c) (by omega) (by omega) (by omega)
 have b:=(p6 w x l.length cmp (by omega) (by omega)).trans c
 obtain⟨s',m,i,j,k⟩:=VC d l a hl (l.length-20) 20 (Dl Rw.z w x l.length cmp) Aj (l.length-20+1) (by omega) (Ye _) (A6 (by omega)) (by omega) b
 unfold Fj FS Ss
 rw[f]
 dsimp only[Fj,Pq,vz,lr,lc,fl,A1,LY,ON,vz,lr,lc,fl,LY,wm]
 grind
end
end
theorem uc{n:Nat}(h:n<9223372036854775808):IntKind.u64.wrap (n:Int)=(n:Int):=by
 simp only[IntKind.wrap,IntKind.bits,IntKind.signed]
 simp
 omega
theorem vr{n:Nat}(h:n<9223372036854775808):IntKind.i64.wrap (n:Int)=(n:Int):=by
 simp only[IntKind.wrap,IntKind.bits,IntKind.signed]
 simp
 omega
theorem I4{x y:Nat}(h:x+y<9223372036854775808):IntKind.i64.wrap (Ak .u64 (IntKind.u64.wrap ((x:Int)+(y:Int))) 1)=(((x+y)/2:Nat):Int):=by
 rw[show(x:Int)+(y:Int)=((x+y:Nat):Int)from by omega,uc h]
 have:Ak .u64 ((x+y:Nat):Int) 1=(((x+y)/2:Nat):Int):=by
  unfold Ak
  have e:(2:Int)^(min (1:Int).toNat IntKind.u64.bits)=2:=by decide
  rw[e,Int.fdiv_eq_ediv_of_nonneg _ (by decide)]
  omega
 rw[this]
 exact vr (by omega)
section
variable {α:Type} [Rw α] [Tid α]
theorem ba(l:List α)(R:List α→Int→Int→Int→(α→α→Option Int)→Option (List α))(a:Nat)(pf:α→α→Option Int)(cmp:α→α→Int)(o:AQ pf cmp l)(hl:l.length≤4194304)(k:a<l.length):∀(d i j N b:Nat),j-i≤d→d<N→j-i<b→i≤j→j≤l.length→
  ∃c f,ED (Rw.z:α) l a cmp b i j=.inl (c,f)∧Ag (F8 l (a:Int) pf R) N ((i:Int),(j:Int))=some (.inl (c:Int))∧i≤c∧c≤j
 |d,i,j,N,b,A,hN,B,n,C=>by
  obtain⟨N,rfl⟩:∃m,N=m+1:=⟨N-1,by omega⟩
  obtain⟨b,rfl⟩:∃m,b=m+1:=⟨b-1,by omega⟩
  by_cases g:i<j
  ·obtain⟨d,rfl⟩:∃m,d=m+1:=⟨d-1,by omega⟩
   have h:(i:Int)<(j:Int):=by omega
   have t:i≤(i+j)/2:=by omega
   have u:(i+j)/2<j:=by omega
   have v:=I4 (x:=i) (y:=j) (by omega)
   have E: -9223372036854775808≤(i:Int)+(j:Int)∧(i:Int)+(j:Int)<9223372036854775808:=by omega
   have s:(0:Int)≤1:=by decide
   have D:=o.atI (i:=(i+j)/2) (j:=a) (by omega) k
   by_cases r:cmp (l.getD ((i+j)/2) Rw.z) (l.getD a Rw.z)<0
   ·obtain⟨c,f,p,q,w,z⟩:=ba l R a pf cmp o hl k d ((i+j)/2+1) j N b (by omega) (by omega) (by omega) (by omega) (by omega)
    refine⟨c,f,by rw[ED,Yo h,cond_true,Yo r];exact p,?_,by omega,by omega⟩
    have e:F8 l (a:Int) pf R ((i:Int),(j:Int))=some (.nx (((((i+j)/2:Nat):Int)+1),(j:Int))):=by
     dsimp only[F8,br,vz,vs,v2,ln,Af,cf,wi,AC,ca,fl,br,AC,wk,shr]
     grind
    rw[Ag,e]
    exact q
   ·obtain⟨c,f,p,q,w,z⟩:=ba l R a pf cmp o hl k d i ((i+j)/2) N b (by omega) (by omega) (by omega) (by omega) (by omega)
    refine⟨c,f,by rw[ED,Yo h,cond_true,Yp r];exact p,?_,by omega,by omega⟩
    have e:F8 l (a:Int) pf R ((i:Int),(j:Int))=some (.nx ((i:Int),(((i+j)/2:Nat):Int))):=by
     dsimp only[F8,br,vz,vs,v2,ln,Af,cf,wi,AC,ca,fl,br,AC,wk,shr]
     grind
    rw[Ag,e]
    exact q
  ·have h:¬(i:Int)<(j:Int):=by omega
   refine⟨i,j,by rw[ED,Yp h,cond_false],?_,Ye _,n⟩
   have e:F8 l (a:Int) pf R ((i:Int),(j:Int))=some (.ex (i:Int)):=by
    dsimp only[F8,br,vz,vs,v2,ln,Af,cf,wi,AC,ca,fl,br,AC,wk,shr]
    grind
   rw[Ag,e]
theorem bm(l:List α)(R:List α→Int→Int→Int→(α→α→Option Int)→Option (List α))(a:Nat)(pf:α→α→Option Int)(cmp:α→α→Int)(o:AQ pf cmp l)(hl:l.length≤4194304)(k:a<l.length):∀(d i j N b:Nat),j-i≤d→d<N→j-i<b→i≤j→j≤l.length→
  ∃c f,EE (Rw.z:α) l a cmp b i j=.inl (c,f)∧Ag (F7 l (a:Int) pf R) N ((i:Int),(j:Int))=some (.inl (c:Int))∧i≤c∧c≤j
 |d,i,j,N,b,A,hN,B,n,C=>by
  obtain⟨N,rfl⟩:∃m,N=m+1:=⟨N-1,by omega⟩
  obtain⟨b,rfl⟩:∃m,b=m+1:=⟨b-1,by omega⟩
  by_cases g:i<j
  ·obtain⟨d,rfl⟩:∃m,d=m+1:=⟨d-1,by omega⟩
   have h:(i:Int)<(j:Int):=by omega
   have t:i≤(i+j)/2:=by omega
   have u:(i+j)/2<j:=by omega
   have v:=I4 (x:=i) (y:=j) (by omega)
   have E: -9223372036854775808≤(i:Int)+(j:Int)∧(i:Int)+(j:Int)<9223372036854775808:=by omega
   have s:(0:Int)≤1:=by decide
   have D:=o.atI (i:=a) (j:=(i+j)/2) k (by omega)
   by_cases r:cmp (l.getD a Rw.z) (l.getD ((i+j)/2) Rw.z)<0
   ·obtain⟨c,f,p,q,w,z⟩:=bm l R a pf cmp o hl k d i ((i+j)/2) N b (by omega) (by omega) (by omega) (by omega) (by omega)
    refine⟨c,f,by rw[EE,Yo h,cond_true,Yo r];exact p,?_,by omega,by omega⟩
    have e:F7 l (a:Int) pf R ((i:Int),(j:Int))=some (.nx ((i:Int),(((i+j)/2:Nat):Int))):=by
     dsimp only[F7,br,vz,vs,ln,Af,cf,wi,AC,ca,fl,br,AC,wk,shr]
     grind
    rw[Ag,e]
    exact q
   ·obtain⟨c,f,p,q,w,z⟩:=bm l R a pf cmp o hl k d ((i+j)/2+1) j N b (by omega) (by omega) (by omega) (by omega) (by omega)
    refine⟨c,f,by rw[EE,Yo h,cond_true,Yp r];exact p,?_,by omega,by omega⟩
    have e:F7 l (a:Int) pf R ((i:Int),(j:Int))=some (.nx (((((i+j)/2:Nat):Int)+1),(j:Int))):=by
     dsimp only[F7,br,vz,vs,ln,Af,cf,wi,AC,ca,fl,br,AC,wk,shr]
     grind
    rw[Ag,e]
    exact q
  ·have h:¬(i:Int)<(j:Int):=by omega
   refine⟨i,j,by rw[EE,Yp h,cond_false],?_,Ye _,n⟩
   have e:F7 l (a:Int) pf R ((i:Int),(j:Int))=some (.ex (i:Int)):=by
    dsimp only[F7,br,vz,vs,ln,Af,cf,wi,AC,ca,fl,br,AC,wk,shr]
    grind
   rw[Ag,e]
end
section
variable {α:Type} [Rw α] [Tid α]
theorem pQ(l:List α)(R:List α→Int→Int→Int→(α→α→Option Int)→Option (List α))(pf:α→α→Option Int)(a0:Nat×Nat)(hl:l.length≤4194304)(j:1≤a0.1)(k:a0.1≤l.length):∀(d i:Nat) (v:List α) (N a:Nat),a0.1-1-i≤d→d<N→a0.1-1-i<a→v.Perm l→i≤l.length→
  ∃h b,FT (Rw.z:α) a0 a i v=.inl (h,b)∧Ag (HD l pf R (a0.1:Int)) N ((i:Int),v)=some (.inl b)∧b.Perm l
 |d,i,v,N,a,w,hN,x,f,hi=>by
  have n:=f.length_eq
  obtain⟨N,rfl⟩:∃m,N=m+1:=⟨N-1,by omega⟩
  obtain⟨a,rfl⟩:∃m,a=m+1:=⟨a-1,by omega⟩
  have u:(a0.1:Int)-1=((a0.1-1:Nat):Int):=by omega
  have C: -9223372036854775808≤((a0.1-1:Nat):Int)∧((a0.1-1:Nat):Int)<9223372036854775808:=by omega
  by_cases g:i<a0.1-1
  ·obtain⟨d,rfl⟩:∃m,d=m+1:=⟨d-1,by omega⟩
   have c:(i:Int)<((a0.1-1:Nat):Int):=by omega
   obtain⟨h,b,q,r,s⟩:=pQ l R pf a0 hl j k d (i+1) ((v.set i (v.getD (i+1) Rw.z)).set (i+1) (v.getD i Rw.z)) N a (by omega) (by omega) (by omega) ((J4 v i (i+1) (by omega) (by omega)).trans f) (by omega)
   refine⟨h,b,by rw[FT,Yo c,cond_true];exact q,?_,s⟩
   have t:(i:Int)+1=((i+1:Nat):Int):=by omega
   have B: -9223372036854775808≤((i+1:Nat):Int)∧((i+1:Nat):Int)<9223372036854775808:=by omega
   have y:(0:Int)≤(i:Int)∧(i:Int)<(l.length:Int):=by omega
   have z:(0:Int)≤((i+1:Nat):Int)∧((i+1:Nat):Int)<(l.length:Int):=by omega
   have o:i<v.length:=by omega
   have p:i+1<v.length:=by omega
   have A:v[i]?=some (v.getD i Rw.z):=by rw[Yj,Ya o];rfl
   have v2:v[i+1]?=some (v.getD (i+1) Rw.z):=by rw[Yj,Ya p];rfl
   have e:HD l pf R (a0.1:Int) ((i:Int),v)=some (.nx (((i+1:Nat):Int),(v.set i (v.getD (i+1) Rw.z)).set (i+1) (v.getD i Rw.z))):=by
    dsimp only[HD,br,vz,vs,ln,Af,wi,AC,ca,st,B0,fl,br,AC,wk,shr]
    grind
   rw[Ag,e]
   exact r
  ·have c:¬(i:Int)<((a0.1-1:Nat):Int):=by omega
   refine⟨i,v,by rw[FT,Yp c,cond_false],?_,f⟩
   have e:HD l pf R (a0.1:Int) ((i:Int),v)=some (.ex v):=by
    dsimp only[HD,br,vz,vs,ln,Af,wi,AC,ca,st,B0,fl,br,AC,wk,shr]
    grind
   rw[Ag,e]
theorem tU(l:List α)(R:List α→Int→Int→Int→(α→α→Option Int)→Option (List α))(pf:α→α→Option Int)(b:Nat×Nat)(hl:l.length≤4194304):∀(i:Nat) (v:List α) (N a:Nat),i<N→i<a→v.Perm l→i<l.length→
  ∃h f,Fg (Rw.z:α) b a i v=.inl (h,f)∧Ag (F6 l pf R (b.1:Int)) N ((i:Int),v)=some (.inl f)∧f.Perm l:=by
 intro i
 induction i with
 |zero=>
  intro v N a hN o d hi
  have g:=d.length_eq
  obtain⟨N,rfl⟩:∃m,N=m+1:=⟨N-1,by omega⟩
  obtain⟨a,rfl⟩:∃m,a=m+1:=⟨a-1,by omega⟩
  have c:¬(b.1:Int)<((0:Nat):Int):=by omega
  refine⟨0,v,by rw[Fg,Yp c,cond_false],?_,d⟩
  have e:F6 l pf R (b.1:Int) (((0:Nat):Int),v)=some (.ex v):=by
   dsimp only[F6,br,vz,vs,ln,Af,wi,AC,ca,st,B0,fl,br,AC,wk,shr]
   grind
  rw[Ag,e]
 |succ i p=>
  intro v N a hN o d hi
  have g:=d.length_eq
  obtain⟨N,rfl⟩:∃m,N=m+1:=⟨N-1,by omega⟩
  obtain⟨a,rfl⟩:∃m,a=m+1:=⟨a-1,by omega⟩
  by_cases c:(b.1:Int)<((i+1:Nat):Int)
  ·obtain⟨h,f,q,r,s⟩:=p ((v.set (i+1) (v.getD i Rw.z)).set i (v.getD (i+1) Rw.z)) N a (by omega) (by omega) ((J4 v (i+1) i (by omega) (by omega)).trans d) (by omega)
   refine⟨h,f,by rw[Fg,Yo c,cond_true];exact q,?_,s⟩
   have n:((i+1:Nat):Int)-1=(i:Int):=by omega
   have x: -9223372036854775808≤(i:Int)∧(i:Int)<9223372036854775808:=by omega
   have t:(0:Int)≤(i:Int)∧(i:Int)<(l.length:Int):=by omega
   have u:(0:Int)≤((i+1:Nat):Int)∧((i+1:Nat):Int)<(l.length:Int):=by omega
   have j:i<v.length:=by omega
   have k:i+1<v.length:=by omega
   have w:v[i]?=some (v.getD i Rw.z):=by rw[Yj,Ya j];rfl
   have v2:v[i+1]?=some (v.getD (i+1) Rw.z):=by rw[Yj,Ya k];rfl
   have e:F6 l pf R (b.1:Int) (((i+1:Nat):Int),v)=some (.nx ((i:Int),(v.set (i+1) (v.getD i Rw.z)).set i (v.getD (i+1) Rw.z))):=by
    dsimp only[F6,br,vz,vs,ln,Af,wi,AC,ca,st,B0,fl,br,AC,wk,shr]
    simp only[c,n,x,t,u,j,k,w,v2,Yv,Yy,DD,Fb,Yd,P8]
   rw[Ag,e]
   exact r
  ·refine⟨i+1,v,by rw[Fg,Yp c,cond_false],?_,d⟩
   have e:F6 l pf R (b.1:Int) (((i+1:Nat):Int),v)=some (.ex v):=by
    dsimp only[F6,br,vz,vs,ln,Af,wi,AC,ca,st,B0,fl,br,AC,wk,shr]
    simp only[c,YK,Ym,YH]
   rw[Ag,e]
end
section
variable {α:Type} [Rw α] [Tid α]
theorem aI(l:List α)(R:List α→Int→Int→Int→(α→α→Option Int)→Option (List α))(a m b:Nat)(pf:α→α→Option Int)(cmp:α→α→Int)(q:AQ pf cmp l)(hl:l.length≤4194304)(t:a<m)(u:m<b)(v:b≤l.length):∀(d i j N c:Nat),j-i≤d→d<N→j-i<c→i≤j→j≤(a+b)/2+m∧j≤l.length→(a+b)/2+m≤l.length+i→
  ∃e h,Fi (Rw.z:α) l a m b cmp c i j=.inl (e,h)∧Ag (Df l (a:Int) (m:Int) (b:Int) pf R) N ((i:Int),(j:Int))=some (.inl (e:Int))∧i≤e∧e≤j
 |d,i,j,N,c,E,hN,F,p,G,hi=>by
  obtain⟨N,rfl⟩:∃m,N=m+1:=⟨N-1,by omega⟩
  obtain⟨c,rfl⟩:∃m,c=m+1:=⟨c-1,by omega⟩
  by_cases g:i<j
  ·obtain⟨d,rfl⟩:∃m,d=m+1:=⟨d-1,by omega⟩
   have o:(i:Int)<(j:Int):=by omega
   have A:i≤(i+j)/2:=by omega
   have B:(i+j)/2<j:=by omega
   have n:=I4 (x:=i) (y:=j) (by omega)
   have k:=I4 (x:=a) (y:=b) (by omega)
   have e0:(((a+b)/2:Nat):Int)+(m:Int)-1=(((a+b)/2+m-1:Nat):Int):=by omega
   have I: -9223372036854775808≤(i:Int)+(j:Int)∧(i:Int)+(j:Int)<9223372036854775808:=by omega
   have z:(0:Int)≤1:=by decide
   have H:=q.atI (i:=(a+b)/2+m-1-(i+j)/2) (j:=(i+j)/2) (by omega) (by omega)
   by_cases w:cmp (l.getD ((a+b)/2+m-1-(i+j)/2) Rw.z) (l.getD ((i+j)/2) Rw.z)<0
   ·obtain⟨e,h,r,s,C,D⟩:=aI l R a m b pf cmp q hl t u v d i ((i+j)/2) N c (by omega) (by omega) (by omega) (by omega) (by omega) (by omega)
    refine⟨e,h,by rw[Fi,Yo o,cond_true,Yo w];exact r,?_,by omega,by omega⟩
    have f:Df l (a:Int) (m:Int) (b:Int) pf R ((i:Int),(j:Int))=some (.nx ((i:Int),(((i+j)/2:Nat):Int))):=by
     dsimp only[Df,br,vz,vs,ln,Af,cf,wi,AC,ca,fl,br,AC,wk,shr]
     rw[n,k,e0]
     grind
    rw[Ag,f]
    exact s
   ·obtain⟨e,h,r,s,C,D⟩:=aI l R a m b pf cmp q hl t u v d ((i+j)/2+1) j N c (by omega) (by omega) (by omega) (by omega) (by omega) (by omega)
    refine⟨e,h,by rw[Fi,Yo o,cond_true,Yp w];exact r,?_,by omega,by omega⟩
    have f:Df l (a:Int) (m:Int) (b:Int) pf R ((i:Int),(j:Int))=some (.nx (((((i+j)/2:Nat):Int)+1),(j:Int))):=by
     dsimp only[Df,br,vz,vs,ln,Af,cf,wi,AC,ca,fl,br,AC,wk,shr]
     rw[n,k,e0]
     grind
    rw[Ag,f]
    exact s
  ·have o:¬(i:Int)<(j:Int):=by omega
   refine⟨i,j,by rw[Fi,Yp o,cond_false],?_,Ye _,p⟩
   have f:Df l (a:Int) (m:Int) (b:Int) pf R ((i:Int),(j:Int))=some (.ex (i:Int)):=by
    dsimp only[Df,br,vz,vs,ln,Af,cf,wi,AC,ca,fl,br,AC,wk,shr]
    grind
   rw[Ag,f]
theorem aB(l:List α)(R:List α→Int→Int→Int→(α→α→Option Int)→Option (List α))(a m b:Nat)(pf:α→α→Option Int)(cmp:α→α→Int)(q:AQ pf cmp l)(hl:l.length≤4194304)(t:a<m)(u:m<b)(v:b≤l.length):∀(d i j N c:Nat),j-i≤d→d<N→j-i<c→i≤j→j≤(a+b)/2+m∧j≤l.length→(a+b)/2+m≤l.length+i→
  ∃e h,Fh (Rw.z:α) l a m b cmp c i j=.inl (e,h)∧Ag (Df l (a:Int) (m:Int) (b:Int) pf R) N ((i:Int),(j:Int))=some (.inl (e:Int))∧i≤e∧e≤j
 |d,i,j,N,c,E,hN,F,p,G,hi=>by
  obtain⟨N,rfl⟩:∃m,N=m+1:=⟨N-1,by omega⟩
  obtain⟨c,rfl⟩:∃m,c=m+1:=⟨c-1,by omega⟩
  by_cases g:i<j
  ·obtain⟨d,rfl⟩:∃m,d=m+1:=⟨d-1,by omega⟩
   have o:(i:Int)<(j:Int):=by omega
   have A:i≤(i+j)/2:=by omega
   have B:(i+j)/2<j:=by omega
   have n:=I4 (x:=i) (y:=j) (by omega)
   have k:=I4 (x:=a) (y:=b) (by omega)
   have e0:(((a+b)/2:Nat):Int)+(m:Int)-1=(((a+b)/2+m-1:Nat):Int):=by omega
   have I: -9223372036854775808≤(i:Int)+(j:Int)∧(i:Int)+(j:Int)<9223372036854775808:=by omega
   have z:(0:Int)≤1:=by decide
   have H:=q.atI (i:=(a+b)/2+m-1-(i+j)/2) (j:=(i+j)/2) (by omega) (by omega)
   by_cases w:cmp (l.getD ((a+b)/2+m-1-(i+j)/2) Rw.z) (l.getD ((i+j)/2) Rw.z)<0
   ·obtain⟨e,h,r,s,C,D⟩:=aB l R a m b pf cmp q hl t u v d i ((i+j)/2) N c (by omega) (by omega) (by omega) (by omega) (by omega) (by omega)
    refine⟨e,h,by rw[Fh,Yo o,cond_true,Yo w];exact r,?_,by omega,by omega⟩
    have f:Df l (a:Int) (m:Int) (b:Int) pf R ((i:Int),(j:Int))=some (.nx ((i:Int),(((i+j)/2:Nat):Int))):=by
     dsimp only[Df,br,vz,vs,ln,Af,cf,wi,AC,ca,fl,br,AC,wk,shr]
     rw[n,k,e0]
     grind
    rw[Ag,f]
    exact s
   ·obtain⟨e,h,r,s,C,D⟩:=aB l R a m b pf cmp q hl t u v d ((i+j)/2+1) j N c (by omega) (by omega) (by omega) (by omega) (by omega) (by omega)
    refine⟨e,h,by rw[Fh,Yo o,cond_true,Yp w];exact r,?_,by omega,by omega⟩
    have f:Df l (a:Int) (m:Int) (b:Int) pf R ((i:Int),(j:Int))=some (.nx (((((i+j)/2:Nat):Int)+1),(j:Int))):=by
     dsimp only[Df,br,vz,vs,ln,Af,cf,wi,AC,ca,fl,br,AC,wk,shr]
     rw[n,k,e0]
     grind
    rw[Ag,f]
    exact s
  ·have o:¬(i:Int)<(j:Int):=by omega
   refine⟨i,j,by rw[Fh,Yp o,cond_false],?_,Ye _,p⟩
   have f:Df l (a:Int) (m:Int) (b:Int) pf R ((i:Int),(j:Int))=some (.ex (i:Int)):=by
    dsimp only[Df,br,vz,vs,ln,Af,cf,wi,AC,ca,fl,br,AC,wk,shr]
    grind
   rw[Ag,f]
end
theorem iI{α:Type}(z:α)(c:Nat)(l:List α)(a m b:Nat)(cf:α→α→Int)(s:Nat):
  (cond ((decide (((s:Nat):Int)<((m:Nat):Int))&&decide (((m:Nat):Int)<(((((a+b)/2)+m)-s:Nat):Int)))) (cond ((decide (((a:Nat):Int)<((s:Nat):Int))&&decide (((s:Nat):Int)<(((a+b)/2:Nat):Int)))) (cond ((decide ((((a+b)/2:Nat):Int)<(((((a+b)/2)+m)-s:Nat):Int))&&decide ((((((a+b)/2)+m)-s:Nat):Int)<((b:Nat):Int)))) ((AX z c (AX z c (B5 z l s m ((((a+b)/2)+m)-s) cf) a s ((a+b)/2) cf) ((a+b)/2) ((((a+b)/2)+m)-s) b cf)) ((AX z c (B5 z l s m ((((a+b)/2)+m)-s) cf) a s ((a+b)/2) cf))) (cond ((decide ((((a+b)/2:Nat):Int)<(((((a+b)/2)+m)-s:Nat):Int))&&decide ((((((a+b)/2)+m)-s:Nat):Int)<((b:Nat):Int)))) ((AX z c (B5 z l s m ((((a+b)/2)+m)-s) cf) ((a+b)/2) ((((a+b)/2)+m)-s) b cf)) ((B5 z l s m ((((a+b)/2)+m)-s) cf)))) (cond ((decide (((a:Nat):Int)<((s:Nat):Int))&&decide (((s:Nat):Int)<(((a+b)/2:Nat):Int)))) (cond ((decide ((((a+b)/2:Nat):Int)<(((((a+b)/2)+m)-s:Nat):Int))&&decide ((((((a+b)/2)+m)-s:Nat):Int)<((b:Nat):Int)))) ((AX z c (AX z c l a s ((a+b)/2) cf) ((a+b)/2) ((((a+b)/2)+m)-s) b cf)) ((AX z c l a s ((a+b)/2) cf))) (cond ((decide ((((a+b)/2:Nat):Int)<(((((a+b)/2)+m)-s:Nat):Int))&&decide ((((((a+b)/2)+m)-s:Nat):Int)<((b:Nat):Int)))) ((AX z c l ((a+b)/2) ((((a+b)/2)+m)-s) b cf)) (l))))=Fp z c l a m b cf s:=by
 unfold Fp
 grind
section
variable {α:Type} [Rw α] [Tid α]
theorem oZ(R:List α→Int→Int→Int→(α→α→Option Int)→Option (List α))(pf:α→α→Option Int)(cmp:α→α→Int)(n:Nat)
  (p:∀(l:List α) (a m b:Nat),AQ pf cmp l→l.length≤4194304→b-a<n→a<m→m<b→b≤l.length→R l (a:Int) (m:Int) (b:Int) pf=some (AX Rw.z n l a m b cmp)∧(AX (Rw.z:α) n l a m b cmp).Perm l)
  (l:List α) (o:AQ pf cmp l) (a m b s:Nat) (hl:l.length≤4194304) (J:b-a<n+1) (D:a<m) (E:m<b) (F:b≤l.length) (G:4≤b-a) (H:s≤(a+b)/2) (I:(a+b)/2+m≤b+s):
  (aS l (a:Int) (m:Int) (b:Int) pf R (s:Int)).m=some (Fp (Rw.z:α) n l a m b cmp s)∧(Fp (Rw.z:α) n l a m b cmp s).Perm l:=by
 have u:=I4 (x:=a) (y:=b) (by omega)
 have v:(((a+b)/2:Nat):Int)+(m:Int)-(s:Int)=(((a+b)/2+m-s:Nat):Int):=by omega
 have w: -9223372036854775808≤(((a+b)/2+m-s:Nat):Int)∧(((a+b)/2+m-s:Nat):Int)<9223372036854775808:=by omega
 have A:a<(a+b)/2:=by omega
 have B:(a+b)/2<b:=by omega
 unfold Fp
 dsimp only[OL,OH,OM,OO,aS,IG,J6,J3,br,vz,vg,vs,v2,wi,wk,shr,AC,ca,EX,cf,G8,lc,ln,lf,Af,fl,st,B0,lr,wg]
 simp only[u,v]
 generalize (a+b)/2=h at*
 generalize h+m-s=e at*
 simp only[w,DD,Yy]
 have C:e≤b:=by omega
 by_cases c:s<m∧m<e<;>by_cases g:a<s∧s<h<;>by_cases i:h<e∧e<b
 ·
   have q:=QX l s m e cmp hl c.1 c.2 (by omega)
   have f:=(OK (z:=(Rw.z:α)) l s m e cmp c.1 c.2 (by omega)).2.1
   have k:=f.length_eq
   obtain⟨r,d⟩:=p (B5 (Rw.z:α) l s m e cmp) a s h (o.perm f) (by omega) (by omega) g.1 g.2 (by omega)
   obtain⟨t,j⟩:=p (AX (Rw.z:α) n (B5 (Rw.z:α) l s m e cmp) a s h cmp) h e b (o.perm (d.trans f)) (by have:=d.length_eq;omega) (by omega) i.1 i.2 (by have:=d.length_eq;omega)
   simp only[DT c,DT g,DT i,q,k,r,d.length_eq,t,j.length_eq,Yy,Yd,cond_true]
   first|exact⟨trivial,j.trans (d.trans f)⟩|exact⟨rfl,j.trans (d.trans f)⟩
 ·
   have q:=QX l s m e cmp hl c.1 c.2 (by omega)
   have f:=(OK (z:=(Rw.z:α)) l s m e cmp c.1 c.2 (by omega)).2.1
   have k:=f.length_eq
   obtain⟨r,d⟩:=p (B5 (Rw.z:α) l s m e cmp) a s h (o.perm f) (by omega) (by omega) g.1 g.2 (by omega)
   simp only[DT c,DT g,DR i,q,k,r,d.length_eq,Ym,Yy,YH,Yd,cond_true,cond_false]
   first|exact⟨trivial,d.trans f⟩|exact⟨rfl,d.trans f⟩
 ·
   have q:=QX l s m e cmp hl c.1 c.2 (by omega)
   have f:=(OK (z:=(Rw.z:α)) l s m e cmp c.1 c.2 (by omega)).2.1
   have k:=f.length_eq
   obtain⟨t,j⟩:=p (B5 (Rw.z:α) l s m e cmp) h e b (o.perm f) (by omega) (by omega) i.1 i.2 (by omega)
   simp only[DT c,DR g,DT i,q,k,t,j.length_eq,Ym,Yy,YH,Yd,cond_true,cond_false]
   first|exact⟨trivial,j.trans f⟩|exact⟨rfl,j.trans f⟩
 ·
   have q:=QX l s m e cmp hl c.1 c.2 (by omega)
   have f:=(OK (z:=(Rw.z:α)) l s m e cmp c.1 c.2 (by omega)).2.1
   have k:=f.length_eq
   simp only[DT c,DR g,DR i,q,k,Ym,Yy,YH,Yd,cond_true,cond_false]
   first|exact⟨trivial,f⟩|exact⟨rfl,f⟩
 ·
   obtain⟨r,d⟩:=p l a s h o (by omega) (by omega) g.1 g.2 (by omega)
   obtain⟨t,j⟩:=p (AX (Rw.z:α) n l a s h cmp) h e b (o.perm d) (by have:=d.length_eq;omega) (by omega) i.1 i.2 (by have:=d.length_eq;omega)
   simp only[DR c,DT g,DT i,r,d.length_eq,t,j.length_eq,Ym,Yy,YH,Yd,cond_true,cond_false]
   first|exact⟨trivial,j.trans d⟩|exact⟨rfl,j.trans d⟩
 ·
   obtain⟨r,d⟩:=p l a s h o (by omega) (by omega) g.1 g.2 (by omega)
   simp only[DR c,DT g,DR i,r,d.length_eq,Ym,Yy,YH,Yd,cond_true,cond_false]
   first|exact⟨trivial,d⟩|exact⟨rfl,d⟩
 ·
   obtain⟨t,j⟩:=p l h e b o (by omega) (by omega) i.1 i.2 (by omega)
   simp only[DR c,DR g,DT i,t,j.length_eq,Ym,Yy,YH,Yd,cond_true,cond_false]
   first|exact⟨trivial,j⟩|exact⟨rfl,j⟩
 simp only[DR c,DR g,DR i,Ym,YH,cond_false]
 first|exact⟨trivial,.refl _⟩|exact⟨rfl,.refl _⟩
theorem bx{pf:α→α→Option Int}{cmp:α→α→Int}:Q5 pf cmp:=by
 intro c
 induction c with
 |zero=>intro l a m b _ _ h;omega
 |succ c w=>
  intro l a m b d hl t f g e
  rw[AX]
  show(J3 l (a:Int) (m:Int) (b:Int) pf (C1 c)).m=_∧_
  have wa: -9223372036854775808≤((m-a:Nat):Int)∧((m-a:Nat):Int)<9223372036854775808:=by omega
  have P: -9223372036854775808≤((b-m:Nat):Int)∧((b-m:Nat):Int)<9223372036854775808:=by omega
  have H:(m:Int)-(a:Int)=((m-a:Nat):Int):=by omega
  have I:(b:Int)-(m:Int)=((b-m:Nat):Int):=by omega
  by_cases J:m-a=1
  ·have k:((m-a:Nat):Int)=1:=by omega
   obtain⟨i,j,p,q,r,s⟩:=ba l (C1 c) a pf cmp d hl (by omega) (b-m) m b Aj (b-m+1) (Ye _) (A6 (by omega)) (YN _) (by omega) e
   obtain⟨z,v,B,C,D⟩:=pQ l (C1 c) pf (i,j) hl (show 1≤i by omega) (show i≤l.length by omega) (i-1-a) a l Aj (i-a+1) (Ye _) (A6 (by omega)) (by dsimp only;omega) (.refl _) (by omega)
   dsimp only[J3,br,vz,vg,vs,v2,wi,wk,shr,AC,ca,EX,cf,G8,lc,ln,lf,Af,fl,st,B0,lr,wg]
   grind
  ·have k:¬((m-a:Nat):Int)=1:=by omega
   by_cases K:b-m=1
   ·have n:((b-m:Nat):Int)=1:=by omega
    obtain⟨i,j,p,q,r,s⟩:=bm l (C1 c) m pf cmp d hl (by omega) (m-a) a m Aj (m-a+1) (Ye _) (A6 (by omega)) (YN _) (by omega) (by omega)
    obtain⟨z,v,B,C,D⟩:=tU l (C1 c) pf (i,j) hl m l Aj (m+1) (A6 (by omega)) (YN _) (.refl _) (by omega)
    dsimp only[J3,br,vz,vg,vs,v2,wi,wk,shr,AC,ca,EX,cf,G8,lc,ln,lf,Af,fl,st,B0,lr,wg]
    grind
   ·have n:¬((b-m:Nat):Int)=1:=by omega
    have A:=I4 (x:=a) (y:=b) (by omega)
    have M: -9223372036854775808≤(a:Int)+(b:Int)∧(a:Int)+(b:Int)<9223372036854775808:=by omega
    have F:(((a+b)/2:Nat):Int)+(m:Int)=(((a+b)/2+m:Nat):Int):=by omega
    have w2: -9223372036854775808≤(((a+b)/2+m:Nat):Int)∧(((a+b)/2+m:Nat):Int)<9223372036854775808:=by omega
    have N: -9223372036854775808≤(((a+b)/2+m:Nat):Int)-1∧(((a+b)/2+m:Nat):Int)-1<9223372036854775808:=by omega
    have u:(0:Int)≤1:=by decide
    by_cases L:(a+b)/2<m
    ·have o:(((a+b)/2:Nat):Int)<(m:Int):=by omega
     have G:(((a+b)/2+m:Nat):Int)-(b:Int)=(((a+b)/2+m-b:Nat):Int):=by omega
     have O: -9223372036854775808≤(((a+b)/2+m-b:Nat):Int)∧(((a+b)/2+m-b:Nat):Int)<9223372036854775808:=by omega
     obtain⟨i,j,p,q,r,s⟩:=aI l (C1 c) a m b pf cmp d hl f g e ((a+b)/2-((a+b)/2+m-b)) ((a+b)/2+m-b) ((a+b)/2) Aj ((a+b)/2-((a+b)/2+m-b)+1) (Ye _) (A6 (by omega)) (YN _) (by omega) (by omega) (by omega)
     obtain⟨t1,t2⟩:=oZ (C1 c) pf cmp c w l d a m b i hl t f g e (by omega) (by omega) (by omega)
     have E:=iI (Rw.z:α) c l a m b cmp i
     dsimp only[J3,J6,IG,br,vz,vg,vs,v2,wi,wk,shr,AC,ca,EX,cf,G8,lc,ln,lf,Af,fl,st,B0,lr,wg]
     grind
    ·have o:¬(((a+b)/2:Nat):Int)<(m:Int):=by omega
     obtain⟨i,j,p,q,r,s⟩:=aB l (C1 c) a m b pf cmp d hl f g e (m-a) a m Aj (m-a+1) (Ye _) (A6 (by omega)) (YN _) (by omega) (by omega) (by omega)
     obtain⟨t1,t2⟩:=oZ (C1 c) pf cmp c w l d a m b i hl t f g e (by omega) (by omega) (by omega)
     have E:=iI (Rw.z:α) c l a m b cmp i
     dsimp only[J3,J6,IG,br,vz,vg,vs,v2,wi,wk,shr,AC,ca,EX,cf,G8,lc,ln,lf,Af,fl,st,B0,lr,wg]
     grind
end
def Eu(x y:Slt):Int:=BP x.num y.num
theorem Mh{α:Type}(k:α→Int):CmpLaw fun x y:α=>BP (k x) (k y):=by
 constructor<;>(intros;unfold BP at*;grind)
def Ij(x y:Raw):Int:=BP x.num y.num
theorem ZyO{a b:ByteArray}(h:a.toList=b.toList):a=b:=by
 rw[ByteArray.toList_eq,ByteArray.toList_eq]at h
 exact ByteArray.ext (CN h)
theorem HR{a b:ByteArray}:Ew a b<0↔a.toList<b.toList:=by
 have e:Bw a b=true↔a.toList<b.toList:=by unfold Bw;rw[Go.Proofs.bytesLess_eq,YJ]
 rw[←e]
 unfold Ew
 cases h:Bw a b with
 |true=>simp
 |false=>by_cases c:a=b<;>simp[c]
theorem ZzD{α:Type}(k:α→ByteArray):CmpLaw fun x y:α=>Ew (k x) (k y):=by
 constructor
 ·intro x y w a b
  exact HR.2 (List.lt_trans (HR.1 a) (HR.1 b))
 ·intro x y w a b e
  have c:=fun h=>a (HR.2 h)
  have d:=fun h=>b (HR.2 h)
  exact List.le_trans (Qm.1 d) (Qm.1 c) (HR.1 e)
 ·intro x h
  exact List.lt_irrefl _ (HR.1 h)
theorem ug{a b:ByteArray}:Ew a b=0↔¬Ew a b<0∧¬Ew b a<0:=by
 constructor
 ·intro h
  have e:a=b:=Y4 (by rw[←TU,h];rfl)
  subst e
  exact⟨by omega,by omega⟩
 ·rintro⟨c,d⟩
  have e:a=b:=ZyO (List.le_antisymm (Qm.1 fun h=>d (HR.2 h)) (Qm.1 fun h=>c (HR.2 h)))
  exact Y4 (by rw[TU];exact Yo e)
theorem VK{a b:Int}:BP a b=0↔¬BP a b<0∧¬BP b a<0:=by
 unfold BP
 grind
def Ik(k:Int)(a b:Val):Int:=if k=7∨k=8 then Ew a.text b.text else if k=2∨k=3 then BP (IntKind.u64.wrap (a.bits+9223372036854775808)) (IntKind.u64.wrap (b.bits+9223372036854775808))else if k=6 then BP (CL a.bits.toNat) (CL b.bits.toNat)else BP a.bits b.bits
theorem aP(k:Int):CmpLaw (Ik k):=by
 unfold Ik
 split
 ·exact ZzD Val.text
 ·split
  ·exact Mh fun v:Val=>IntKind.u64.wrap (v.bits+9223372036854775808)
  ·split
   ·exact Mh fun v:Val=>((CL v.bits.toNat:Nat):Int)
   ·exact Mh Val.bits
theorem vi(k:Int)(a b:Val):Ik k a b=0↔¬Ik k a b<0∧¬Ik k b a<0:=by
 unfold Ik
 split
 ·exact ug
 ·split
  ·exact VK
  ·split
   ·exact VK
   ·exact VK
theorem a7(a b:Val):CW a b=if a.kind≠b.kind then BP a.kind b.kind else Ik a.kind a b:=rfl
theorem HK(a b:Val):CW a b<0↔a.kind<b.kind∨(a.kind=b.kind∧Ik a.kind a b<0):=by
 rw[a7]
 by_cases e:a.kind=b.kind
 ·simp[e]
 ·have h:BP a.kind b.kind<0↔a.kind<b.kind:=by unfold BP;grind
  simp[e,h]
theorem aY:CmpLaw CW:=by
 constructor
 ·intro x y w
  rw[HK,HK,HK]
  rintro(b|⟨a,b⟩) (c|⟨f,c⟩)
  ·exact .inl (by omega)
  ·exact .inl (by omega)
  ·exact .inl (by omega)
  ·exact .inr ⟨a.trans f,(aP _).tr x y w b (by rw[a];exact c)⟩
 ·intro x y w
  rw[HK,HK,HK]
  intro b c d
  have a1:¬x.kind<y.kind:=fun h=>b (.inl h)
  have g:¬y.kind<w.kind:=fun h=>c (.inl h)
  rcases d with d|⟨e,d⟩
  ·omega
  ·have a:x.kind=y.kind:=by omega
   exact(aP _).ng x y w (fun h=>b (.inr ⟨a,h⟩)) (fun h=>c (.inr ⟨by omega,by rw[←a];exact h⟩)) d
 ·intro x
  rw[HK]
  rintro(h|⟨_,h⟩)
  ·omega
  ·exact(aP _).ir x h
theorem vY(a b:Val):CW a b=0↔¬CW a b<0∧¬CW b a<0:=by
 rw[HK,HK]
 by_cases e:a.kind=b.kind
 ·have f:CW a b=Ik a.kind a b:=by rw[a7];simp[e]
  rw[f,vi]
  rw[←e]
  constructor
  ·rintro⟨c,d⟩
   exact⟨fun h=>h.elim (by omega) fun h=>c h.2,fun h=>h.elim (by omega) fun h=>d h.2⟩
  ·rintro⟨c,d⟩
   exact⟨fun h=>c (.inr ⟨rfl,h⟩),fun h=>d (.inr ⟨rfl,h⟩)⟩
 ·have f:CW a b=BP a.kind b.kind:=by rw[a7];simp[e]
  rw[f]
  constructor
  ·intro h
   exfalso
   unfold BP at h
   grind
  ·rintro⟨c,d⟩
   exfalso
   have a1:¬a.kind<b.kind:=fun h=>c (.inl h)
   have g:¬b.kind<a.kind:=fun h=>d (.inl h)
   omega
def AW(x y:Pr):Int:=CW x.key y.key
theorem F1:CmpLaw AW:=⟨fun x y w=>aY.tr x.key y.key w.key,fun x y w=>aY.ng x.key y.key w.key,fun x=>aY.ir x.key⟩
theorem GS(x y:Pr):AW x y=0↔¬AW x y<0∧¬AW y x<0:=vY x.key y.key
theorem ZuW{x y w:Pr}(a:AW x y<0)(b:¬AW w y<0):AW x w<0:=Decidable.byContradiction fun h=>F1.ng x w y h b a
theorem tX(x y:Pr)(a:AW x y<0)(b:AW y x<0):False:=F1.ir x (F1.tr x y x a b)
theorem oV{x y:Pr}(h:AW x y=0):AW y x=0:=(GS y x).2 ⟨((GS x y).1 h).2,((GS x y).1 h).1⟩
theorem Zz9{x y w:Pr}(a:AW x y=0)(b:AW y w=0):AW x w=0:=by
 rw[GS]at*
 exact⟨F1.ng _ _ _ a.1 b.1,F1.ng _ _ _ b.2 a.2⟩
def GY(l:List Pr):Prop:=l.Pairwise fun x y=>AW x y<0
theorem Su{a b:List Pr}(c:GY a)(d:GY b)(h:∀x,x∈a↔x∈b):a=b:=by
 have f:∀{l:List Pr},GY l→l.Nodup:=fun hl=>hl.imp fun {x y} h e=>by subst e;exact F1.ir _ h
 exact aj tX c d ((List.perm_ext_iff_of_nodup (f c) (f d)).2 h)
def wP(l:List Pr)(x:Pr):Prop:=∃j:Nat,l[j]?=some x∧∀(k:Nat) (y:Pr),l[k]?=some y→AW x y=0→k≤j
theorem mF(q:Pr)(out:List Pr)(p:Pr):H4 (q::out) p=if AW q p<0 then q::H4 out p else p::q::out:=by
 unfold H4 Ul
 rw[List.findIdx_cons]
 by_cases h:AW q p<0
 ·have a:CW q.key p.key<0:=h
  rw[Yk h,Yo a]
  rfl
 ·have a:¬CW q.key p.key<0:=h
  rw[Yi h,Yp a]
  rfl
theorem nF{out:List Pr}{p x:Pr}:x∈H4 out p↔x=p∨x∈out:=by
 induction out with
 |nil=>exact Yu
 |cons q out a=>
  rw[mF]
  split
  ·rw[Yu,a,Yu]
   grind
  ·exact Yu
theorem Zur{out:List Pr}{p:Pr}(h:GY out)(b:∀x∈out,¬AW x p=0):GY (H4 out p):=by
 induction out with
 |nil=>exact Vf _ _
 |cons q out g=>
  obtain⟨a,f⟩:=Y7.1 h
  rw[mF]
  split
  ·rename_i c
   refine Y7.2 ⟨fun x hx=>?_,g f fun x hx=>b x (Yx _ hx)⟩
   rcases nF.1 hx with rfl|hx
   ·exact c
   ·exact a x hx
  ·rename_i c
   have d:AW p q<0:=Decidable.byContradiction fun e=>b q Yz ((GS q p).2 ⟨c,e⟩)
   refine Y7.2 ⟨fun x hx=>?_,h⟩
   rcases Yu.1 hx with rfl|hx
   ·exact d
   ·exact F1.tr p q x d (a x hx)
theorem ZE(l:List Pr):∀i:Nat,GY (Es l i)∧∀x,x∈Es l i↔∃j:Nat,j<i∧l[j]?=some x∧∀(k:Nat) (y:Pr),l[k]?=some y→AW x y=0→k≤j
 |0=>⟨.nil,fun x=>Iff.intro (fun h=>by cases h) fun⟨j,h,_⟩=>absurd h (Y0 j)⟩
 |i+1=>by
  obtain⟨o,g⟩:=ZE l i
  unfold Es
  cases e:l[i]? with
  |none=>
   refine⟨o,fun x=>(g x).trans ?_⟩
   constructor
   ·rintro⟨j,a,b⟩
    exact⟨j,by omega,b⟩
   ·rintro⟨j,a,b⟩
    have:j≠i:=fun n=>by rw[n,e]at b;cases b.1
    exact⟨j,by omega,b⟩
  |some q=>
   have r:((l.drop (i+1)).any fun x=>decide (CW q.key x.key=0))=true↔∃(k:Nat) (y:Pr),i<k∧l[k]?=some y∧AW q y=0:=by
    rw[YL]
    constructor
    ·rintro⟨y,hy,a⟩
     obtain⟨k,m⟩:=YG.1 hy
     rw[YW]at m
     exact⟨i+1+k,y,by omega,m,Y4 a⟩
    ·rintro⟨k,y,a,b,c⟩
     refine⟨y,YG.2 ⟨k-(i+1),?_⟩,Yo c⟩
     rw[YW,show i+1+(k-(i+1))=k by omega]
     exact b
   dsimp only
   split
   ·rename_i c
    obtain⟨z,A,a0,s,t⟩:=r.1 c
    refine⟨o,fun x=>(g x).trans ?_⟩
    constructor
    ·rintro⟨j,a,b⟩
     exact⟨j,by omega,b⟩
    ·rintro⟨j,a,d,f⟩
     have:j≠i:=fun n=>by
      subst n
      rw[e]at d
      cases d
      have:=f z A s t
      omega
     exact⟨j,by omega,d,f⟩
   ·rename_i c
    have v:∀x∈Es l i,¬AW x q=0:=fun x hx w=>by
     obtain⟨j,a,_,b⟩:=(g x).1 hx
     have:=b i q e w
     omega
    refine⟨Zur o v,fun x=>?_⟩
    rw[nF,g]
    constructor
    ·rintro(rfl|⟨j,a,b⟩)
     ·refine⟨i,YN _,e,fun k y m hy=>?_⟩
      exact Nat.le_of_not_lt fun p=>c (r.2 ⟨k,y,p,m,hy⟩)
     ·exact⟨j,by omega,b⟩
    ·rintro⟨j,a,d,f⟩
     by_cases u:j=i
     ·subst u
      rw[e]at d
      cases d
      exact .inl rfl
     ·exact .inr ⟨j,by omega,d,f⟩
theorem Mc(l:List Pr):GY (CB l):=(ZE l l.length).1
theorem J2{l:List Pr}{x:Pr}:x∈CB l↔wP l x:=by
 refine((ZE l l.length).2 x).trans ?_
 constructor
 ·rintro⟨j,_,b⟩
  exact⟨j,b⟩
 ·rintro⟨j,b⟩
  exact⟨j,(Yf.1 b.1).1,b⟩
def Ej:List Pr→List Pr
 |[]=>[]
 |[p]=>[p]
 |p::q::l=>if AW p q=0 then Ej (q::l)else p::Ej (q::l)
theorem lT:∀r:List (Pr×Nat),r.Pairwise (FL AW)→GY (Ej (r.map (·.1)))∧∀x,x∈Ej (r.map (·.1))↔∃j,(x,j)∈r∧∀y k,(y,k)∈r→AW x y=0→k≤j
 |[],_=>⟨.nil,fun x=>Iff.intro (fun h=>by cases h) fun⟨j,h,_⟩=>by cases h⟩
 |[(p,i)],_=>by
  refine⟨Vf _ _,fun x=>?_⟩
  show x∈[p]↔_
  rw[Hq]
  constructor
  ·rintro rfl
   refine⟨i,Hq.2 rfl,fun y k h _=>?_⟩
   cases Hq.1 h
   exact Ye _
  ·rintro⟨j,h,_⟩
   cases Hq.1 h
   rfl
 |(p,i)::(q,j)::r,h=>by
  obtain⟨t,o⟩:=Y7.1 h
  obtain⟨n,g⟩:=lT ((q,j)::r) o
  have m:=t (q,j) Yz
  show GY (if AW p q=0 then Ej (((q,j)::r).map (·.1))else p::Ej (((q,j)::r).map (·.1)))∧∀x,x∈(if AW p q=0 then Ej (((q,j)::r).map (·.1))else p::Ej (((q,j)::r).map (·.1)))↔_
  by_cases c:AW p q=0
  ·rw[Yk c]
   have u:i<j:=by
    rcases m with a|⟨_,a⟩
    ·exact absurd a ((GS p q).1 c).1
    ·exact a
   refine⟨n,fun x=>(g x).trans ?_⟩
   constructor
   ·rintro⟨k,a,b⟩
    refine⟨k,Yx _ a,fun y l hy e=>?_⟩
    rcases Yu.1 hy with hy|hy
    ·cases hy
     have:=b q j Yz (Zz9 e c)
     omega
    ·exact b y l hy e
   ·rintro⟨k,a,b⟩
    rcases Yu.1 a with a|a
    ·cases a
     have:=b q j (Yx _ Yz) c
     omega
    ·exact⟨k,a,fun y l hy e=>b y l (Yx _ hy) e⟩
  ·rw[Yi c]
   have f:AW p q<0:=by
    rcases m with a|⟨a,_⟩
    ·exact a
    ·exact Decidable.byContradiction fun s=>c ((GS p q).2 ⟨s,a⟩)
   have d:∀y k,(y,k)∈(q,j)::r→AW p y<0:=fun y k hy=>by
    rcases Yu.1 hy with hy|hy
    ·cases hy
     exact f
    ·rcases(Y7.1 o).1 (y,k) hy with a|⟨a,_⟩
     ·exact F1.tr _ _ _ f a
     ·exact ZuW f a
   refine⟨Y7.2 ⟨fun x hx=>?_,n⟩,fun x=>?_⟩
   ·obtain⟨k,a,_⟩:=(g x).1 hx
    exact d x k a
   ·rw[Yu,g]
    constructor
    ·rintro(rfl|⟨k,a,b⟩)
     ·refine⟨i,Yz,fun y k hy e=>?_⟩
      rcases Yu.1 hy with hy|hy
      ·cases hy
       exact Ye _
      ·exact absurd (d y k hy) ((GS _ _).1 e).1
     ·refine⟨k,Yx _ a,fun y l hy e=>?_⟩
      rcases Yu.1 hy with hy|hy
      ·cases hy
       exact absurd (d x k a) ((GS _ _).1 e).2
      ·exact b y l hy e
    ·rintro⟨k,a,b⟩
     rcases Yu.1 a with a|a
     ·cases a
      exact .inl rfl
     ·exact .inr ⟨k,a,fun y l hy e=>b y l (Yx _ hy) e⟩
theorem yN(l:List Pr):Ej (B1 AW l)=CB l:=by
 obtain⟨r,c,d,e⟩:=Sb F1 l 0 [] .nil (fun a f=>by cases f)
 obtain⟨s1,s2⟩:=lT r d
 have c:B1 AW l=r.map (·.1):=c
 rw[c]
 refine Su s1 (Mc l) fun x=>(s2 x).trans (Iff.trans ?_ J2.symm)
 have hm:∀y k,(y,k)∈r↔l[k]?=some y:=fun y k=>by
  rw[e.mem_iff,GB]
  exact List.mem_zipIdx_iff_getElem?
 constructor
 ·rintro⟨j,a,b⟩
  exact⟨j,(hm x j).1 a,fun k y g=>b y k ((hm y k).2 g)⟩
 ·rintro⟨j,a,b⟩
  exact⟨j,(hm x j).2 a,fun y k hy=>b k y ((hm y k).1 hy)⟩
theorem mi{l:List Slt}(h:l.Pairwise fun a b=>a.num≠b.num):Kw (B1 Eu l):=by
 have d:=lC (cf:=Eu) (Mh Slt.num) l
 have f:(B1 Eu l).Pairwise fun a b=>a.num≠b.num:=(ej (fun {a b} h e=>h e.symm) (FV l)).2 h
 refine(ed.2 ⟨d,f⟩).imp fun {a b} c=>?_
 have:=c.1
 unfold Eu BP at this
 have g:=c.2
 grind
theorem n6(l:List Raw)(y x:Raw):∀k:Nat,k≤l.length→Gm (l++[y]) x k=Gm l x k
 |0,_=>rfl
 |k+1,h=>by
  rw[Gm,Gm,n6 l y x k (by omega),Yj,Yj,Yr (by omega)]
theorem mZ(x:Raw):∀(n:Nat) (out:List Raw),out.length=n→insR out x=Go.Eng.insR Ij out x
 |0,out,h=>by
  rw[Vg.1 h]
  rfl
 |n+1,out,h=>by
  have d:out≠[]:=fun e=>by rw[e]at h;cases h
  obtain⟨l,y,rfl⟩:∃l y,out=l++[y]:=⟨_,_,(dZ d).symm⟩
  have hl:l.length=n:=by rw[Yt]at h;simpa using h
  have j:=mZ x n l hl
  unfold insR Go.Eng.insR at*
  have e0:(l++[y]).length=l.length+1:=by simp
  have g:(l++[y]).getD l.length Rw.z=y:=by simp
  rw[e0,Gm,g,n6 l y x l.length (Ye _),U8]
  show _=(List.dropWhile _ (y::l.reverse)).reverse++x::(List.takeWhile _ (y::l.reverse)).reverse
  have f:Ij x y<0↔x.num<y.num:=by unfold Ij BP;grind
  rw[List.dropWhile_cons,List.takeWhile_cons]
  by_cases c:x.num<y.num
  ·have a:=oP l x l.length
   have b:decide (Ij x y<0)=true:=Yo (f.2 c)
   rw[Yk c,b,Yk rfl,Yk rfl,P1 a,Vc a,UX,←DO,j]
   simp
  ·have b:¬decide (Ij x y<0)=true:=by rw[YJ,f];exact c
   have i:(l++[y]).take (l.length+1)=l++[y]:=K9 (by simp)
   rw[Yi c,Yi b,Yi b,i]
   simp
theorem mS(l:List Raw):I7 l=B1 Ij l:=by
 have:insR=Go.Eng.insR Ij:=funext fun out=>funext fun x=>mZ x _ out rfl
 unfold I7 B1
 rw[this]
theorem Zu5(l:List Pr)(h:l.length<549755813888):R0 l=some l:=by
 cases l with
 |nil=>rfl
 |cons x r=>
  dsimp only[R0,al,br,vw,lr,a0,mv,br]
  simp only[D7]at h
  simp
  omega
theorem o2{a b:Val}(s:1≤a.kind∧a.kind≤9)(j:AU a)(l:AU b):L6 a b=some (CW a b):=by
 obtain⟨n,q,f,u⟩:=aE j
 obtain⟨k,p,e,t⟩:=aE l
 have r:(decide (1≤a.kind)&&decide (a.kind≤9))=true:=by simp[s]
 unfold CW
 by_cases he:a.kind=b.kind
 ·have i:(decide (1≤b.kind)&&decide (b.kind≤9))=true:=by rw[←he];exact r
  dsimp only[L6,br,wg,lr,cl,br,X3,wg,lr,cl,bT,L5,lr,RW,br,vz,wg,lr,cl,br,Ol,lr]
  simp only[he,Yv,Y3,Ym,YH,i,Yy,Yd,ne_eq,K6]
  rw[←he]
  by_cases h:a.kind=7∨a.kind=8
  ·have d:(decide (a.kind=7)||decide (a.kind=8))=true:=by simpa using h
   rw[Yk h]
   simp only[d,Yy,iU,Yd]
  ·have d:(decide (a.kind=7)||decide (a.kind=8))=false:=by simpa using h
   rw[Yi h]
   simp only[d,Ym,YH]
   by_cases hs:a.kind=2∨a.kind=3
   ·have c:(decide (a.kind=2)||decide (a.kind=3))=true:=by simpa using hs
    have g:∀m:Nat,m<18446744073709551616→IntKind.i64.wrap (m:Int)=IntKind.u64.wrap ((m:Int)+9223372036854775808)-9223372036854775808:=fun m hm=>by
     rw[IntKind.wrap_i64]
     unfold IntKind.wrap
     simp only[show IntKind.u64.bits=64 from rfl,show IntKind.u64.signed=false from rfl,DE,Ym,YH]
     omega
    simp only[c,hs,Yy,Ly,Yd]
    rw[q,p,g n f,g k e]
    unfold BP
    simp only[Int.sub_lt_sub_right_iff]
   ·have c:(decide (a.kind=2)||decide (a.kind=3))=false:=by simpa using hs
    by_cases o:a.kind=6
    ·simp only[c,hs,Ym,YH]
     simp only[o,Yy,Yv,q,p,Rg f,Rg e,QB,Yd,Fb]
    ·simp only[c,hs,o,Ym,YH,YK,QB,Yd]
 ·dsimp only[L6,br,wg,lr,cl,br]
  simp only[he,YK,Y1,Yy,Ly,Yd,ne_eq,K7]
theorem fi{a b:Val}(e:1≤a.kind∧a.kind≤9)(c:AU a)(d:AU b):L1 a b=some (decide (CW a b=0)):=by
 dsimp only[L1,wg,lr,cl]
 rw[o2 e c d]
 rfl
def Gq(l:List Pr):Nat→List Pr
 |0=>[]
 |i+1=>if i+1<l.length∧AW (l.getD i Rw.z) (l.getD (i+1) Rw.z)=0 then Gq l i else Gq l i++[l.getD i Rw.z]
theorem nZ(l:List Pr):∀i:Nat,(Gq l i).length≤i
 |0=>Ye _
 |i+1=>by
  have:=nZ l i
  rw[Gq]
  split
  ·omega
  ·rw[Yt,eq]
   omega
theorem mz(l:List Pr):∀i:Nat,i≤l.length→Ej l=Gq l i++Ej (l.drop i)
 |0,_=>rfl
 |i+1,h=>by
  have hi:i<l.length:=h
  have e0:l.getD i Rw.z=l[i]:=by rw[Yj,Ya hi];rfl
  rw[mz l i (by omega),GA hi,Gq,e0]
  by_cases c:i+1<l.length
  ·have b:l.getD (i+1) Rw.z=l[i+1]:=by rw[Yj,Ya c];rfl
   rw[GA c,Ej,b]
   by_cases a:AW l[i] l[i+1]=0
   ·rw[Yk a,Yk ⟨c,a⟩]
   ·rw[Yi a,Yi fun h=>a h.2,DO]
    rfl
  ·rw[Yi fun h=>c h.1,List.drop_eq_nil_of_le (by omega)]
   simp[Ej]
theorem Zvc(l:List Pr)(hl:l.length≤4194304)(j:∀p∈l,(1≤p.key.kind∧p.key.kind≤9)∧AU p.key):Za l=some (CB l):=by
 have C:=Zu5 l (by omega)
 have t:Fj l (fun z0 s=>LZ z0 s)=some (B1 AW l):=by
  have h:=cT (pf:=fun z0 s=>LZ z0 s) (cmp:=AW) bx l (fun x hx y hy=>by
   dsimp only[LZ,wg,lr,cl]
   rw[o2 (j x hx).1 (j x hx).2 (j y hy).2]
   rfl) hl
  rw[Zn F1 l]at h
  exact h
 have u:=yd (cf:=AW) l
 have a:∀p∈B1 AW l,(1≤p.key.kind∧p.key.kind≤9)∧AU p.key:=fun p d=>j p ((FV l).mem_iff.1 d)
 have v:=mz (B1 AW l) (B1 AW l).length (Ye _)
 rw[NA,yN,show Ej []=[]from rfl,NC]at v
 rw[v]
 generalize B1 AW l=m at t u a
 have r:=II (B:=MS m) (N:=Aj) (ρ:=List Pr) m (fun p=>Gq m p.length) (fun i b=>(b,i)) id (fun i p d=>by
  have w:=B9 d
  have hi:=(Yf.1 d).1
  have g:i+1<9223372036854775808:=by omega
  have A:(m.take i).length=i:=by rw[YQ];omega
  have o:(m.take i++[p]).length=i+1:=by rw[Yt,A];rfl
  have F:m.getD i Rw.z=p:=by rw[Yj,d];rfl
  have a1:=nZ m i
  have z:((i+1:Nat):Int)=m.length↔i+1=m.length:=by omega
  rw[A,o,Gq,F]
  have k:(Gq m i).length<549755813887:=by omega
  generalize Gq m i=out at k⊢
  dsimp only[MS,br,vz,vw,wg,vs,vg,ln,Af,ap,AF,wa,ir,ca,fl,A1,br]
  by_cases c:i+1=m.length
  ·have e:¬i+1<m.length:=by omega
   simp only[w,g,z,c,e,d,k,hi,Yv,Y3,Iw,Ym,Yd,Ld,Yy,YH,DA]
   have E:m.length<9223372036854775808:=by omega
   simp[E]
  ·have e:i+1<m.length:=by omega
   have hm:m.getD (i+1) Rw.z∈m:=by rw[Yj,Ya e];exact Ix e
   have D:=fi (a p (Yn d)).1 (a p (Yn d)).2 (a _ hm).2
   simp only[w,g,z,c,e,d,D,hi,Yv,YK,Y1,Hm,Yd,Fa,YS,forall_const,Yy,DB]
   generalize m.getD (i+1) Rw.z=q
   by_cases f:AW p q=0
   ·have n:CW p.key q.key=0:=f
    simp[f,n,g]
   ·have n:¬CW p.key q.key=0:=f
    simp[f,n,g,k]) (by dsimp only[MS,br,vz,vw,wg,vs,vg,ln,Af,ap,AF,wa,ir,ca,fl,A1,br];simp) (A6 (by omega))
 have r:Ag (MS m) Aj ([],0)=some (.inl (Gq m m.length)):=r
 dsimp only[Za,vz,vw,lr,lc,rn,fl,fr,A1]
 rw[C,Yd,t,Yd,Yk u.symm,r]
 rfl
theorem sW{k:Int}{l:List Val}{p:List Pr}{sl:List Slt}{r:List Raw}(hl:k=11∨l=[])(f:k=12∨p=[])(hs:k=10∨(sl=[]∧r=[])):BA (.mk k 0 ⟨#[]⟩ l p sl r)=false:=by
 unfold BA
 refine Yp ?_
 rintro(⟨a,b⟩|⟨a,b⟩|⟨a,b⟩|⟨a,_⟩|⟨a,_⟩)
 ·rcases hl with e|e
  ·exact a e
  ·subst e;exact absurd b (P3 0)
 ·rcases f with e|e
  ·exact a e
  ·subst e;exact absurd b (P3 0)
 ·rcases hs with e|⟨c,d⟩
  ·exact a e
  ·subst c;subst d;exact b.elim (P3 0) (P3 0)
 ·exact a rfl
 ·exact a rfl
theorem Zzd{v:Val}(h:v.kind≠6):D0 v=v:=Yi fun c=>h c.1
theorem wU{N:ByteArray→Val→Val}{f:Fld}(c:f.card=4)(v:Val):Cy N f v=.mk 11 0 ⟨#[]⟩ (v.list.map (BM N f.type)) [] [] []:=Yk c
theorem Xf{N:ByteArray→Val→Val}{f:Fld}(c:f.card=5)(v:Val):Cy N f v=.mk 12 0 ⟨#[]⟩ [] (CB (v.pairs.map fun p=>.mk (D0 p.key) (BM N f.type p.val))) [] []:=(Yi (by omega)).trans (Yk c)
theorem wK{N:ByteArray→Val→Val}{f:Fld}(a:¬f.card=4)(b:¬f.card=5)(v:Val):Cy N f v=BM N f.type v:=(Yi a).trans (Yi b)
end Go.Proofs.YtalafnjhcecdpaaGreatDoor
