import Derived.Test.YtbcmdieedjamgaaGreatZd26
import Derived.Test.YtbcmdieedjamgaaGreatZd25
import Derived.Test.YtbcmdieedjamgaaGreatZd23
import Derived.Test.YtbcmdieedjamgaaGreatZd00
namespace Go.Proofs.YtbcmdieedjamgaaGreat
set_option linter.all false
open Go Go.Eng
section
variable {α:Type} [Rw α] [Tid α]
def AQ(pf:α→α→Option Int)(cmp:α→α→Int)(l:List α):Prop:=∀x∈l,∀y∈l,pf x y=some (cmp x y)
theorem AQ.perm{pf:α→α→Option Int}{cmp:α→α→Int}{l v:List α}(h:AQ pf cmp l)(p:v.Perm l):AQ pf cmp v:=fun x hx y hy=>h x (p.mem_iff.1 hx) y (p.mem_iff.1 hy)
theorem AQ.atI{pf:α→α→Option Int}{cmp:α→α→Int}{l:List α}(h:AQ pf cmp l){i j:Nat}(hi:i<l.length)(a:j<l.length):pf (l.getD i Rw.z) (l.getD j Rw.z)=some (cmp (l.getD i Rw.z) (l.getD j Rw.z)):=by
 have e:∀k (h:k<l.length),l.getD k Rw.z=l[k]:=fun k h=>by rw[Yg,Yc h,YQ]
 rw[e i hi,e j a]
 exact h _ (FJ hi) _ (FJ a)
theorem ZO9(l:List α)(a b:Nat)(pf:α→α→Option Int)(cmp:α→α→Int)(B:AQ pf cmp l)(k:Int)(hl:l.length≤4194304):∀(j:Nat) (v:List α) (N c:Nat),j<N→j<c→j<l.length→v.Perm l→
  ∃p i,E2 (Rw.z:α) a cmp c j v=.inl (p,i)∧Aj (Fi l (a:Int) (b:Int) pf k) N ((j:Int),v)=some (.inl i)∧i.Perm l:=by
 intro j
 induction j with
 |zero=>
  intro v N c hN z A d
  have o:=d.length_eq
  obtain⟨N,rfl⟩:∃m,N=m+1:=⟨N-1,by omega⟩
  obtain⟨c,rfl⟩:∃m,c=m+1:=⟨c-1,by omega⟩
  have g:¬(a:Int)<((0:Nat):Int):=by omega
  refine⟨0,v,by rw[E2];simp only[g,YU,Ds,cond_false],?_,d⟩
  have e:Fi l (a:Int) (b:Int) pf k (((0:Nat):Int),v)=some (.ex v):=by
   dsimp only[Fi,P3,br,vz,vs,vg,ln,Af,HG,wi,Az,ca,Fv,st,BP,fl,br,Az]
   grind
  rw[Aj,e]
 |succ j C=>
  intro v N c hN z A d
  have o:=d.length_eq
  obtain⟨N,rfl⟩:∃m,N=m+1:=⟨N-1,by omega⟩
  obtain⟨c,rfl⟩:∃m,c=m+1:=⟨c-1,by omega⟩
  by_cases g:(a:Int)<((j+1:Nat):Int)
  ·have s:((j+1:Nat):Int)-1=(j:Int):=by omega
   have y: -9223372036854775808≤(j:Int)∧(j:Int)<9223372036854775808:=by omega
   have w:(0:Int)≤((j+1:Nat):Int)∧((j+1:Nat):Int)<(l.length:Int):=by omega
   have x:(0:Int)≤(j:Int)∧(j:Int)<(l.length:Int):=by omega
   have f:j+1<v.length:=by omega
   have h:j<v.length:=by omega
   have q:v[j+1]?=some (v.getD (j+1) Rw.z):=by rw[Yg,Yc f];rfl
   have r:v[j]?=some (v.getD j Rw.z):=by rw[Yg,Yc h];rfl
   have t:j+1-1=j:=rfl
   have u:=(B.perm d).atI f h
   by_cases n:cmp (v.getD (j+1) Rw.z) (v.getD j Rw.z)<0
   ·obtain⟨p,i,D,E,F⟩:=C ((v.set (j+1) (v.getD j Rw.z)).set j (v.getD (j+1) Rw.z)) N c (by omega) (by omega) (by omega) ((Lk v (j+1) j f h).trans d)
    refine⟨p,i,by rw[E2];simp only[g,t,n,Yp,Oh,cond_true];exact D,?_,F⟩
    have e:Fi l (a:Int) (b:Int) pf k (((j+1:Nat):Int),v)=some (.nx ((j:Int),(v.set (j+1) (v.getD j Rw.z)).set j (v.getD (j+1) Rw.z))):=by
     dsimp only[Fi,P3,br,vz,vs,vg,ln,Af,HG,wi,Az,ca,Fv,st,BP,fl,br,Az]
     simp only[g,s,y,w,x,f,h,q,r,u,n,Yp,forall_const,Ck,Oh,Yq,YS,FI,YQ,Ya,Oy]
    rw[Aj,e]
    exact E
   ·refine⟨j+1,v,by rw[E2];simp only[g,t,n,Yp,YU,Ks,cond_false],?_,d⟩
    have e:Fi l (a:Int) (b:Int) pf k (((j+1:Nat):Int),v)=some (.ex v):=by
     dsimp only[Fi,P3,br,vz,vs,vg,ln,Af,HG,wi,Az,ca,Fv,st,BP,fl,br,Az]
     simp only[g,s,y,w,x,f,h,u,n,Yp,YU,forall_const,Ck,Ks,Yn,Yq,YK,YS,FI,YQ]
    rw[Aj,e]
  ·refine⟨j+1,v,by rw[E2];simp only[g,YU,Ds,cond_false],?_,d⟩
   have e:Fi l (a:Int) (b:Int) pf k (((j+1:Nat):Int),v)=some (.ex v):=by
    dsimp only[Fi,P3,br,vz,vs,vg,ln,Af,HG,wi,Az,ca,Fv,st,BP,fl,br,Az]
    simp only[g,YU,Yn,L6,Ds,Yq,YK]
   rw[Aj,e]
theorem jv(l:List α)(a b:Nat)(pf:α→α→Option Int)(cmp:α→α→Int)(n:AQ pf cmp l)(hl:l.length≤4194304)(o:b≤l.length):∀(d i:Nat) (v:List α) (N c:Nat),b-i≤d→d<N→b-i<c→v.Perm l→
  ∃k e,GD (Rw.z:α) a b cmp c i v=.inl (k,e)∧(i<4611686018427387904→Aj (H8 l (a:Int) (b:Int) pf) N ((i:Int),v)=some (.inl e))∧e.Perm l
 |d,i,v,N,c,u,hN,x,j=>by
  have p:=j.length_eq
  obtain⟨N,rfl⟩:∃m,N=m+1:=⟨N-1,by omega⟩
  obtain⟨c,rfl⟩:∃m,c=m+1:=⟨c-1,by omega⟩
  by_cases g:i<b
  ·obtain⟨d,rfl⟩:∃m,d=m+1:=⟨d-1,by omega⟩
   have f:(i:Int)<(b:Int):=by omega
   obtain⟨y,w,q,z,r⟩:=ZO9 l a b pf cmp n (i:Int) hl i v Ag (i+1) (AK (by omega)) (by omega) (by omega) j
   obtain⟨k,e,s,A,t⟩:=jv l a b pf cmp n hl o d (i+1) w N c (by omega) (by omega) (by omega) r
   refine⟨k,e,by rw[GD];simp only[f,Yp,cond_true,q,Cp];exact s,fun hi=>?_,t⟩
   have B: -9223372036854775808≤(i:Int)+1∧(i:Int)+1<9223372036854775808:=by omega
   have h:H8 l (a:Int) (b:Int) pf ((i:Int),v)=some (.nx ((i:Int)+1,w)):=by
    dsimp only[H8,jt,iG,ie,br,vz,vs,ln,Af,lc,wi,fl,br]
    grind
   rw[Aj,h]
   grind
  ·have f:¬(i:Int)<(b:Int):=by omega
   refine⟨i,v,by rw[GD];simp only[f,YU,cond_false],fun _=>?_,j⟩
   have h:H8 l (a:Int) (b:Int) pf ((i:Int),v)=some (.ex v):=by
    dsimp only[H8,jt,iG,ie,br,vz,vs,ln,Af,lc,wi,fl,br]
    grind
   rw[Aj,h]
theorem yZ(l:List α)(a b:Nat)(pf:α→α→Option Int)(cmp:α→α→Int)(d:AQ pf cmp l)(hl:l.length≤4194304)(h:a≤4194304)(c:b≤l.length):JE l (a:Int) (b:Int) pf=some (Dv Rw.z l a b cmp):=by
 obtain⟨i,k,e,f,j⟩:=jv l a b pf cmp d hl c (b-(a+1)) (a+1) l Ag (b-(a+1)+1) (Yf _) (AK (by omega)) (by omega) (.refl _)
 have m: -9223372036854775808≤(a:Int)+1∧(a:Int)+1<9223372036854775808:=by omega
 have g:=f (by omega)
 rw[show((a+1:Nat):Int)=(a:Int)+1 from by omega]at g
 unfold JE Dv
 rw[e]
 dsimp only[JE,lO,Qs,vz,vs,lr,lc,wi,fl]
 grind
theorem oh(l:List α)(a b:Nat)(cmp:α→α→Int)(hl:l.length≤4194304)(c:b≤l.length):(Dv (Rw.z:α) l a b cmp).Perm l:=by
 obtain⟨f,g,d,_,e⟩:=jv l a b (fun x y=>some (cmp x y)) cmp (fun _ _ _ _=>rfl) hl c (b-(a+1)) (a+1) l (b-(a+1)+1) (b-(a+1)+1) (Yf _) (by omega) (by omega) (.refl _)
 unfold Dv
 rw[d]
 exact e
end
end Go.Proofs.YtbcmdieedjamgaaGreat
namespace Go.Proofs.YtbcmdieedjamgaaGreat
set_option linter.all false
open Go Go.Eng
section
variable {α:Type} [Rw α] [Tid α]
def S1(pf:α→α→Option Int)(cmp:α→α→Int):Prop:=∀(c:Nat) (l:List α) (a m b:Nat),AQ pf cmp l→l.length≤4194304→b-a<c→a<m→m<b→b≤l.length→C7 c l (a:Int) (m:Int) (b:Int) pf=some (AZ Rw.z c l a m b cmp)∧(AZ (Rw.z:α) c l a m b cmp).Perm l
section
variable {pf:α→α→Option Int} {cmp:α→α→Int}
theorem uo(l:List α)(k:AQ pf cmp l)(hl:l.length≤4194304):∀(d x y:Nat) (v:List α) (N a:Nat),l.length+1-y≤d→d<N→l.length+1-y<a→x≤l.length→v.Perm l→
  ∃x' i c,Hc (Rw.z:α) l.length cmp a x y v=.inl (x',i,c)∧Aj (Ii l (l.length:Int) pf) N (x,y,v)=some (.inl (x',c))∧c.Perm l∧x'≤l.length
 |d,x,y,v,N,a,r,hN,s,hx,e=>by
  have n:=e.length_eq
  obtain⟨N,rfl⟩:∃m,N=m+1:=⟨N-1,by omega⟩
  obtain⟨a,rfl⟩:∃m,a=m+1:=⟨a-1,by omega⟩
  by_cases g:y≤l.length
  ·obtain⟨d,rfl⟩:∃m,d=m+1:=⟨d-1,by omega⟩
   have f:(y:Int)≤(l.length:Int):=by omega
   have hs:=yZ v x y pf cmp (k.perm e) (by omega) (by omega) (by omega)
   have b:=(oh v x y cmp (by omega) (by omega)).trans e
   have j:=b.length_eq
   obtain⟨x',i,c,o,p,q⟩:=uo l k hl d y (y+20) (Dv Rw.z v x y cmp) N a (by omega) (by omega) (by omega) g b
   refine⟨x',i,c,by rw[Hc,Yo f,cond_true];exact o,?_,q⟩
   have t:y+20<9223372036854775808:=by omega
   have h:Ii l (l.length:Int) pf (x,y,v)=some (.nx (y,y+20,Dv Rw.z v x y cmp)):=by
    dsimp only[Ii,ZY,bq,bd,Z8,br,vz,vs,v2,ln,Af,lc,wa,fl,br,wm]
    grind
   rw[Aj,h]
   exact p
  ·have f:¬(y:Int)≤(l.length:Int):=by omega
   refine⟨x,y,v,by rw[Hc,Yt f,cond_false],?_,e,hx⟩
   have h:Ii l (l.length:Int) pf (x,y,v)=some (.ex (x,v)):=by
    dsimp only[Ii,ZY,bq,bd,Z8,br,vz,vs,v2,ln,Af,lc,wa,fl,br,wm]
    grind
   rw[Aj,h]
theorem xW(n:S1 pf cmp)(l:List α)(o:AQ pf cmp l)(hl:l.length≤4194304)(s:Nat)(i:0<s)(j:s≤l.length):∀(d x y:Nat) (v:List α) (N a:Nat),l.length+1-y≤d→d<N→l.length+1-y<a→x≤l.length→y=x+2*s→v.Perm l→
  ∃x' k b,Hd (Rw.z:α) l.length cmp s a x y v=.inl (x',k,b)∧Aj (Ib l (l.length:Int) pf s) N (x,y,v)=some (.inl (x',b))∧b.Perm l∧x'≤l.length
 |d,x,y,v,N,a,w,hN,z,hx,hy,c=>by
  have p:=c.length_eq
  obtain⟨N,rfl⟩:∃m,N=m+1:=⟨N-1,by omega⟩
  obtain⟨a,rfl⟩:∃m,a=m+1:=⟨a-1,by omega⟩
  by_cases g:y≤l.length
  ·obtain⟨d,rfl⟩:∃m,d=m+1:=⟨d-1,by omega⟩
   have e:(y:Int)≤(l.length:Int):=by omega
   obtain⟨hs,h⟩:=n (y-x+1) v x (x+s) y (o.perm c) (by omega) (by omega) (by omega) (by omega) (by omega)
   obtain⟨x',k,b,q,r,t⟩:=xW n l o hl s i j d y (y+2*s) (AZ Rw.z (y-x+1) v x (x+s) y cmp) N a (by omega) (by omega) (by omega) g rfl (h.trans c)
   refine⟨x',k,b,by rw[Hd,Yo e,cond_true];exact q,?_,t⟩
   have A:y+2*s<9223372036854775808:=by omega
   have w2:2*s<9223372036854775808:=by omega
   have B:x+s<9223372036854775808:=by omega
   have u:((y:Int)-(x:Int)+1).toNat=y-x+1:=by omega
   have f:Ib l (l.length:Int) pf s (x,y,v)=some (.nx (y,y+2*s,AZ Rw.z (y-x+1) v x (x+s) y cmp)):=by
    dsimp only[Ib,Z1,ay,aV,aL,br,vz,vs,ln,Af,lc,wa,fl,br,wm]
    grind
   rw[Aj,f]
   exact r
  ·have e:¬(y:Int)≤(l.length:Int):=by omega
   refine⟨x,y,v,by rw[Hd,Yt e,cond_false],?_,c,hx⟩
   have f:Ib l (l.length:Int) pf s (x,y,v)=some (.ex (x,v)):=by
    dsimp only[Ib,Z1,ay,aV,aL,br,vz,vs,ln,Af,lc,wa,fl,br,wm]
    grind
   rw[Aj,f]
theorem aT(h:S1 pf cmp)(l:List α)(i:AQ pf cmp l)(hl:l.length≤4194304):∀(d s:Nat) (v:List α) (N a:Nat),0<s→l.length-s≤d→d<N→l.length-s<a→v.Perm l→
  ∃s' c,FP (Rw.z:α) l.length cmp a s v=.inl (s',c)∧Aj (GP l (l.length:Int) pf) N (s,v)=some (.inl c)∧c.Perm l
 |d,s,v,N,a,n,C,hN,D,o=>by
  have z:=o.length_eq
  obtain⟨N,rfl⟩:∃m,N=m+1:=⟨N-1,by omega⟩
  obtain⟨a,rfl⟩:∃m,a=m+1:=⟨a-1,by omega⟩
  by_cases g:s<l.length
  ·obtain⟨d,rfl⟩:∃m,d=m+1:=⟨d-1,by omega⟩
   have f:(s:Int)<(l.length:Int):=by omega
   obtain⟨x,y,w,t,E,j,F⟩:=xW h l i hl s n (by omega) (l.length+1-2*s) 0 (2*s) v Ag (l.length+1-2*s+1) (Yf _) (AK (by omega)) (by omega) (by omega) (by omega) o
   have A:=j.length_eq
   have G:s*2<9223372036854775808:=by omega
   have w2:2*s<9223372036854775808:=by omega
   have H:x+s<9223372036854775808:=by omega
   by_cases u:x+s<l.length
   ·have b:((x+s:Nat):Int)<(l.length:Int):=by omega
    obtain⟨hs,k⟩:=h (l.length-x+1) w x (x+s) l.length (i.perm j) (by omega) (by omega) (by omega) u (by omega)
    obtain⟨s',c,p,q,r⟩:=aT h l i hl d (s*2) (AZ Rw.z (l.length-x+1) w x (x+s) l.length cmp) N a (by omega) (by omega) (by omega) (by omega) (k.trans j)
    refine⟨s',c,by rw[FP,Yo f,cond_true,t];simp only[Cp,Yo b,cond_true];exact p,?_,r⟩
    have B:((l.length:Int)-(x:Int)+1).toNat=l.length-x+1:=by omega
    have e:GP l (l.length:Int) pf (s,v)=some (.nx (s*2,AZ Rw.z (l.length-x+1) w x (x+s) l.length cmp)):=by
     dsimp only[GP,UP,Va,US,VB,VE,UZ,VD,WJ,br,vz,vs,ln,Af,lc,wa,fl,br,wm]
     grind
    rw[Aj,e]
    exact q
   ·have b:¬((x+s:Nat):Int)<(l.length:Int):=by omega
    obtain⟨s',c,p,q,r⟩:=aT h l i hl d (s*2) w N a (by omega) (by omega) (by omega) (by omega) j
    refine⟨s',c,by rw[FP,Yo f,cond_true,t];simp only[Cp,Yt b,cond_false];exact p,?_,r⟩
    have e:GP l (l.length:Int) pf (s,v)=some (.nx (s*2,w)):=by
     dsimp only[GP,UP,Va,US,VB,VE,UZ,VD,WJ,br,vz,vs,ln,Af,lc,wa,fl,br,wm]
     grind
    rw[Aj,e]
    exact q
  ·have f:¬(s:Int)<(l.length:Int):=by omega
   refine⟨s,v,by rw[FP,Yt f,cond_false],?_,o⟩
   have e:GP l (l.length:Int) pf (s,v)=some (.ex v):=by
    dsimp only[GP,UP,Va,US,VB,VE,UZ,VD,WJ,br,vz,vs,ln,Af,lc,wa,fl,br,wm]
    grind
   rw[Aj,e]
theorem jO(d:S1 pf cmp)(l:List α)(a:AQ pf cmp l)(hl:l.length≤4194304):FN l pf=some (GC Rw.z l cmp):=by
 obtain⟨x,y,w,f,g,c,h⟩:=uo l a hl (l.length+1-20) 0 20 l Ag (l.length+1-20+1) (Yf _) (AK (by omega)) (by omega) (by omega) (.refl _)
 have e:=c.length_eq
 have hs:=yZ w x l.length pf cmp (a.perm c) (by omega) (by omega) (by omega)
 have b:=(oh w x l.length cmp (by omega) (by omega)).trans c
 obtain⟨s',m,i,j,k⟩:=aT d l a hl (l.length-20) 20 (Dv Rw.z w x l.length cmp) Ag (l.length-20+1) (by omega) (Yf _) (AK (by omega)) (by omega) b
 unfold FN GC Uu
 rw[f]
 dsimp only[FN,u3,vf,Qx,vz,lr,lc,fl,Br,MP,mB,ni,oq,Qv,vz,lr,lc,fl,MP,wm]
 grind
end
end
theorem ZWA{n:Nat}(h:n<9223372036854775808):IntKind.u64.wrap (n:Int)=(n:Int):=by
 simp only[IntKind.wrap,IntKind.bits,IntKind.signed]
 simp
 omega
theorem ZWp{n:Nat}(h:n<9223372036854775808):IntKind.i64.wrap (n:Int)=(n:Int):=by
 simp only[IntKind.wrap,IntKind.bits,IntKind.signed]
 simp
 omega
theorem Ji{x y:Nat}(h:x+y<9223372036854775808):IntKind.i64.wrap (Al .u64 (IntKind.u64.wrap ((x:Int)+(y:Int))) 1)=(((x+y)/2:Nat):Int):=by
 rw[show(x:Int)+(y:Int)=((x+y:Nat):Int)from by omega,ZWA h]
 have:Al .u64 ((x+y:Nat):Int) 1=(((x+y)/2:Nat):Int):=by
  unfold Al
  have e:(2:Int)^(min (1:Int).toNat IntKind.u64.bits)=2:=by decide
  rw[e,Int.fdiv_eq_ediv_of_nonneg _ (by decide)]
  omega
 rw[this]
 exact ZWp (by omega)
section
variable {α:Type} [Rw α] [Tid α]
theorem im(l:List α)(R:List α→Int→Int→Int→(α→α→Option Int)→Option (List α))(a:Nat)(pf:α→α→Option Int)(cmp:α→α→Int)(o:AQ pf cmp l)(hl:l.length≤4194304)(k:a<l.length):∀(d i j N b:Nat),j-i≤d→d<N→j-i<b→i≤j→j≤l.length→
  ∃c f,Fb (Rw.z:α) l a cmp b i j=.inl (c,f)∧Aj (GI l (a:Int) pf R) N ((i:Int),(j:Int))=some (.inl (c:Int))∧i≤c∧c≤j
 |d,i,j,N,b,A,hN,B,n,C=>by
  obtain⟨N,rfl⟩:∃m,N=m+1:=⟨N-1,by omega⟩
  obtain⟨b,rfl⟩:∃m,b=m+1:=⟨b-1,by omega⟩
  by_cases g:i<j
  ·obtain⟨d,rfl⟩:∃m,d=m+1:=⟨d-1,by omega⟩
   have h:(i:Int)<(j:Int):=by omega
   have t:i≤(i+j)/2:=by omega
   have u:(i+j)/2<j:=by omega
   have v:=Ji (x:=i) (y:=j) (by omega)
   have E: -9223372036854775808≤(i:Int)+(j:Int)∧(i:Int)+(j:Int)<9223372036854775808:=by omega
   have s:(0:Int)≤1:=by decide
   have D:=o.atI (i:=(i+j)/2) (j:=a) (by omega) k
   by_cases r:cmp (l.getD ((i+j)/2) Rw.z) (l.getD a Rw.z)<0
   ·obtain⟨c,f,p,q,w,z⟩:=im l R a pf cmp o hl k d ((i+j)/2+1) j N b (by omega) (by omega) (by omega) (by omega) (by omega)
    refine⟨c,f,by rw[Fb,Yo h,cond_true,Yo r];exact p,?_,by omega,by omega⟩
    have e:GI l (a:Int) pf R ((i:Int),(j:Int))=some (.nx (((((i+j)/2:Nat):Int)+1),(j:Int))):=by
     dsimp only[GI,Qq,br,vz,vs,v2,ln,Af,cf,wi,Az,ca,fl,br,Az,wk,shr]
     grind
    rw[Aj,e]
    exact q
   ·obtain⟨c,f,p,q,w,z⟩:=im l R a pf cmp o hl k d i ((i+j)/2) N b (by omega) (by omega) (by omega) (by omega) (by omega)
    refine⟨c,f,by rw[Fb,Yo h,cond_true,Yt r];exact p,?_,by omega,by omega⟩
    have e:GI l (a:Int) pf R ((i:Int),(j:Int))=some (.nx ((i:Int),(((i+j)/2:Nat):Int))):=by
     dsimp only[GI,Qq,br,vz,vs,v2,ln,Af,cf,wi,Az,ca,fl,br,Az,wk,shr]
     grind
    rw[Aj,e]
    exact q
  ·have h:¬(i:Int)<(j:Int):=by omega
   refine⟨i,j,by rw[Fb,Yt h,cond_false],?_,Yf _,n⟩
   have e:GI l (a:Int) pf R ((i:Int),(j:Int))=some (.ex (i:Int)):=by
    dsimp only[GI,Qq,br,vz,vs,v2,ln,Af,cf,wi,Az,ca,fl,br,Az,wk,shr]
    grind
   rw[Aj,e]
theorem iH(l:List α)(R:List α→Int→Int→Int→(α→α→Option Int)→Option (List α))(a:Nat)(pf:α→α→Option Int)(cmp:α→α→Int)(o:AQ pf cmp l)(hl:l.length≤4194304)(k:a<l.length):∀(d i j N b:Nat),j-i≤d→d<N→j-i<b→i≤j→j≤l.length→
  ∃c f,Fa (Rw.z:α) l a cmp b i j=.inl (c,f)∧Aj (GK l (a:Int) pf R) N ((i:Int),(j:Int))=some (.inl (c:Int))∧i≤c∧c≤j
 |d,i,j,N,b,A,hN,B,n,C=>by
  obtain⟨N,rfl⟩:∃m,N=m+1:=⟨N-1,by omega⟩
  obtain⟨b,rfl⟩:∃m,b=m+1:=⟨b-1,by omega⟩
  by_cases g:i<j
  ·obtain⟨d,rfl⟩:∃m,d=m+1:=⟨d-1,by omega⟩
   have h:(i:Int)<(j:Int):=by omega
   have t:i≤(i+j)/2:=by omega
   have u:(i+j)/2<j:=by omega
   have v:=Ji (x:=i) (y:=j) (by omega)
   have E: -9223372036854775808≤(i:Int)+(j:Int)∧(i:Int)+(j:Int)<9223372036854775808:=by omega
   have s:(0:Int)≤1:=by decide
   have D:=o.atI (i:=a) (j:=(i+j)/2) k (by omega)
   by_cases r:cmp (l.getD a Rw.z) (l.getD ((i+j)/2) Rw.z)<0
   ·obtain⟨c,f,p,q,w,z⟩:=iH l R a pf cmp o hl k d i ((i+j)/2) N b (by omega) (by omega) (by omega) (by omega) (by omega)
    refine⟨c,f,by rw[Fa,Yo h,cond_true,Yo r];exact p,?_,by omega,by omega⟩
    have e:GK l (a:Int) pf R ((i:Int),(j:Int))=some (.nx ((i:Int),(((i+j)/2:Nat):Int))):=by
     dsimp only[GK,Qm,br,vz,vs,ln,Af,cf,wi,Az,ca,fl,br,Az,wk,shr]
     grind
    rw[Aj,e]
    exact q
   ·obtain⟨c,f,p,q,w,z⟩:=iH l R a pf cmp o hl k d ((i+j)/2+1) j N b (by omega) (by omega) (by omega) (by omega) (by omega)
    refine⟨c,f,by rw[Fa,Yo h,cond_true,Yt r];exact p,?_,by omega,by omega⟩
    have e:GK l (a:Int) pf R ((i:Int),(j:Int))=some (.nx (((((i+j)/2:Nat):Int)+1),(j:Int))):=by
     dsimp only[GK,Qm,br,vz,vs,ln,Af,cf,wi,Az,ca,fl,br,Az,wk,shr]
     grind
    rw[Aj,e]
    exact q
  ·have h:¬(i:Int)<(j:Int):=by omega
   refine⟨i,j,by rw[Fa,Yt h,cond_false],?_,Yf _,n⟩
   have e:GK l (a:Int) pf R ((i:Int),(j:Int))=some (.ex (i:Int)):=by
    dsimp only[GK,Qm,br,vz,vs,ln,Af,cf,wi,Az,ca,fl,br,Az,wk,shr]
    grind
   rw[Aj,e]
end
section
variable {α:Type} [Rw α] [Tid α]
theorem pI(l:List α)(R:List α→Int→Int→Int→(α→α→Option Int)→Option (List α))(pf:α→α→Option Int)(a0:Nat×Nat)(hl:l.length≤4194304)(j:1≤a0.1)(k:a0.1≤l.length):∀(d i:Nat) (v:List α) (N a:Nat),a0.1-1-i≤d→d<N→a0.1-1-i<a→v.Perm l→i≤l.length→
  ∃h b,GB (Rw.z:α) a0 a i v=.inl (h,b)∧Aj (H6 l pf R (a0.1:Int)) N ((i:Int),v)=some (.inl b)∧b.Perm l
 |d,i,v,N,a,w,hN,x,f,hi=>by
  have n:=f.length_eq
  obtain⟨N,rfl⟩:∃m,N=m+1:=⟨N-1,by omega⟩
  obtain⟨a,rfl⟩:∃m,a=m+1:=⟨a-1,by omega⟩
  have u:(a0.1:Int)-1=((a0.1-1:Nat):Int):=by omega
  have C: -9223372036854775808≤((a0.1-1:Nat):Int)∧((a0.1-1:Nat):Int)<9223372036854775808:=by omega
  by_cases g:i<a0.1-1
  ·obtain⟨d,rfl⟩:∃m,d=m+1:=⟨d-1,by omega⟩
   have c:(i:Int)<((a0.1-1:Nat):Int):=by omega
   obtain⟨h,b,q,r,s⟩:=pI l R pf a0 hl j k d (i+1) ((v.set i (v.getD (i+1) Rw.z)).set (i+1) (v.getD i Rw.z)) N a (by omega) (by omega) (by omega) ((Lk v i (i+1) (by omega) (by omega)).trans f) (by omega)
   refine⟨h,b,by rw[GB,Yo c,cond_true];exact q,?_,s⟩
   have t:(i:Int)+1=((i+1:Nat):Int):=by omega
   have B: -9223372036854775808≤((i+1:Nat):Int)∧((i+1:Nat):Int)<9223372036854775808:=by omega
   have y:(0:Int)≤(i:Int)∧(i:Int)<(l.length:Int):=by omega
   have z:(0:Int)≤((i+1:Nat):Int)∧((i+1:Nat):Int)<(l.length:Int):=by omega
   have o:i<v.length:=by omega
   have p:i+1<v.length:=by omega
   have A:v[i]?=some (v.getD i Rw.z):=by rw[Yg,Yc o];rfl
   have v2:v[i+1]?=some (v.getD (i+1) Rw.z):=by rw[Yg,Yc p];rfl
   have e:H6 l pf R (a0.1:Int) ((i:Int),v)=some (.nx (((i+1:Nat):Int),(v.set i (v.getD (i+1) Rw.z)).set (i+1) (v.getD i Rw.z))):=by
    dsimp only[H6,U2,br,vz,vs,ln,Af,wi,Az,ca,st,BP,fl,br,Az,wk,shr]
    grind
   rw[Aj,e]
   exact r
  ·have c:¬(i:Int)<((a0.1-1:Nat):Int):=by omega
   refine⟨i,v,by rw[GB,Yt c,cond_false],?_,f⟩
   have e:H6 l pf R (a0.1:Int) ((i:Int),v)=some (.ex v):=by
    dsimp only[H6,U2,br,vz,vs,ln,Af,wi,Az,ca,st,BP,fl,br,Az,wk,shr]
    grind
   rw[Aj,e]
theorem ZQC(l:List α)(R:List α→Int→Int→Int→(α→α→Option Int)→Option (List α))(pf:α→α→Option Int)(b:Nat×Nat)(hl:l.length≤4194304):∀(i:Nat) (v:List α) (N a:Nat),i<N→i<a→v.Perm l→i<l.length→
  ∃h f,FK (Rw.z:α) b a i v=.inl (h,f)∧Aj (GL l pf R (b.1:Int)) N ((i:Int),v)=some (.inl f)∧f.Perm l:=by
 intro i
 induction i with
 |zero=>
  intro v N a hN o d hi
  have g:=d.length_eq
  obtain⟨N,rfl⟩:∃m,N=m+1:=⟨N-1,by omega⟩
  obtain⟨a,rfl⟩:∃m,a=m+1:=⟨a-1,by omega⟩
  have c:¬(b.1:Int)<((0:Nat):Int):=by omega
  refine⟨0,v,by rw[FK,Yt c,cond_false],?_,d⟩
  have e:GL l pf R (b.1:Int) (((0:Nat):Int),v)=some (.ex v):=by
   dsimp only[GL,Qr,br,vz,vs,ln,Af,wi,Az,ca,st,BP,fl,br,Az,wk,shr]
   grind
  rw[Aj,e]
 |succ i p=>
  intro v N a hN o d hi
  have g:=d.length_eq
  obtain⟨N,rfl⟩:∃m,N=m+1:=⟨N-1,by omega⟩
  obtain⟨a,rfl⟩:∃m,a=m+1:=⟨a-1,by omega⟩
  by_cases c:(b.1:Int)<((i+1:Nat):Int)
  ·obtain⟨h,f,q,r,s⟩:=p ((v.set (i+1) (v.getD i Rw.z)).set i (v.getD (i+1) Rw.z)) N a (by omega) (by omega) ((Lk v (i+1) i (by omega) (by omega)).trans d) (by omega)
   refine⟨h,f,by rw[FK,Yo c,cond_true];exact q,?_,s⟩
   have n:((i+1:Nat):Int)-1=(i:Int):=by omega
   have x: -9223372036854775808≤(i:Int)∧(i:Int)<9223372036854775808:=by omega
   have t:(0:Int)≤(i:Int)∧(i:Int)<(l.length:Int):=by omega
   have u:(0:Int)≤((i+1:Nat):Int)∧((i+1:Nat):Int)<(l.length:Int):=by omega
   have j:i<v.length:=by omega
   have k:i+1<v.length:=by omega
   have w:v[i]?=some (v.getD i Rw.z):=by rw[Yg,Yc j];rfl
   have v2:v[i+1]?=some (v.getD (i+1) Rw.z):=by rw[Yg,Yc k];rfl
   have e:GL l pf R (b.1:Int) (((i+1:Nat):Int),v)=some (.nx ((i:Int),(v.set (i+1) (v.getD i Rw.z)).set i (v.getD (i+1) Rw.z))):=by
    dsimp only[GL,Qr,br,vz,vs,ln,Af,wi,Az,ca,st,BP,fl,br,Az,wk,shr]
    simp only[c,n,x,t,u,j,k,w,v2,Yp,Yq,Ck,YS,Ya,Oy]
   rw[Aj,e]
   exact r
  ·refine⟨i+1,v,by rw[FK,Yt c,cond_false],?_,d⟩
   have e:GL l pf R (b.1:Int) (((i+1:Nat):Int),v)=some (.ex v):=by
    dsimp only[GL,Qr,br,vz,vs,ln,Af,wi,Az,ca,st,BP,fl,br,Az,wk,shr]
    simp only[c,YU,Yn,YK]
   rw[Aj,e]
end
section
variable {α:Type} [Rw α] [Tid α]
theorem gN(l:List α)(R:List α→Int→Int→Int→(α→α→Option Int)→Option (List α))(a m b:Nat)(pf:α→α→Option Int)(cmp:α→α→Int)(q:AQ pf cmp l)(hl:l.length≤4194304)(t:a<m)(u:m<b)(v:b≤l.length):∀(d i j N c:Nat),j-i≤d→d<N→j-i<c→i≤j→j≤(a+b)/2+m∧j≤l.length→(a+b)/2+m≤l.length+i→
  ∃e h,FM (Rw.z:α) l a m b cmp c i j=.inl (e,h)∧Aj (Dj l (a:Int) (m:Int) (b:Int) pf R) N ((i:Int),(j:Int))=some (.inl (e:Int))∧i≤e∧e≤j
 |d,i,j,N,c,E,hN,F,p,G,hi=>by
  obtain⟨N,rfl⟩:∃m,N=m+1:=⟨N-1,by omega⟩
  obtain⟨c,rfl⟩:∃m,c=m+1:=⟨c-1,by omega⟩
  by_cases g:i<j
  ·obtain⟨d,rfl⟩:∃m,d=m+1:=⟨d-1,by omega⟩
   have o:(i:Int)<(j:Int):=by omega
   have A:i≤(i+j)/2:=by omega
   have B:(i+j)/2<j:=by omega
   have n:=Ji (x:=i) (y:=j) (by omega)
   have k:=Ji (x:=a) (y:=b) (by omega)
   have e0:(((a+b)/2:Nat):Int)+(m:Int)-1=(((a+b)/2+m-1:Nat):Int):=by omega
   have I: -9223372036854775808≤(i:Int)+(j:Int)∧(i:Int)+(j:Int)<9223372036854775808:=by omega
   have z:(0:Int)≤1:=by decide
   have H:=q.atI (i:=(a+b)/2+m-1-(i+j)/2) (j:=(i+j)/2) (by omega) (by omega)
   by_cases w:cmp (l.getD ((a+b)/2+m-1-(i+j)/2) Rw.z) (l.getD ((i+j)/2) Rw.z)<0
   ·obtain⟨e,h,r,s,C,D⟩:=gN l R a m b pf cmp q hl t u v d i ((i+j)/2) N c (by omega) (by omega) (by omega) (by omega) (by omega) (by omega)
    refine⟨e,h,by rw[FM,Yo o,cond_true,Yo w];exact r,?_,by omega,by omega⟩
    have f:Dj l (a:Int) (m:Int) (b:Int) pf R ((i:Int),(j:Int))=some (.nx ((i:Int),(((i+j)/2:Nat):Int))):=by
     dsimp only[Dj,JR,br,vz,vs,ln,Af,cf,wi,Az,ca,fl,br,Az,wk,shr]
     rw[n,k,e0]
     grind
    rw[Aj,f]
    exact s
   ·obtain⟨e,h,r,s,C,D⟩:=gN l R a m b pf cmp q hl t u v d ((i+j)/2+1) j N c (by omega) (by omega) (by omega) (by omega) (by omega) (by omega)
    refine⟨e,h,by rw[FM,Yo o,cond_true,Yt w];exact r,?_,by omega,by omega⟩
    have f:Dj l (a:Int) (m:Int) (b:Int) pf R ((i:Int),(j:Int))=some (.nx (((((i+j)/2:Nat):Int)+1),(j:Int))):=by
     dsimp only[Dj,JR,br,vz,vs,ln,Af,cf,wi,Az,ca,fl,br,Az,wk,shr]
     rw[n,k,e0]
     grind
    rw[Aj,f]
    exact s
  ·have o:¬(i:Int)<(j:Int):=by omega
   refine⟨i,j,by rw[FM,Yt o,cond_false],?_,Yf _,p⟩
   have f:Dj l (a:Int) (m:Int) (b:Int) pf R ((i:Int),(j:Int))=some (.ex (i:Int)):=by
    dsimp only[Dj,JR,br,vz,vs,ln,Af,cf,wi,Az,ca,fl,br,Az,wk,shr]
    grind
   rw[Aj,f]
theorem gy(l:List α)(R:List α→Int→Int→Int→(α→α→Option Int)→Option (List α))(a m b:Nat)(pf:α→α→Option Int)(cmp:α→α→Int)(q:AQ pf cmp l)(hl:l.length≤4194304)(t:a<m)(u:m<b)(v:b≤l.length):∀(d i j N c:Nat),j-i≤d→d<N→j-i<c→i≤j→j≤(a+b)/2+m∧j≤l.length→(a+b)/2+m≤l.length+i→
  ∃e h,FL (Rw.z:α) l a m b cmp c i j=.inl (e,h)∧Aj (Dj l (a:Int) (m:Int) (b:Int) pf R) N ((i:Int),(j:Int))=some (.inl (e:Int))∧i≤e∧e≤j
 |d,i,j,N,c,E,hN,F,p,G,hi=>by
  obtain⟨N,rfl⟩:∃m,N=m+1:=⟨N-1,by omega⟩
  obtain⟨c,rfl⟩:∃m,c=m+1:=⟨c-1,by omega⟩
  by_cases g:i<j
  ·obtain⟨d,rfl⟩:∃m,d=m+1:=⟨d-1,by omega⟩
   have o:(i:Int)<(j:Int):=by omega
   have A:i≤(i+j)/2:=by omega
   have B:(i+j)/2<j:=by omega
   have n:=Ji (x:=i) (y:=j) (by omega)
   have k:=Ji (x:=a) (y:=b) (by omega)
   have e0:(((a+b)/2:Nat):Int)+(m:Int)-1=(((a+b)/2+m-1:Nat):Int):=by omega
   have I: -9223372036854775808≤(i:Int)+(j:Int)∧(i:Int)+(j:Int)<9223372036854775808:=by omega
   have z:(0:Int)≤1:=by decide
   have H:=q.atI (i:=(a+b)/2+m-1-(i+j)/2) (j:=(i+j)/2) (by omega) (by omega)
   by_cases w:cmp (l.getD ((a+b)/2+m-1-(i+j)/2) Rw.z) (l.getD ((i+j)/2) Rw.z)<0
   ·obtain⟨e,h,r,s,C,D⟩:=gy l R a m b pf cmp q hl t u v d i ((i+j)/2) N c (by omega) (by omega) (by omega) (by omega) (by omega) (by omega)
    refine⟨e,h,by rw[FL,Yo o,cond_true,Yo w];exact r,?_,by omega,by omega⟩
    have f:Dj l (a:Int) (m:Int) (b:Int) pf R ((i:Int),(j:Int))=some (.nx ((i:Int),(((i+j)/2:Nat):Int))):=by
     dsimp only[Dj,JR,br,vz,vs,ln,Af,cf,wi,Az,ca,fl,br,Az,wk,shr]
     rw[n,k,e0]
     grind
    rw[Aj,f]
    exact s
   ·obtain⟨e,h,r,s,C,D⟩:=gy l R a m b pf cmp q hl t u v d ((i+j)/2+1) j N c (by omega) (by omega) (by omega) (by omega) (by omega) (by omega)
    refine⟨e,h,by rw[FL,Yo o,cond_true,Yt w];exact r,?_,by omega,by omega⟩
    have f:Dj l (a:Int) (m:Int) (b:Int) pf R ((i:Int),(j:Int))=some (.nx (((((i+j)/2:Nat):Int)+1),(j:Int))):=by
     dsimp only[Dj,JR,br,vz,vs,ln,Af,cf,wi,Az,ca,fl,br,Az,wk,shr]
     rw[n,k,e0]
     grind
    rw[Aj,f]
    exact s
  ·have o:¬(i:Int)<(j:Int):=by omega
   refine⟨i,j,by rw[FL,Yt o,cond_false],?_,Yf _,p⟩
   have f:Dj l (a:Int) (m:Int) (b:Int) pf R ((i:Int),(j:Int))=some (.ex (i:Int)):=by
    dsimp only[Dj,JR,br,vz,vs,ln,Af,cf,wi,Az,ca,fl,br,Az,wk,shr]
    grind
   rw[Aj,f]
end
theorem uW{α:Type}(z:α)(c:Nat)(l:List α)(a m b:Nat)(cf:α→α→Int)(s:Nat):
  (cond ((decide (((s:Nat):Int)<((m:Nat):Int))&&decide (((m:Nat):Int)<(((((a+b)/2)+m)-s:Nat):Int)))) (cond ((decide (((a:Nat):Int)<((s:Nat):Int))&&decide (((s:Nat):Int)<(((a+b)/2:Nat):Int)))) (cond ((decide ((((a+b)/2:Nat):Int)<(((((a+b)/2)+m)-s:Nat):Int))&&decide ((((((a+b)/2)+m)-s:Nat):Int)<((b:Nat):Int)))) ((AZ z c (AZ z c (B9 z l s m ((((a+b)/2)+m)-s) cf) a s ((a+b)/2) cf) ((a+b)/2) ((((a+b)/2)+m)-s) b cf)) ((AZ z c (B9 z l s m ((((a+b)/2)+m)-s) cf) a s ((a+b)/2) cf))) (cond ((decide ((((a+b)/2:Nat):Int)<(((((a+b)/2)+m)-s:Nat):Int))&&decide ((((((a+b)/2)+m)-s:Nat):Int)<((b:Nat):Int)))) ((AZ z c (B9 z l s m ((((a+b)/2)+m)-s) cf) ((a+b)/2) ((((a+b)/2)+m)-s) b cf)) ((B9 z l s m ((((a+b)/2)+m)-s) cf)))) (cond ((decide (((a:Nat):Int)<((s:Nat):Int))&&decide (((s:Nat):Int)<(((a+b)/2:Nat):Int)))) (cond ((decide ((((a+b)/2:Nat):Int)<(((((a+b)/2)+m)-s:Nat):Int))&&decide ((((((a+b)/2)+m)-s:Nat):Int)<((b:Nat):Int)))) ((AZ z c (AZ z c l a s ((a+b)/2) cf) ((a+b)/2) ((((a+b)/2)+m)-s) b cf)) ((AZ z c l a s ((a+b)/2) cf))) (cond ((decide ((((a+b)/2:Nat):Int)<(((((a+b)/2)+m)-s:Nat):Int))&&decide ((((((a+b)/2)+m)-s:Nat):Int)<((b:Nat):Int)))) ((AZ z c l ((a+b)/2) ((((a+b)/2)+m)-s) b cf)) (l))))=FW z c l a m b cf s:=by
 unfold FW
 grind
section
variable {α:Type} [Rw α] [Tid α]
theorem pk(R:List α→Int→Int→Int→(α→α→Option Int)→Option (List α))(pf:α→α→Option Int)(cmp:α→α→Int)(n:Nat)
  (p:∀(l:List α) (a m b:Nat),AQ pf cmp l→l.length≤4194304→b-a<n→a<m→m<b→b≤l.length→R l (a:Int) (m:Int) (b:Int) pf=some (AZ Rw.z n l a m b cmp)∧(AZ (Rw.z:α) n l a m b cmp).Perm l)
  (l:List α) (o:AQ pf cmp l) (a m b s:Nat) (hl:l.length≤4194304) (J:b-a<n+1) (D:a<m) (E:m<b) (F:b≤l.length) (G:4≤b-a) (H:s≤(a+b)/2) (I:(a+b)/2+m≤b+s):
  (gD l (a:Int) (m:Int) (b:Int) pf R (s:Int)).m=some (FW (Rw.z:α) n l a m b cmp s)∧(FW (Rw.z:α) n l a m b cmp s).Perm l:=by
 have u:=Ji (x:=a) (y:=b) (by omega)
 have v:(((a+b)/2:Nat):Int)+(m:Int)-(s:Int)=(((a+b)/2+m-s:Nat):Int):=by omega
 have w: -9223372036854775808≤(((a+b)/2+m-s:Nat):Int)∧(((a+b)/2+m-s:Nat):Int)<9223372036854775808:=by omega
 have A:a<(a+b)/2:=by omega
 have B:(a+b)/2<b:=by omega
 unfold FW
 dsimp only[Qq,U2,iO,ij,iw,Qm,Qr,iT,iJ,gu,JR,PV,ZqJ,ZrN,Zsb,ZtQ,Zud,Ztz,PX,Zuz,ZqV,ZrJ,Zr6,Zs0,Zri,ZtS,ZqD,PW,Zva,Zur,Zr7,ZtE,Zr3,Zs7,P0,ZtI,Ztt,ZuW,Zre,ZtD,ZsY,Zrz,Zto,gD,JL,Lp,Uw,PP,PQ,Ln,br,vz,vg,vs,v2,wi,wk,shr,Az,ca,Fv,cf,HG,lc,ln,lf,Af,fl,st,BP,lr,wg]
 simp only[u,v]
 generalize (a+b)/2=h at*
 generalize h+m-s=e at*
 simp only[w,Ck,Yq]
 have C:e≤b:=by omega
 by_cases c:s<m∧m<e<;>by_cases g:a<s∧s<h<;>by_cases i:h<e∧e<b
 ·
   have q:=SU l s m e cmp hl c.1 c.2 (by omega)
   have f:=(PM (z:=(Rw.z:α)) l s m e cmp c.1 c.2 (by omega)).2.1
   have k:=f.length_eq
   obtain⟨r,d⟩:=p (B9 (Rw.z:α) l s m e cmp) a s h (o.perm f) (by omega) (by omega) g.1 g.2 (by omega)
   obtain⟨t,j⟩:=p (AZ (Rw.z:α) n (B9 (Rw.z:α) l s m e cmp) a s h cmp) h e b (o.perm (d.trans f)) (by have:=d.length_eq;omega) (by omega) i.1 i.2 (by have:=d.length_eq;omega)
   simp only[Ed c,Ed g,Ed i,q,k,r,d.length_eq,t,j.length_eq,Yq,Ya,cond_true]
   first|exact⟨trivial,j.trans (d.trans f)⟩|exact⟨rfl,j.trans (d.trans f)⟩
 ·
   have q:=SU l s m e cmp hl c.1 c.2 (by omega)
   have f:=(PM (z:=(Rw.z:α)) l s m e cmp c.1 c.2 (by omega)).2.1
   have k:=f.length_eq
   obtain⟨r,d⟩:=p (B9 (Rw.z:α) l s m e cmp) a s h (o.perm f) (by omega) (by omega) g.1 g.2 (by omega)
   simp only[Ed c,Ed g,Ec i,q,k,r,d.length_eq,Yn,Yq,YK,Ya,cond_true,cond_false]
   first|exact⟨trivial,d.trans f⟩|exact⟨rfl,d.trans f⟩
 ·
   have q:=SU l s m e cmp hl c.1 c.2 (by omega)
   have f:=(PM (z:=(Rw.z:α)) l s m e cmp c.1 c.2 (by omega)).2.1
   have k:=f.length_eq
   obtain⟨t,j⟩:=p (B9 (Rw.z:α) l s m e cmp) h e b (o.perm f) (by omega) (by omega) i.1 i.2 (by omega)
   simp only[Ed c,Ec g,Ed i,q,k,t,j.length_eq,Yn,Yq,YK,Ya,cond_true,cond_false]
   first|exact⟨trivial,j.trans f⟩|exact⟨rfl,j.trans f⟩
 ·
   have q:=SU l s m e cmp hl c.1 c.2 (by omega)
   have f:=(PM (z:=(Rw.z:α)) l s m e cmp c.1 c.2 (by omega)).2.1
   have k:=f.length_eq
   simp only[Ed c,Ec g,Ec i,q,k,Yn,Yq,YK,Ya,cond_true,cond_false]
   first|exact⟨trivial,f⟩|exact⟨rfl,f⟩
 ·
   obtain⟨r,d⟩:=p l a s h o (by omega) (by omega) g.1 g.2 (by omega)
   obtain⟨t,j⟩:=p (AZ (Rw.z:α) n l a s h cmp) h e b (o.perm d) (by have:=d.length_eq;omega) (by omega) i.1 i.2 (by have:=d.length_eq;omega)
   simp only[Ec c,Ed g,Ed i,r,d.length_eq,t,j.length_eq,Yn,Yq,YK,Ya,cond_true,cond_false]
   first|exact⟨trivial,j.trans d⟩|exact⟨rfl,j.trans d⟩
 ·
   obtain⟨r,d⟩:=p l a s h o (by omega) (by omega) g.1 g.2 (by omega)
   simp only[Ec c,Ed g,Ec i,r,d.length_eq,Yn,Yq,YK,Ya,cond_true,cond_false]
   first|exact⟨trivial,d⟩|exact⟨rfl,d⟩
 ·
   obtain⟨t,j⟩:=p l h e b o (by omega) (by omega) i.1 i.2 (by omega)
   simp only[Ec c,Ec g,Ed i,t,j.length_eq,Yn,Yq,YK,Ya,cond_true,cond_false]
   first|exact⟨trivial,j⟩|exact⟨rfl,j⟩
 simp only[Ec c,Ec g,Ec i,Yn,YK,cond_false]
 first|exact⟨trivial,.refl _⟩|exact⟨rfl,.refl _⟩
theorem g0{pf:α→α→Option Int}{cmp:α→α→Int}:S1 pf cmp:=by
 intro c
 induction c with
 |zero=>intro l a m b _ _ h;omega
 |succ c w=>
  intro l a m b d hl t f g e
  rw[AZ]
  show(Ln l (a:Int) (m:Int) (b:Int) pf (C7 c)).m=_∧_
  have wa: -9223372036854775808≤((m-a:Nat):Int)∧((m-a:Nat):Int)<9223372036854775808:=by omega
  have P: -9223372036854775808≤((b-m:Nat):Int)∧((b-m:Nat):Int)<9223372036854775808:=by omega
  have H:(m:Int)-(a:Int)=((m-a:Nat):Int):=by omega
  have I:(b:Int)-(m:Int)=((b-m:Nat):Int):=by omega
  by_cases J:m-a=1
  ·have k:((m-a:Nat):Int)=1:=by omega
   obtain⟨i,j,p,q,r,s⟩:=im l (C7 c) a pf cmp d hl (by omega) (b-m) m b Ag (b-m+1) (Yf _) (AK (by omega)) (YO _) (by omega) e
   obtain⟨z,v,B,C,D⟩:=pI l (C7 c) pf (i,j) hl (show 1≤i by omega) (show i≤l.length by omega) (i-1-a) a l Ag (i-a+1) (Yf _) (AK (by omega)) (by dsimp only;omega) (.refl _) (by omega)
   dsimp only[Ln,iw,ij,iO,br,vz,vg,vs,v2,wi,wk,shr,Az,ca,Fv,cf,HG,lc,ln,lf,Af,fl,st,BP,lr,wg]
   grind
  ·have k:¬((m-a:Nat):Int)=1:=by omega
   by_cases K:b-m=1
   ·have n:((b-m:Nat):Int)=1:=by omega
    obtain⟨i,j,p,q,r,s⟩:=iH l (C7 c) m pf cmp d hl (by omega) (m-a) a m Ag (m-a+1) (Yf _) (AK (by omega)) (YO _) (by omega) (by omega)
    obtain⟨z,v,B,C,D⟩:=ZQC l (C7 c) pf (i,j) hl m l Ag (m+1) (AK (by omega)) (YO _) (.refl _) (by omega)
    dsimp only[Ln,PQ,PP,gu,iJ,iT,br,vz,vg,vs,v2,wi,wk,shr,Az,ca,Fv,cf,HG,lc,ln,lf,Af,fl,st,BP,lr,wg]
    grind
   ·have n:¬((b-m:Nat):Int)=1:=by omega
    have A:=Ji (x:=a) (y:=b) (by omega)
    have M: -9223372036854775808≤(a:Int)+(b:Int)∧(a:Int)+(b:Int)<9223372036854775808:=by omega
    have F:(((a+b)/2:Nat):Int)+(m:Int)=(((a+b)/2+m:Nat):Int):=by omega
    have w2: -9223372036854775808≤(((a+b)/2+m:Nat):Int)∧(((a+b)/2+m:Nat):Int)<9223372036854775808:=by omega
    have N: -9223372036854775808≤(((a+b)/2+m:Nat):Int)-1∧(((a+b)/2+m:Nat):Int)-1<9223372036854775808:=by omega
    have u:(0:Int)≤1:=by decide
    by_cases L:(a+b)/2<m
    ·have o:(((a+b)/2:Nat):Int)<(m:Int):=by omega
     have G:(((a+b)/2+m:Nat):Int)-(b:Int)=(((a+b)/2+m-b:Nat):Int):=by omega
     have O: -9223372036854775808≤(((a+b)/2+m-b:Nat):Int)∧(((a+b)/2+m-b:Nat):Int)<9223372036854775808:=by omega
     obtain⟨i,j,p,q,r,s⟩:=gN l (C7 c) a m b pf cmp d hl f g e ((a+b)/2-((a+b)/2+m-b)) ((a+b)/2+m-b) ((a+b)/2) Ag ((a+b)/2-((a+b)/2+m-b)+1) (Yf _) (AK (by omega)) (YO _) (by omega) (by omega) (by omega)
     obtain⟨t1,t2⟩:=pk (C7 c) pf cmp c w l d a m b i hl t f g e (by omega) (by omega) (by omega)
     have E:=uW (Rw.z:α) c l a m b cmp i
     dsimp only[Ln,PQ,PP,Uw,Lp,JL,br,vz,vg,vs,v2,wi,wk,shr,Az,ca,Fv,cf,HG,lc,ln,lf,Af,fl,st,BP,lr,wg]
     grind
    ·have o:¬(((a+b)/2:Nat):Int)<(m:Int):=by omega
     obtain⟨i,j,p,q,r,s⟩:=gy l (C7 c) a m b pf cmp d hl f g e (m-a) a m Ag (m-a+1) (Yf _) (AK (by omega)) (YO _) (by omega) (by omega) (by omega)
     obtain⟨t1,t2⟩:=pk (C7 c) pf cmp c w l d a m b i hl t f g e (by omega) (by omega) (by omega)
     have E:=uW (Rw.z:α) c l a m b cmp i
     dsimp only[Ln,PQ,PP,Uw,Lp,JL,br,vz,vg,vs,v2,wi,wk,shr,Az,ca,Fv,cf,HG,lc,ln,lf,Af,fl,st,BP,lr,wg]
     grind
end
theorem ZYR:ZdA=some true:=by kernel_rfl
def IX(x y:Slt):Int:=BJ x.num y.num
theorem ZWo(x y:Slt):MO x y=some (IX x y):=by
 dsimp only[MO,pS,wg,lr,cl]
 rw[Tc]
 rfl
theorem M8{α:Type}(k:α→Int):CmpLaw fun x y:α=>BJ (k x) (k y):=by
 constructor<;>(intros;unfold BJ at*;grind)
theorem ZHD(l:List Slt)(hl:l.length≤4194304):FN l (fun z0 a=>MO z0 a)=some (CW IX l):=by
 have h:=jO g0 l (fun x _ y _=>ZWo x y) hl
 rw[fc (show CmpLaw IX from M8 Slt.num) l]at h
 exact h
def GX(x y:Raw):Int:=BJ x.num y.num
theorem ZUr(x y:Raw):MM x y=some (GX x y):=by
 dsimp only[MM,rc,wg,lr,cl]
 rw[Tc]
 rfl
theorem ZHl(l:List Raw)(hl:l.length≤4194304):FN l (fun z0 a=>MM z0 a)=some (CW GX l):=by
 have h:=jO g0 l (fun x _ y _=>ZUr x y) hl
 rw[fc (show CmpLaw GX from M8 Raw.num) l]at h
 exact h
theorem yn(l:List Fld)(f:Fld→Option Bool)(p:Fld→Bool)(d:∀x∈l,f x=some (p x))(h:l.length≤1048576):Tu l f=some (l.any p):=by
 have e:=Di (B:=P7 l f) (N:=Ag) l p (fun i=>(i:Int)) () (fun i x hx=>by
  have a:=Ba hx
  have g:=(Yb.1 hx).1
  have b:i+1<9223372036854775808:=by omega
  have c:=d x (Yi hx)
  dsimp only[P7,iy,br,ix,vs,Ar,ln,Af,cf,wa,br]
  simp only[a,b,c,hx,Yp,Yq,Ya]
  cases p x<;>simp) (by simp[P7,iy,br,ix,vs,Ar,ln,Af,cf,wa,br]) (AK (by omega))
 dsimp only[Tu,um,lr,cs,eH,me,m0,ny,vz,lr,lc,Ai]
 rw[e,←Oc]
 cases l.findIdx? p with
 |none=>rfl
 |some i=>simp
theorem ZRp(g f:Fld)(v:Val)(h:v.slots.length≤4194304):Po g f v=some (!decide (g.num=f.num)&&BS v.slots g.num):=by
 dsimp only[Po,tB,wg,lr,AE]
 rw[n19 v g.num (by omega)]
 cases decide (g.num=f.num)<;>simp
theorem ZMf(m:Msg)(f:Fld)(v:Val)(hm:m.fields.length≤1048576)(h:v.slots.length≤4194304):eU m f v=some (Eo m.fields f v.slots):=by
 dsimp only[eU,wv,wg,lr,cl,cs]
 unfold Eo
 by_cases c:f.union=⟨#[]⟩
 ·rw[c,ZYQ,Ya,yn [] _ (fun _=>false) (fun x hx=>by cases hx) (by simp)]
  simp
 ·rw[m29 m f.union hm c,Ya,yn _ _ (fun g=>!decide (g.num=f.num)&&BS v.slots g.num) (fun g _=>ZRp g f v h) (Eb (L3 _ _) hm)]
  rw[List.any_filter]
  simp[c,Bool.and_assoc]
theorem ZWj(m:Msg)(a:List Slt)(b:Val)(hm:m.fields.length≤1048576)(d:a.length≤1048576)(c:b.slots.length≤4194304):Pp a (fun z0=>Pn z0 m b)=some (a.filter fun x=>!Eo m.fields (AY m.fields x.num) b.slots):=
 n41 a _ (fun x=>Eo m.fields (AY m.fields x.num) b.slots) (fun x _=>by
  dsimp only[Pn,tJ,wg,lr,cl]
  rw[n43 m x.num hm,Ya,show(BH m.fields x.num).1=AY m.fields x.num from rfl,ZMf m _ b hm c]
  rfl) (by omega)
theorem ZPt(x y:List Val)(hx:x.length≤1048576)(hy:y.length≤1048576):TJ [x,y]=some (x++y):=by
 have e:(Ag:Nat)=(Ag-3)+1+1+1:=by have:=AK (n:=10) (by omega);omega
 have f:Aj (Ix [x,y]) Ag (0,0)=some (.inl (x.length+y.length)):=by
  have d:x.length<9223372036854775808:=by omega
  have w2:x.length+y.length<9223372036854775808:=by omega
  have i:¬((x.length:Nat):Int)<0:=by omega
  have j:¬((x.length+y.length:Nat):Int)<0:=by omega
  have a:Ix [x,y] (0,0)=some (.nx (x.length,1)):=by dsimp only[Ix,V8,br,ix,vz,vs,v2,ln,Af,wa,dd,Ai,br];simp[d]
  have b:Ix [x,y] (x.length,1)=some (.nx (x.length+y.length,2)):=by dsimp only[Ix,V8,br,ix,vz,vs,v2,ln,Af,wa,dd,Ai,br];simp[w2];omega
  have c:Ix [x,y] (x.length+y.length,2)=some (.ex (x.length+y.length)):=by dsimp only[Ix,V8,br,ix,vz,vs,v2,ln,Af,wa,dd,Ai,br];simp
  rw[e,Aj,a]
  dsimp only
  rw[Aj,b]
  dsimp only
  rw[Aj,c]
 have h:Aj (Ij [x,y]) Ag ([],0)=some (.inl (x++y)):=by
  have d:x.length<549755813888:=by omega
  have w2:x.length+y.length<549755813888:=by omega
  have a:Ij [x,y] ([],0)=some (.nx (x,1)):=by dsimp only[Ij,WU,br,ix,vz,vs,ln,Af,aq,wa,fl,br];simp[d]
  have b:Ij [x,y] (x,1)=some (.nx (x++y,2)):=by dsimp only[Ij,WU,br,ix,vz,vs,ln,Af,aq,wa,fl,br];simp[w2]
  have c:Ij [x,y] (x++y,2)=some (.ex (x++y)):=by dsimp only[Ij,WU,br,ix,vz,vs,ln,Af,aq,wa,fl,br];simp
  rw[e,Aj,a]
  dsimp only
  rw[Aj,b]
  dsimp only
  rw[Aj,c]
 have g:x.length+y.length<549755813888:=by omega
 dsimp only[TJ,yI,wH,tY,yT,qy,wU,vz,vw,lr,lc,mv,fl,Ai]
 rw[f,Ya]
 simp only[Cp,fi,g,Yq,Ya]
 rw[h]
 rfl
theorem ZPS(x y:List Pr)(hx:x.length≤1048576)(hy:y.length≤1048576):TD [x,y]=some (x++y):=by
 have e:(Ag:Nat)=(Ag-3)+1+1+1:=by have:=AK (n:=10) (by omega);omega
 have f:Aj (Ir [x,y]) Ag (0,0)=some (.inl (x.length+y.length)):=by
  have d:x.length<9223372036854775808:=by omega
  have w2:x.length+y.length<9223372036854775808:=by omega
  have i:¬((x.length:Nat):Int)<0:=by omega
  have j:¬((x.length+y.length:Nat):Int)<0:=by omega
  have a:Ir [x,y] (0,0)=some (.nx (x.length,1)):=by dsimp only[Ir,W4,br,ix,vz,vs,v2,ln,Af,wa,dd,Ai,br];simp[d]
  have b:Ir [x,y] (x.length,1)=some (.nx (x.length+y.length,2)):=by dsimp only[Ir,W4,br,ix,vz,vs,v2,ln,Af,wa,dd,Ai,br];simp[w2];omega
  have c:Ir [x,y] (x.length+y.length,2)=some (.ex (x.length+y.length)):=by dsimp only[Ir,W4,br,ix,vz,vs,v2,ln,Af,wa,dd,Ai,br];simp
  rw[e,Aj,a]
  dsimp only
  rw[Aj,b]
  dsimp only
  rw[Aj,c]
 have h:Aj (Iu [x,y]) Ag ([],0)=some (.inl (x++y)):=by
  have d:x.length<549755813888:=by omega
  have w2:x.length+y.length<549755813888:=by omega
  have a:Iu [x,y] ([],0)=some (.nx (x,1)):=by dsimp only[Iu,WS,br,ix,vz,vs,ln,Af,aq,wa,fl,br];simp[d]
  have b:Iu [x,y] (x,1)=some (.nx (x++y,2)):=by dsimp only[Iu,WS,br,ix,vz,vs,ln,Af,aq,wa,fl,br];simp[w2]
  have c:Iu [x,y] (x++y,2)=some (.ex (x++y)):=by dsimp only[Iu,WS,br,ix,vz,vs,ln,Af,aq,wa,fl,br];simp
  rw[e,Aj,a]
  dsimp only
  rw[Aj,b]
  dsimp only
  rw[Aj,c]
 have g:x.length+y.length<549755813888:=by omega
 dsimp only[TD,wS,rN,qN,sd,tE,p8,vz,vw,lr,lc,mv,fl,Ai]
 rw[f,Ya]
 simp only[Cp,fL,g,Yq,Ya]
 rw[h]
 rfl
theorem ZQp(x y:List Raw)(hx:x.length≤1048576)(hy:y.length≤1048576):TR [x,y]=some (x++y):=by
 have e:(Ag:Nat)=(Ag-3)+1+1+1:=by have:=AK (n:=10) (by omega);omega
 have f:Aj (Ip [x,y]) Ag (0,0)=some (.inl (x.length+y.length)):=by
  have d:x.length<9223372036854775808:=by omega
  have w2:x.length+y.length<9223372036854775808:=by omega
  have i:¬((x.length:Nat):Int)<0:=by omega
  have j:¬((x.length+y.length:Nat):Int)<0:=by omega
  have a:Ip [x,y] (0,0)=some (.nx (x.length,1)):=by dsimp only[Ip,Wj,br,ix,vz,vs,v2,ln,Af,wa,dd,Ai,br];simp[d]
  have b:Ip [x,y] (x.length,1)=some (.nx (x.length+y.length,2)):=by dsimp only[Ip,Wj,br,ix,vz,vs,v2,ln,Af,wa,dd,Ai,br];simp[w2];omega
  have c:Ip [x,y] (x.length+y.length,2)=some (.ex (x.length+y.length)):=by dsimp only[Ip,Wj,br,ix,vz,vs,v2,ln,Af,wa,dd,Ai,br];simp
  rw[e,Aj,a]
  dsimp only
  rw[Aj,b]
  dsimp only
  rw[Aj,c]
 have h:Aj (Ih [x,y]) Ag ([],0)=some (.inl (x++y)):=by
  have d:x.length<549755813888:=by omega
  have w2:x.length+y.length<549755813888:=by omega
  have a:Ih [x,y] ([],0)=some (.nx (x,1)):=by dsimp only[Ih,V1,br,ix,vz,vs,ln,Af,aq,wa,fl,br];simp[d]
  have b:Ih [x,y] (x,1)=some (.nx (x++y,2)):=by dsimp only[Ih,V1,br,ix,vz,vs,ln,Af,aq,wa,fl,br];simp[w2]
  have c:Ih [x,y] (x++y,2)=some (.ex (x++y)):=by dsimp only[Ih,V1,br,ix,vz,vs,ln,Af,aq,wa,fl,br];simp
  rw[e,Aj,a]
  dsimp only
  rw[Aj,b]
  dsimp only
  rw[Aj,c]
 have g:x.length+y.length<549755813888:=by omega
 dsimp only[TR,vm,tG,yV,xJ,qC,v5,vz,vw,lr,lc,mv,fl,Ai]
 rw[f,Ya]
 simp only[Cp,fj,g,Yq,Ya]
 rw[h]
 rfl
theorem ZER{a b:ByteArray}(h:a.toList=b.toList):a=b:=by
 rw[ByteArray.toList_eq,ByteArray.toList_eq]at h
 exact ByteArray.ext (C5 h)
theorem Ik{a b:ByteArray}:ER a b<0↔a.toList<b.toList:=by
 have e:BB a b=true↔a.toList<b.toList:=by unfold BB;rw[Go.Proofs.bytesLess_eq,YE]
 rw[←e]
 unfold ER
 cases h:BB a b with
 |true=>simp
 |false=>by_cases c:a=b<;>simp[c]
theorem ZHX{α:Type}(k:α→ByteArray):CmpLaw fun x y:α=>ER (k x) (k y):=by
 constructor
 ·intro x y w a b
  exact Ik.2 (List.lt_trans (Ik.1 a) (Ik.1 b))
 ·intro x y w a b e
  have c:=fun h=>a (Ik.2 h)
  have d:=fun h=>b (Ik.2 h)
  exact List.le_trans (Sk.1 d) (Sk.1 c) (Ik.1 e)
 ·intro x h
  exact List.lt_irrefl _ (Ik.1 h)
theorem ZUF{a b:ByteArray}:ER a b=0↔¬ER a b<0∧¬ER b a<0:=by
 constructor
 ·intro h
  have e:a=b:=Y1 (by rw[←vH,h];rfl)
  subst e
  exact⟨by omega,by omega⟩
 ·rintro⟨c,d⟩
  have e:a=b:=ZER (List.le_antisymm (Sk.1 fun h=>d (Ik.2 h)) (Sk.1 fun h=>c (Ik.2 h)))
  exact Y1 (by rw[vH];exact Yo e)
theorem aY{a b:Int}:BJ a b=0↔¬BJ a b<0∧¬BJ b a<0:=by
 unfold BJ
 grind
def IY(k:Int)(a b:Val):Int:=if k=7∨k=8 then ER a.text b.text else if k=2∨k=3 then BJ (IntKind.u64.wrap (a.bits+9223372036854775808)) (IntKind.u64.wrap (b.bits+9223372036854775808))else if k=6 then BJ (G2 a.bits.toNat) (G2 b.bits.toNat)else BJ a.bits b.bits
theorem gj(k:Int):CmpLaw (IY k):=by
 unfold IY
 split
 ·exact ZHX Val.text
 ·split
  ·exact M8 fun v:Val=>IntKind.u64.wrap (v.bits+9223372036854775808)
  ·split
   ·exact M8 fun v:Val=>((G2 v.bits.toNat:Nat):Int)
   ·exact M8 Val.bits
theorem ZUK(k:Int)(a b:Val):IY k a b=0↔¬IY k a b<0∧¬IY k b a<0:=by
 unfold IY
 split
 ·exact ZUF
 ·split
  ·exact aY
  ·split
   ·exact aY
   ·exact aY
theorem jq(a b:Val):B6 a b=if a.kind≠b.kind then BJ a.kind b.kind else IY a.kind a b:=rfl
theorem In(a b:Val):B6 a b<0↔a.kind<b.kind∨(a.kind=b.kind∧IY a.kind a b<0):=by
 rw[jq]
 by_cases e:a.kind=b.kind
 ·simp[e]
 ·have h:BJ a.kind b.kind<0↔a.kind<b.kind:=by unfold BJ;grind
  simp[e,h]
theorem gI:CmpLaw B6:=by
 constructor
 ·intro x y w
  rw[In,In,In]
  rintro(b|⟨a,b⟩) (c|⟨f,c⟩)
  ·exact .inl (by omega)
  ·exact .inl (by omega)
  ·exact .inl (by omega)
  ·exact .inr ⟨a.trans f,(gj _).tr x y w b (by rw[a];exact c)⟩
 ·intro x y w
  rw[In,In,In]
  intro b c d
  have a1:¬x.kind<y.kind:=fun h=>b (.inl h)
  have g:¬y.kind<w.kind:=fun h=>c (.inl h)
  rcases d with d|⟨e,d⟩
  ·omega
  ·have a:x.kind=y.kind:=by omega
   exact(gj _).ng x y w (fun h=>b (.inr ⟨a,h⟩)) (fun h=>c (.inr ⟨by omega,by rw[←a];exact h⟩)) d
 ·intro x
  rw[In]
  rintro(h|⟨_,h⟩)
  ·omega
  ·exact(gj _).ir x h
theorem ZVB(a b:Val):B6 a b=0↔¬B6 a b<0∧¬B6 b a<0:=by
 rw[In,In]
 by_cases e:a.kind=b.kind
 ·have f:B6 a b=IY a.kind a b:=by rw[jq];simp[e]
  rw[f,ZUK]
  rw[←e]
  constructor
  ·rintro⟨c,d⟩
   exact⟨fun h=>h.elim (by omega) fun h=>c h.2,fun h=>h.elim (by omega) fun h=>d h.2⟩
  ·rintro⟨c,d⟩
   exact⟨fun h=>c (.inr ⟨rfl,h⟩),fun h=>d (.inr ⟨rfl,h⟩)⟩
 ·have f:B6 a b=BJ a.kind b.kind:=by rw[jq];simp[e]
  rw[f]
  constructor
  ·intro h
   exfalso
   unfold BJ at h
   grind
  ·rintro⟨c,d⟩
   exfalso
   have a1:¬a.kind<b.kind:=fun h=>c (.inl h)
   have g:¬b.kind<a.kind:=fun h=>d (.inl h)
   omega
def Bn(x y:Pr):Int:=B6 x.key y.key
theorem Hg:CmpLaw Bn:=⟨fun x y w=>gI.tr x.key y.key w.key,fun x y w=>gI.ng x.key y.key w.key,fun x=>gI.ir x.key⟩
theorem Nl(x y:Pr):Bn x y=0↔¬Bn x y<0∧¬Bn y x<0:=ZVB x.key y.key
theorem Zxl{x y w:Pr}(a:Bn x y<0)(b:¬Bn w y<0):Bn x w<0:=Decidable.byContradiction fun h=>Hg.ng x w y h b a
theorem ZKC(x y:Pr)(a:Bn x y<0)(b:Bn y x<0):False:=Hg.ir x (Hg.tr x y x a b)
theorem ZF6{x y w:Pr}(a:Bn x y=0)(b:Bn y w=0):Bn x w=0:=by
 rw[Nl]at*
 exact⟨Hg.ng _ _ _ a.1 b.1,Hg.ng _ _ _ b.2 a.2⟩
def IJ(l:List Pr):Prop:=l.Pairwise fun x y=>Bn x y<0
theorem ZxR{a b:List Pr}(c:IJ a)(d:IJ b)(h:∀x,x∈a↔x∈b):a=b:=by
 have f:∀{l:List Pr},IJ l→l.Nodup:=fun hl=>hl.imp fun {x y} h e=>by subst e;exact Hg.ir _ h
 exact fW ZKC c d ((List.perm_ext_iff_of_nodup (f c) (f d)).2 h)
def ZYG(l:List Pr)(x:Pr):Prop:=∃j:Nat,l[j]?=some x∧∀(k:Nat) (y:Pr),l[k]?=some y→Bn x y=0→k≤j
theorem Zlq(q:Pr)(out:List Pr)(p:Pr):Gf (q::out) p=if Bn q p<0 then q::Gf out p else p::q::out:=by
 unfold Gf IU
 rw[XF]
 by_cases h:Bn q p<0
 ·have a:B6 q.key p.key<0:=h
  rw[Yj h,Yo a]
  rfl
 ·have a:¬B6 q.key p.key<0:=h
  rw[Ym h,Yt a]
  rfl
theorem ZnP{out:List Pr}{p x:Pr}:x∈Gf out p↔x=p∨x∈out:=by
 induction out with
 |nil=>exact Yx
 |cons q out a=>
  rw[Zlq]
  split
  ·rw[Yx,a,Yx]
   grind
  ·exact Yx
theorem ZvN{out:List Pr}{p:Pr}(h:IJ out)(b:∀x∈out,¬Bn x p=0):IJ (Gf out p):=by
 induction out with
 |nil=>exact Of _ _
 |cons q out g=>
  obtain⟨a,f⟩:=Dr.1 h
  rw[Zlq]
  split
  ·rename_i c
   refine Dr.2 ⟨fun x hx=>?_,g f fun x hx=>b x (Yy _ hx)⟩
   rcases ZnP.1 hx with rfl|hx
   ·exact c
   ·exact a x hx
  ·rename_i c
   have d:Bn p q<0:=Decidable.byContradiction fun e=>b q YB ((Nl q p).2 ⟨c,e⟩)
   refine Dr.2 ⟨fun x hx=>?_,h⟩
   rcases Yx.1 hx with rfl|hx
   ·exact d
   ·exact Hg.tr p q x d (a x hx)
theorem fI(l:List Pr):∀i:Nat,IJ (CB l i)∧∀x,x∈CB l i↔∃j:Nat,j<i∧l[j]?=some x∧∀(k:Nat) (y:Pr),l[k]?=some y→Bn x y=0→k≤j
 |0=>⟨.nil,fun x=>Iff.intro (fun h=>by cases h) fun⟨j,h,_⟩=>absurd h (Y2 j)⟩
 |i+1=>by
  obtain⟨o,g⟩:=fI l i
  unfold CB
  cases e:l[i]? with
  |none=>
   refine⟨o,fun x=>(g x).trans ?_⟩
   constructor
   ·rintro⟨j,a,b⟩
    exact⟨j,by omega,b⟩
   ·rintro⟨j,a,b⟩
    have:j≠i:=fun n=>by rw[n,e]at b;cases b.1
    exact⟨j,by omega,b⟩
  |some q=>
   have r:((l.drop (i+1)).any fun x=>decide (B6 q.key x.key=0))=true↔∃(k:Nat) (y:Pr),i<k∧l[k]?=some y∧Bn q y=0:=by
    rw[YW]
    constructor
    ·rintro⟨y,hy,a⟩
     obtain⟨k,m⟩:=YN.1 hy
     rw[Y0]at m
     exact⟨i+1+k,y,by omega,m,Y1 a⟩
    ·rintro⟨k,y,a,b,c⟩
     refine⟨y,YN.2 ⟨k-(i+1),?_⟩,Yo c⟩
     rw[Y0,show i+1+(k-(i+1))=k by omega]
     exact b
   dsimp only
   split
   ·rename_i c
    obtain⟨z,A,a0,s,t⟩:=r.1 c
    refine⟨o,fun x=>(g x).trans ?_⟩
    constructor
    ·rintro⟨j,a,b⟩
     exact⟨j,by omega,b⟩
    ·rintro⟨j,a,d,f⟩
     have:j≠i:=fun n=>by
      subst n
      rw[e]at d
      cases d
      have:=f z A s t
      omega
     exact⟨j,by omega,d,f⟩
   ·rename_i c
    have v:∀x∈CB l i,¬Bn x q=0:=fun x hx w=>by
     obtain⟨j,a,_,b⟩:=(g x).1 hx
     have:=b i q e w
     omega
    refine⟨ZvN o v,fun x=>?_⟩
    rw[ZnP,g]
    constructor
    ·rintro(rfl|⟨j,a,b⟩)
     ·refine⟨i,YO _,e,fun k y m hy=>?_⟩
      exact Nat.le_of_not_lt fun p=>c (r.2 ⟨k,y,p,m,hy⟩)
     ·exact⟨j,by omega,b⟩
    ·rintro⟨j,a,d,f⟩
     by_cases u:j=i
     ·subst u
      rw[e]at d
      cases d
      exact .inl rfl
     ·exact .inr ⟨j,by omega,d,f⟩
theorem ZxW(l:List Pr):IJ (IC l):=(fI l l.length).1
theorem Zy1{l:List Pr}{x:Pr}:x∈IC l↔ZYG l x:=by
 refine((fI l l.length).2 x).trans ?_
 constructor
 ·rintro⟨j,_,b⟩
  exact⟨j,b⟩
 ·rintro⟨j,b⟩
  exact⟨j,(Yb.1 b.1).1,b⟩
def EI:List Pr→List Pr
 |[]=>[]
 |[p]=>[p]
 |p::q::l=>if Bn p q=0 then EI (q::l)else p::EI (q::l)
theorem Zje:∀r:List (Pr×Nat),r.Pairwise (Gn Bn)→IJ (EI (r.map (·.1)))∧∀x,x∈EI (r.map (·.1))↔∃j,(x,j)∈r∧∀y k,(y,k)∈r→Bn x y=0→k≤j
 |[],_=>⟨.nil,fun x=>Iff.intro (fun h=>by cases h) fun⟨j,h,_⟩=>by cases h⟩
 |[(p,i)],_=>by
  refine⟨Of _ _,fun x=>?_⟩
  show x∈[p]↔_
  rw[Y5]
  constructor
  ·rintro rfl
   refine⟨i,Y5.2 rfl,fun y k h _=>?_⟩
   cases Y5.1 h
   exact Yf _
  ·rintro⟨j,h,_⟩
   cases Y5.1 h
   rfl
 |(p,i)::(q,j)::r,h=>by
  obtain⟨t,o⟩:=Dr.1 h
  obtain⟨n,g⟩:=Zje ((q,j)::r) o
  have m:=t (q,j) YB
  show IJ (if Bn p q=0 then EI (((q,j)::r).map (·.1))else p::EI (((q,j)::r).map (·.1)))∧∀x,x∈(if Bn p q=0 then EI (((q,j)::r).map (·.1))else p::EI (((q,j)::r).map (·.1)))↔_
  by_cases c:Bn p q=0
  ·rw[Yj c]
   have u:i<j:=by
    rcases m with a|⟨_,a⟩
    ·exact absurd a ((Nl p q).1 c).1
    ·exact a
   refine⟨n,fun x=>(g x).trans ?_⟩
   constructor
   ·rintro⟨k,a,b⟩
    refine⟨k,Yy _ a,fun y l hy e=>?_⟩
    rcases Yx.1 hy with hy|hy
    ·cases hy
     have:=b q j YB (ZF6 e c)
     omega
    ·exact b y l hy e
   ·rintro⟨k,a,b⟩
    rcases Yx.1 a with a|a
    ·cases a
     have:=b q j (Yy _ YB) c
     omega
    ·exact⟨k,a,fun y l hy e=>b y l (Yy _ hy) e⟩
  ·rw[Ym c]
   have f:Bn p q<0:=by
    rcases m with a|⟨a,_⟩
    ·exact a
    ·exact Decidable.byContradiction fun s=>c ((Nl p q).2 ⟨s,a⟩)
   have d:∀y k,(y,k)∈(q,j)::r→Bn p y<0:=fun y k hy=>by
    rcases Yx.1 hy with hy|hy
    ·cases hy
     exact f
    ·rcases(Dr.1 o).1 (y,k) hy with a|⟨a,_⟩
     ·exact Hg.tr _ _ _ f a
     ·exact Zxl f a
   refine⟨Dr.2 ⟨fun x hx=>?_,n⟩,fun x=>?_⟩
   ·obtain⟨k,a,_⟩:=(g x).1 hx
    exact d x k a
   ·rw[Yx,g]
    constructor
    ·rintro(rfl|⟨k,a,b⟩)
     ·refine⟨i,YB,fun y k hy e=>?_⟩
      rcases Yx.1 hy with hy|hy
      ·cases hy
       exact Yf _
      ·exact absurd (d y k hy) ((Nl _ _).1 e).1
     ·refine⟨k,Yy _ a,fun y l hy e=>?_⟩
      rcases Yx.1 hy with hy|hy
      ·cases hy
       exact absurd (d x k a) ((Nl _ _).1 e).2
      ·exact b y l hy e
    ·rintro⟨k,a,b⟩
     rcases Yx.1 a with a|a
     ·cases a
      exact .inl rfl
     ·exact .inr ⟨k,a,fun y l hy e=>b y l (Yy _ hy) e⟩
theorem Zp0(l:List Pr):EI (CW Bn l)=IC l:=by
 obtain⟨r,c,d,e⟩:=T5 Hg l 0 [] .nil (fun a f=>by cases f)
 obtain⟨s1,s2⟩:=Zje r d
 have c:CW Bn l=r.map (·.1):=c
 rw[c]
 refine ZxR s1 (ZxW l) fun x=>(s2 x).trans (Iff.trans ?_ Zy1.symm)
 have hm:∀y k,(y,k)∈r↔l[k]?=some y:=fun y k=>by
  rw[e.mem_iff,Gt]
  exact List.mem_zipIdx_iff_getElem?
 constructor
 ·rintro⟨j,a,b⟩
  exact⟨j,(hm x j).1 a,fun k y g=>b y k ((hm y k).2 g)⟩
 ·rintro⟨j,a,b⟩
  exact⟨j,(hm x j).2 a,fun y k hy=>b k y ((hm y k).1 hy)⟩
end Go.Proofs.YtbcmdieedjamgaaGreat
