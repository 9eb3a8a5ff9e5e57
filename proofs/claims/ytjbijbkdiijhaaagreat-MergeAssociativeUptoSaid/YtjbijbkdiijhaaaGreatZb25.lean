import Derived.Test.YtjbijbkdiijhaaaGreatZb24
import Derived.Test.YtjbijbkdiijhaaaGreatZb23
import Derived.Test.YtjbijbkdiijhaaaGreatZb22
import Derived.Test.YtjbijbkdiijhaaaGreatZb00
namespace Go.Proofs.YtjbijbkdiijhaaaGreat
set_option linter.all false
open Go Go.Eng
section
variable {α:Type} [Rw α] [Tid α]
def AQ(pf:α→α→Option Int)(cmp:α→α→Int)(l:List α):Prop:=∀x∈l,∀y∈l,pf x y=some (cmp x y)
theorem AQ.perm{pf:α→α→Option Int}{cmp:α→α→Int}{l v:List α}(h:AQ pf cmp l)(p:v.Perm l):AQ pf cmp v:=fun x hx y hy=>h x (p.mem_iff.1 hx) y (p.mem_iff.1 hy)
theorem AQ.atI{pf:α→α→Option Int}{cmp:α→α→Int}{l:List α}(h:AQ pf cmp l){i j:Nat}(hi:i<l.length)(a:j<l.length):pf (l.getD i Rw.z) (l.getD j Rw.z)=some (cmp (l.getD i Rw.z) (l.getD j Rw.z)):=by
 have e:∀k (h:k<l.length),l.getD k Rw.z=l[k]:=fun k h=>by rw[Yg,Ye h,YU]
 rw[e i hi,e j a]
 exact h _ (Gn hi) _ (Gn a)
theorem ZOw(l:List α)(a b:Nat)(pf:α→α→Option Int)(cmp:α→α→Int)(A:AQ pf cmp l)(i:Int)(hl:l.length≤4194304):∀(j:Nat) (v:List α) (N c:Nat),j<N→j<c→j<l.length→v.Perm l→
  ∃o h,E0 (Rw.z:α) a cmp c j v=.inl (o,h)∧Am (Fi l (a:Int) (b:Int) pf i) N ((j:Int),v)=some (.inl h)∧h.Perm l:=by
 intro j
 induction j with
 |zero=>
  intro v N c hN y z d
  have n:=d.length_eq
  obtain⟨N,rfl⟩:∃m,N=m+1:=⟨N-1,by omega⟩
  obtain⟨c,rfl⟩:∃m,c=m+1:=⟨c-1,by omega⟩
  have g:¬(a:Int)<((0:Nat):Int):=by omega
  refine⟨0,v,by rw[E0];simp only[g,YV,EA,cond_false],?_,d⟩
  have hB:Fi l (a:Int) (b:Int) pf i (((0:Nat):Int),v)=some (.ex v):=by
   dsimp only[Fi,JN,br,vz,vs,vg,ln,Ai,HD,wi,AI,ca,Fq,st,BY,fl,br,AI]
   grind
  rw[Am,hB]
 |succ j B=>
  intro v N c hN y z d
  have n:=d.length_eq
  obtain⟨N,rfl⟩:∃m,N=m+1:=⟨N-1,by omega⟩
  obtain⟨c,rfl⟩:∃m,c=m+1:=⟨c-1,by omega⟩
  by_cases g:(a:Int)<((j+1:Nat):Int)
  ·have r:((j+1:Nat):Int)-1=(j:Int):=by omega
   have x: -9223372036854775808≤(j:Int)∧(j:Int)<9223372036854775808:=by omega
   have u:(0:Int)≤((j+1:Nat):Int)∧((j+1:Nat):Int)<(l.length:Int):=by omega
   have w:(0:Int)≤(j:Int)∧(j:Int)<(l.length:Int):=by omega
   have e:j+1<v.length:=by omega
   have f:j<v.length:=by omega
   have p:v[j+1]?=some (v.getD (j+1) Rw.z):=by rw[Yg,Ye e];rfl
   have q:v[j]?=some (v.getD j Rw.z):=by rw[Yg,Ye f];rfl
   have s:j+1-1=j:=rfl
   have t:=(A.perm d).atI e f
   by_cases k:cmp (v.getD (j+1) Rw.z) (v.getD j Rw.z)<0
   ·obtain⟨o,h,C,D,E⟩:=B ((v.set (j+1) (v.getD j Rw.z)).set j (v.getD (j+1) Rw.z)) N c (by omega) (by omega) (by omega) ((K5 v (j+1) j e f).trans d)
    refine⟨o,h,by rw[E0];simp only[g,s,k,Yr,OD,cond_true];exact C,?_,E⟩
    have hB:Fi l (a:Int) (b:Int) pf i (((j+1:Nat):Int),v)=some (.nx ((j:Int),(v.set (j+1) (v.getD j Rw.z)).set j (v.getD (j+1) Rw.z))):=by
     dsimp only[Fi,JN,br,vz,vs,vg,ln,Ai,HD,wi,AI,ca,Fq,st,BY,fl,br,AI]
     simp only[g,r,x,u,w,e,f,p,q,t,k,Yr,forall_const,Cw,OD,Yv,Y0,Gs,YU,Yc,OQ]
    rw[Am,hB]
    exact D
   ·refine⟨j+1,v,by rw[E0];simp only[g,s,k,Yr,YV,Mf,cond_false],?_,d⟩
    have hB:Fi l (a:Int) (b:Int) pf i (((j+1:Nat):Int),v)=some (.ex v):=by
     dsimp only[Fi,JN,br,vz,vs,vg,ln,Ai,HD,wi,AI,ca,Fq,st,BY,fl,br,AI]
     simp only[g,r,x,u,w,e,f,t,k,Yr,YV,forall_const,Cw,Mf,Yo,Yv,YR,Y0,Gs,YU]
    rw[Am,hB]
  ·refine⟨j+1,v,by rw[E0];simp only[g,YV,EA,cond_false],?_,d⟩
   have hB:Fi l (a:Int) (b:Int) pf i (((j+1:Nat):Int),v)=some (.ex v):=by
    dsimp only[Fi,JN,br,vz,vs,vg,ln,Ai,HD,wi,AI,ca,Fq,st,BY,fl,br,AI]
    simp only[g,YV,Yo,OE,EA,Yv,YR]
   rw[Am,hB]
theorem pY(l:List α)(a b:Nat)(pf:α→α→Option Int)(cmp:α→α→Int)(k:AQ pf cmp l)(hl:l.length≤4194304)(n:b≤l.length):∀(d i:Nat) (v:List α) (N c:Nat),b-i≤d→d<N→b-i<c→v.Perm l→
  ∃j e,Gw (Rw.z:α) a b cmp c i v=.inl (j,e)∧(i<4611686018427387904→Am (Ip l (a:Int) (b:Int) pf) N ((i:Int),v)=some (.inl e))∧e.Perm l
 |d,i,v,N,c,t,hN,u,h=>by
  have o:=h.length_eq
  obtain⟨N,rfl⟩:∃m,N=m+1:=⟨N-1,by omega⟩
  obtain⟨c,rfl⟩:∃m,c=m+1:=⟨c-1,by omega⟩
  by_cases g:i<b
  ·obtain⟨d,rfl⟩:∃m,d=m+1:=⟨d-1,by omega⟩
   have f:(i:Int)<(b:Int):=by omega
   obtain⟨x,w,p,y,q⟩:=ZOw l a b pf cmp k (i:Int) hl i v Al (i+1) (A2 (by omega)) (by omega) (by omega) h
   obtain⟨j,e,r,z,s⟩:=pY l a b pf cmp k hl n d (i+1) w N c (by omega) (by omega) (by omega) q
   refine⟨j,e,by rw[Gw];simp only[f,Yr,cond_true,p,CV];exact r,fun hi=>?_,s⟩
   have A: -9223372036854775808≤(i:Int)+1∧(i:Int)+1<9223372036854775808:=by omega
   have hB:Ip l (a:Int) (b:Int) pf ((i:Int),v)=some (.nx ((i:Int)+1,w)):=by
    dsimp only[Ip,Nz,Nx,NK,br,vz,vs,ln,Ai,lc,wi,fl,br]
    grind
   rw[Am,hB]
   grind
  ·have f:¬(i:Int)<(b:Int):=by omega
   refine⟨i,v,by rw[Gw];simp only[f,YV,cond_false],fun _=>?_,h⟩
   have hB:Ip l (a:Int) (b:Int) pf ((i:Int),v)=some (.ex v):=by
    dsimp only[Ip,Nz,Nx,NK,br,vz,vs,ln,Ai,lc,wi,fl,br]
    grind
   rw[Am,hB]
theorem x5(l:List α)(a b:Nat)(pf:α→α→Option Int)(cmp:α→α→Int)(d:AQ pf cmp l)(hl:l.length≤4194304)(h:a≤4194304)(c:b≤l.length):Ju l (a:Int) (b:Int) pf=some (DE Rw.z l a b cmp):=by
 obtain⟨i,k,e,f,j⟩:=pY l a b pf cmp d hl c (b-(a+1)) (a+1) l Al (b-(a+1)+1) (Yf _) (A2 (by omega)) (by omega) (.refl _)
 have m: -9223372036854775808≤(a:Int)+1∧(a:Int)+1<9223372036854775808:=by omega
 have g:=f (by omega)
 rw[show((a+1:Nat):Int)=(a:Int)+1 from by omega]at g
 unfold Ju DE
 rw[e]
 dsimp only[Ju,R3,RX,vz,vs,lr,lc,wi,fl]
 grind
theorem tq(l:List α)(a b:Nat)(cmp:α→α→Int)(hl:l.length≤4194304)(c:b≤l.length):(DE (Rw.z:α) l a b cmp).Perm l:=by
 obtain⟨f,g,d,_,e⟩:=pY l a b (fun x y=>some (cmp x y)) cmp (fun _ _ _ _=>rfl) hl c (b-(a+1)) (a+1) l (b-(a+1)+1) (b-(a+1)+1) (Yf _) (by omega) (by omega) (.refl _)
 unfold DE
 rw[d]
 exact e
end
end Go.Proofs.YtjbijbkdiijhaaaGreat
namespace Go.Proofs.YtjbijbkdiijhaaaGreat
set_option linter.all false
open Go Go.Eng
section
variable {α:Type} [Rw α] [Tid α]
def U0(pf:α→α→Option Int)(cmp:α→α→Int):Prop:=∀(c:Nat) (l:List α) (a m b:Nat),AQ pf cmp l→l.length≤4194304→b-a<c→a<m→m<b→b≤l.length→Dm c l (a:Int) (m:Int) (b:Int) pf=some (Bc Rw.z c l a m b cmp)∧(Bc (Rw.z:α) c l a m b cmp).Perm l
section
variable {pf:α→α→Option Int} {cmp:α→α→Int}
theorem ub(l:List α)(j:AQ pf cmp l)(hl:l.length≤4194304):∀(d x y:Nat) (v:List α) (N a:Nat),l.length+1-y≤d→d<N→l.length+1-y<a→x≤l.length→v.Perm l→
  ∃x' h c,Hb (Rw.z:α) l.length cmp a x y v=.inl (x',h,c)∧Am (Ij l (l.length:Int) pf) N (x,y,v)=some (.inl (x',c))∧c.Perm l∧x'≤l.length
 |d,x,y,v,N,a,q,hN,r,hx,e=>by
  have k:=e.length_eq
  obtain⟨N,rfl⟩:∃m,N=m+1:=⟨N-1,by omega⟩
  obtain⟨a,rfl⟩:∃m,a=m+1:=⟨a-1,by omega⟩
  by_cases g:y≤l.length
  ·obtain⟨d,rfl⟩:∃m,d=m+1:=⟨d-1,by omega⟩
   have f:(y:Int)≤(l.length:Int):=by omega
   have hs:=x5 v x y pf cmp (j.perm e) (by omega) (by omega) (by omega)
   have b:=(tq v x y cmp (by omega) (by omega)).trans e
   have i:=b.length_eq
   obtain⟨x',h,c,n,o,p⟩:=ub l j hl d y (y+20) (DE Rw.z v x y cmp) N a (by omega) (by omega) (by omega) g b
   refine⟨x',h,c,by rw[Hb,Yn f,cond_true];exact n,?_,p⟩
   have s:y+20<9223372036854775808:=by omega
   have hB:Ij l (l.length:Int) pf (x,y,v)=some (.nx (y,y+20,DE Rw.z v x y cmp)):=by
    dsimp only[Ij,NV,NR,ND,N1,br,vz,vs,v2,ln,Ai,lc,wa,fl,br,wm]
    grind
   rw[Am,hB]
   exact o
  ·have f:¬(y:Int)≤(l.length:Int):=by omega
   refine⟨x,y,v,by rw[Hb,Yq f,cond_false],?_,e,hx⟩
   have hB:Ij l (l.length:Int) pf (x,y,v)=some (.ex (x,v)):=by
    dsimp only[Ij,NV,NR,ND,N1,br,vz,vs,v2,ln,Ai,lc,wa,fl,br,wm]
    grind
   rw[Am,hB]
theorem xy(k:U0 pf cmp)(l:List α)(n:AQ pf cmp l)(hl:l.length≤4194304)(s:Nat)(h:0<s)(i:s≤l.length):∀(d x y:Nat) (v:List α) (N a:Nat),l.length+1-y≤d→d<N→l.length+1-y<a→x≤l.length→y=x+2*s→v.Perm l→
  ∃x' j b,Ha (Rw.z:α) l.length cmp s a x y v=.inl (x',j,b)∧Am (Ih l (l.length:Int) pf s) N (x,y,v)=some (.inl (x',b))∧b.Perm l∧x'≤l.length
 |d,x,y,v,N,a,u,hN,w,hx,hy,c=>by
  have o:=c.length_eq
  obtain⟨N,rfl⟩:∃m,N=m+1:=⟨N-1,by omega⟩
  obtain⟨a,rfl⟩:∃m,a=m+1:=⟨a-1,by omega⟩
  by_cases g:y≤l.length
  ·obtain⟨d,rfl⟩:∃m,d=m+1:=⟨d-1,by omega⟩
   have e:(y:Int)≤(l.length:Int):=by omega
   obtain⟨hs,f⟩:=k (y-x+1) v x (x+s) y (n.perm c) (by omega) (by omega) (by omega) (by omega) (by omega)
   obtain⟨x',j,b,p,q,r⟩:=xy k l n hl s h i d y (y+2*s) (Bc Rw.z (y-x+1) v x (x+s) y cmp) N a (by omega) (by omega) (by omega) g rfl (f.trans c)
   refine⟨x',j,b,by rw[Ha,Yn e,cond_true];exact p,?_,r⟩
   have z:y+2*s<9223372036854775808:=by omega
   have w2:2*s<9223372036854775808:=by omega
   have A:x+s<9223372036854775808:=by omega
   have t:((y:Int)-(x:Int)+1).toNat=y-x+1:=by omega
   have hB:Ih l (l.length:Int) pf s (x,y,v)=some (.nx (y,y+2*s,Bc Rw.z (y-x+1) v x (x+s) y cmp)):=by
    dsimp only[Ih,N0,NS,NY,NO,br,vz,vs,ln,Ai,lc,wa,fl,br,wm]
    grind
   rw[Am,hB]
   exact q
  ·have e:¬(y:Int)≤(l.length:Int):=by omega
   refine⟨x,y,v,by rw[Ha,Yq e,cond_false],?_,c,hx⟩
   have hB:Ih l (l.length:Int) pf s (x,y,v)=some (.ex (x,v)):=by
    dsimp only[Ih,N0,NS,NY,NO,br,vz,vs,ln,Ai,lc,wa,fl,br,wm]
    grind
   rw[Am,hB]
theorem gi(f:U0 pf cmp)(l:List α)(h:AQ pf cmp l)(hl:l.length≤4194304):∀(d s:Nat) (v:List α) (N a:Nat),0<s→l.length-s≤d→d<N→l.length-s<a→v.Perm l→
  ∃s' c,FI (Rw.z:α) l.length cmp a s v=.inl (s',c)∧Am (GM l (l.length:Int) pf) N (s,v)=some (.inl c)∧c.Perm l
 |d,s,v,N,a,k,B,hN,C,n=>by
  have u:=n.length_eq
  obtain⟨N,rfl⟩:∃m,N=m+1:=⟨N-1,by omega⟩
  obtain⟨a,rfl⟩:∃m,a=m+1:=⟨a-1,by omega⟩
  by_cases g:s<l.length
  ·obtain⟨d,rfl⟩:∃m,d=m+1:=⟨d-1,by omega⟩
   have e:(s:Int)<(l.length:Int):=by omega
   obtain⟨x,y,w,r,D,i,E⟩:=xy f l h hl s k (by omega) (l.length+1-2*s) 0 (2*s) v Al (l.length+1-2*s+1) (Yf _) (A2 (by omega)) (by omega) (by omega) (by omega) n
   have z:=i.length_eq
   have F:s*2<9223372036854775808:=by omega
   have w2:2*s<9223372036854775808:=by omega
   have G:x+s<9223372036854775808:=by omega
   by_cases t:x+s<l.length
   ·have b:((x+s:Nat):Int)<(l.length:Int):=by omega
    obtain⟨hs,j⟩:=f (l.length-x+1) w x (x+s) l.length (h.perm i) (by omega) (by omega) (by omega) t (by omega)
    obtain⟨s',c,o,p,q⟩:=gi f l h hl d (s*2) (Bc Rw.z (l.length-x+1) w x (x+s) l.length cmp) N a (by omega) (by omega) (by omega) (by omega) (j.trans i)
    refine⟨s',c,by rw[FI,Yn e,cond_true,r];simp only[CV,Yn b,cond_true];exact o,?_,q⟩
    have A:((l.length:Int)-(x:Int)+1).toNat=l.length-x+1:=by omega
    have hB:GM l (l.length:Int) pf (s,v)=some (.nx (s*2,Bc Rw.z (l.length-x+1) w x (x+s) l.length cmp)):=by
     dsimp only[GM,Ld,Ly,Lz,Le,LA,Lj,Lb,LG,br,vz,vs,ln,Ai,lc,wa,fl,br,wm]
     grind
    rw[Am,hB]
    exact p
   ·have b:¬((x+s:Nat):Int)<(l.length:Int):=by omega
    obtain⟨s',c,o,p,q⟩:=gi f l h hl d (s*2) w N a (by omega) (by omega) (by omega) (by omega) i
    refine⟨s',c,by rw[FI,Yn e,cond_true,r];simp only[CV,Yq b,cond_false];exact o,?_,q⟩
    have hB:GM l (l.length:Int) pf (s,v)=some (.nx (s*2,w)):=by
     dsimp only[GM,Ld,Ly,Lz,Le,LA,Lj,Lb,LG,br,vz,vs,ln,Ai,lc,wa,fl,br,wm]
     grind
    rw[Am,hB]
    exact p
  ·have e:¬(s:Int)<(l.length:Int):=by omega
   refine⟨s,v,by rw[FI,Yq e,cond_false],?_,n⟩
   have hB:GM l (l.length:Int) pf (s,v)=some (.ex v):=by
    dsimp only[GM,Ld,Ly,Lz,Le,LA,Lj,Lb,LG,br,vz,vs,ln,Ai,lc,wa,fl,br,wm]
    grind
   rw[Am,hB]
theorem qh(d:U0 pf cmp)(l:List α)(a:AQ pf cmp l)(hl:l.length≤4194304):FH l pf=some (Gv Rw.z l cmp):=by
 obtain⟨x,y,w,f,g,c,h⟩:=ub l a hl (l.length+1-20) 0 20 l Al (l.length+1-20+1) (Yf _) (A2 (by omega)) (by omega) (by omega) (.refl _)
 have e:=c.length_eq
 have hs:=x5 w x l.length pf cmp (a.perm c) (by omega) (by omega) (by omega)
 have b:=(tq w x l.length cmp (by omega) (by omega)).trans c
 obtain⟨s',m,i,j,k⟩:=gi d l a hl (l.length-20) 20 (DE Rw.z w x l.length cmp) Al (l.length-20+1) (by omega) (Yf _) (A2 (by omega)) (by omega) b
 unfold FH Gv V0
 rw[f]
 dsimp only[FH,Sb,RH,RE,vz,lr,lc,fl,BH,MM,Rn,Rb,QI,Q6,vz,lr,lc,fl,MM,wm]
 grind
end
end
theorem ZRJ{n:Nat}(h:n<9223372036854775808):IntKind.u64.wrap (n:Int)=(n:Int):=by
 simp only[IntKind.wrap,IntKind.bits,IntKind.signed]
 simp
 omega
theorem ZSP{n:Nat}(h:n<9223372036854775808):IntKind.i64.wrap (n:Int)=(n:Int):=by
 simp only[IntKind.wrap,IntKind.bits,IntKind.signed]
 simp
 omega
theorem Ja{x y:Nat}(h:x+y<9223372036854775808):IntKind.i64.wrap (Ak .u64 (IntKind.u64.wrap ((x:Int)+(y:Int))) 1)=(((x+y)/2:Nat):Int):=by
 rw[show(x:Int)+(y:Int)=((x+y:Nat):Int)from by omega,ZRJ h]
 have:Ak .u64 ((x+y:Nat):Int) 1=(((x+y)/2:Nat):Int):=by
  unfold Ak
  have e:(2:Int)^(min (1:Int).toNat IntKind.u64.bits)=2:=by decide
  rw[e,Int.fdiv_eq_ediv_of_nonneg _ (by decide)]
  omega
 rw[this]
 exact ZSP (by omega)
section
variable {α:Type} [Rw α] [Tid α]
theorem m9(l:List α)(R:List α→Int→Int→Int→(α→α→Option Int)→Option (List α))(a:Nat)(pf:α→α→Option Int)(cmp:α→α→Int)(n:AQ pf cmp l)(hl:l.length≤4194304)(h:a<l.length):∀(d i j N b:Nat),j-i≤d→d<N→j-i<b→i≤j→j≤l.length→
  ∃c e,E2 (Rw.z:α) l a cmp b i j=.inl (c,e)∧Am (GG l (a:Int) pf R) N ((i:Int),(j:Int))=some (.inl (c:Int))∧i≤c∧c≤j
 |d,i,j,N,b,z,hN,A,k,B=>by
  obtain⟨N,rfl⟩:∃m,N=m+1:=⟨N-1,by omega⟩
  obtain⟨b,rfl⟩:∃m,b=m+1:=⟨b-1,by omega⟩
  by_cases g:i<j
  ·obtain⟨d,rfl⟩:∃m,d=m+1:=⟨d-1,by omega⟩
   have f:(i:Int)<(j:Int):=by omega
   have s:i≤(i+j)/2:=by omega
   have t:(i+j)/2<j:=by omega
   have u:=Ja (x:=i) (y:=j) (by omega)
   have D: -9223372036854775808≤(i:Int)+(j:Int)∧(i:Int)+(j:Int)<9223372036854775808:=by omega
   have r:(0:Int)≤1:=by decide
   have C:=n.atI (i:=(i+j)/2) (j:=a) (by omega) h
   by_cases q:cmp (l.getD ((i+j)/2) Rw.z) (l.getD a Rw.z)<0
   ·obtain⟨c,e,o,p,v,w⟩:=m9 l R a pf cmp n hl h d ((i+j)/2+1) j N b (by omega) (by omega) (by omega) (by omega) (by omega)
    refine⟨c,e,by rw[E2,Yn f,cond_true,Yn q];exact o,?_,by omega,by omega⟩
    have hB:GG l (a:Int) pf R ((i:Int),(j:Int))=some (.nx (((((i+j)/2:Nat):Int)+1),(j:Int))):=by
     dsimp only[GG,JP,br,vz,vs,v2,ln,Ai,cf,wi,AI,ca,fl,br,AI,wk,shr]
     grind
    rw[Am,hB]
    exact p
   ·obtain⟨c,e,o,p,v,w⟩:=m9 l R a pf cmp n hl h d i ((i+j)/2) N b (by omega) (by omega) (by omega) (by omega) (by omega)
    refine⟨c,e,by rw[E2,Yn f,cond_true,Yq q];exact o,?_,by omega,by omega⟩
    have hB:GG l (a:Int) pf R ((i:Int),(j:Int))=some (.nx ((i:Int),(((i+j)/2:Nat):Int))):=by
     dsimp only[GG,JP,br,vz,vs,v2,ln,Ai,cf,wi,AI,ca,fl,br,AI,wk,shr]
     grind
    rw[Am,hB]
    exact p
  ·have f:¬(i:Int)<(j:Int):=by omega
   refine⟨i,j,by rw[E2,Yq f,cond_false],?_,Yf _,k⟩
   have hB:GG l (a:Int) pf R ((i:Int),(j:Int))=some (.ex (i:Int)):=by
    dsimp only[GG,JP,br,vz,vs,v2,ln,Ai,cf,wi,AI,ca,fl,br,AI,wk,shr]
    grind
   rw[Am,hB]
theorem mN(l:List α)(R:List α→Int→Int→Int→(α→α→Option Int)→Option (List α))(a:Nat)(pf:α→α→Option Int)(cmp:α→α→Int)(n:AQ pf cmp l)(hl:l.length≤4194304)(h:a<l.length):∀(d i j N b:Nat),j-i≤d→d<N→j-i<b→i≤j→j≤l.length→
  ∃c e,E1 (Rw.z:α) l a cmp b i j=.inl (c,e)∧Am (GF l (a:Int) pf R) N ((i:Int),(j:Int))=some (.inl (c:Int))∧i≤c∧c≤j
 |d,i,j,N,b,z,hN,A,k,B=>by
  obtain⟨N,rfl⟩:∃m,N=m+1:=⟨N-1,by omega⟩
  obtain⟨b,rfl⟩:∃m,b=m+1:=⟨b-1,by omega⟩
  by_cases g:i<j
  ·obtain⟨d,rfl⟩:∃m,d=m+1:=⟨d-1,by omega⟩
   have f:(i:Int)<(j:Int):=by omega
   have s:i≤(i+j)/2:=by omega
   have t:(i+j)/2<j:=by omega
   have u:=Ja (x:=i) (y:=j) (by omega)
   have D: -9223372036854775808≤(i:Int)+(j:Int)∧(i:Int)+(j:Int)<9223372036854775808:=by omega
   have r:(0:Int)≤1:=by decide
   have C:=n.atI (i:=a) (j:=(i+j)/2) h (by omega)
   by_cases q:cmp (l.getD a Rw.z) (l.getD ((i+j)/2) Rw.z)<0
   ·obtain⟨c,e,o,p,v,w⟩:=mN l R a pf cmp n hl h d i ((i+j)/2) N b (by omega) (by omega) (by omega) (by omega) (by omega)
    refine⟨c,e,by rw[E1,Yn f,cond_true,Yn q];exact o,?_,by omega,by omega⟩
    have hB:GF l (a:Int) pf R ((i:Int),(j:Int))=some (.nx ((i:Int),(((i+j)/2:Nat):Int))):=by
     dsimp only[GF,J1,br,vz,vs,ln,Ai,cf,wi,AI,ca,fl,br,AI,wk,shr]
     grind
    rw[Am,hB]
    exact p
   ·obtain⟨c,e,o,p,v,w⟩:=mN l R a pf cmp n hl h d ((i+j)/2+1) j N b (by omega) (by omega) (by omega) (by omega) (by omega)
    refine⟨c,e,by rw[E1,Yn f,cond_true,Yq q];exact o,?_,by omega,by omega⟩
    have hB:GF l (a:Int) pf R ((i:Int),(j:Int))=some (.nx (((((i+j)/2:Nat):Int)+1),(j:Int))):=by
     dsimp only[GF,J1,br,vz,vs,ln,Ai,cf,wi,AI,ca,fl,br,AI,wk,shr]
     grind
    rw[Am,hB]
    exact p
  ·have f:¬(i:Int)<(j:Int):=by omega
   refine⟨i,j,by rw[E1,Yq f,cond_false],?_,Yf _,k⟩
   have hB:GF l (a:Int) pf R ((i:Int),(j:Int))=some (.ex (i:Int)):=by
    dsimp only[GF,J1,br,vz,vs,ln,Ai,cf,wi,AI,ca,fl,br,AI,wk,shr]
    grind
   rw[Am,hB]
end
section
variable {α:Type} [Rw α] [Tid α]
theorem sx(l:List α)(R:List α→Int→Int→Int→(α→α→Option Int)→Option (List α))(pf:α→α→Option Int)(a0:Nat×Nat)(hl:l.length≤4194304)(h:1≤a0.1)(j:a0.1≤l.length):∀(d i:Nat) (v:List α) (N a:Nat),a0.1-1-i≤d→d<N→a0.1-1-i<a→v.Perm l→i≤l.length→
  ∃f b,Gu (Rw.z:α) a0 a i v=.inl (f,b)∧Am (Io l pf R (a0.1:Int)) N ((i:Int),v)=some (.inl b)∧b.Perm l
 |d,i,v,N,a,u,hN,w,e,hi=>by
  have k:=e.length_eq
  obtain⟨N,rfl⟩:∃m,N=m+1:=⟨N-1,by omega⟩
  obtain⟨a,rfl⟩:∃m,a=m+1:=⟨a-1,by omega⟩
  have t:(a0.1:Int)-1=((a0.1-1:Nat):Int):=by omega
  have B: -9223372036854775808≤((a0.1-1:Nat):Int)∧((a0.1-1:Nat):Int)<9223372036854775808:=by omega
  by_cases g:i<a0.1-1
  ·obtain⟨d,rfl⟩:∃m,d=m+1:=⟨d-1,by omega⟩
   have c:(i:Int)<((a0.1-1:Nat):Int):=by omega
   obtain⟨f,b,p,q,r⟩:=sx l R pf a0 hl h j d (i+1) ((v.set i (v.getD (i+1) Rw.z)).set (i+1) (v.getD i Rw.z)) N a (by omega) (by omega) (by omega) ((K5 v i (i+1) (by omega) (by omega)).trans e) (by omega)
   refine⟨f,b,by rw[Gu,Yn c,cond_true];exact p,?_,r⟩
   have s:(i:Int)+1=((i+1:Nat):Int):=by omega
   have A: -9223372036854775808≤((i+1:Nat):Int)∧((i+1:Nat):Int)<9223372036854775808:=by omega
   have x:(0:Int)≤(i:Int)∧(i:Int)<(l.length:Int):=by omega
   have y:(0:Int)≤((i+1:Nat):Int)∧((i+1:Nat):Int)<(l.length:Int):=by omega
   have n:i<v.length:=by omega
   have o:i+1<v.length:=by omega
   have z:v[i]?=some (v.getD i Rw.z):=by rw[Yg,Ye n];rfl
   have v2:v[i+1]?=some (v.getD (i+1) Rw.z):=by rw[Yg,Ye o];rfl
   have hB:Io l pf R (a0.1:Int) ((i:Int),v)=some (.nx (((i+1:Nat):Int),(v.set i (v.getD (i+1) Rw.z)).set (i+1) (v.getD i Rw.z))):=by
    dsimp only[Io,LC,br,vz,vs,ln,Ai,wi,AI,ca,st,BY,fl,br,AI,wk,shr]
    grind
   rw[Am,hB]
   exact q
  ·have c:¬(i:Int)<((a0.1-1:Nat):Int):=by omega
   refine⟨i,v,by rw[Gu,Yq c,cond_false],?_,e⟩
   have hB:Io l pf R (a0.1:Int) ((i:Int),v)=some (.ex v):=by
    dsimp only[Io,LC,br,vz,vs,ln,Ai,wi,AI,ca,st,BY,fl,br,AI,wk,shr]
    grind
   rw[Am,hB]
theorem ZMc(l:List α)(R:List α→Int→Int→Int→(α→α→Option Int)→Option (List α))(pf:α→α→Option Int)(b:Nat×Nat)(hl:l.length≤4194304):∀(i:Nat) (v:List α) (N a:Nat),i<N→i<a→v.Perm l→i<l.length→
  ∃g e,FF (Rw.z:α) b a i v=.inl (g,e)∧Am (GI l pf R (b.1:Int)) N ((i:Int),v)=some (.inl e)∧e.Perm l:=by
 intro i
 induction i with
 |zero=>
  intro v N a hN n d hi
  have f:=d.length_eq
  obtain⟨N,rfl⟩:∃m,N=m+1:=⟨N-1,by omega⟩
  obtain⟨a,rfl⟩:∃m,a=m+1:=⟨a-1,by omega⟩
  have c:¬(b.1:Int)<((0:Nat):Int):=by omega
  refine⟨0,v,by rw[FF,Yq c,cond_false],?_,d⟩
  have hB:GI l pf R (b.1:Int) (((0:Nat):Int),v)=some (.ex v):=by
   dsimp only[GI,JS,br,vz,vs,ln,Ai,wi,AI,ca,st,BY,fl,br,AI,wk,shr]
   grind
  rw[Am,hB]
 |succ i o=>
  intro v N a hN n d hi
  have f:=d.length_eq
  obtain⟨N,rfl⟩:∃m,N=m+1:=⟨N-1,by omega⟩
  obtain⟨a,rfl⟩:∃m,a=m+1:=⟨a-1,by omega⟩
  by_cases c:(b.1:Int)<((i+1:Nat):Int)
  ·obtain⟨g,e,p,q,r⟩:=o ((v.set (i+1) (v.getD i Rw.z)).set i (v.getD (i+1) Rw.z)) N a (by omega) (by omega) ((K5 v (i+1) i (by omega) (by omega)).trans d) (by omega)
   refine⟨g,e,by rw[FF,Yn c,cond_true];exact p,?_,r⟩
   have k:((i+1:Nat):Int)-1=(i:Int):=by omega
   have w: -9223372036854775808≤(i:Int)∧(i:Int)<9223372036854775808:=by omega
   have s:(0:Int)≤(i:Int)∧(i:Int)<(l.length:Int):=by omega
   have t:(0:Int)≤((i+1:Nat):Int)∧((i+1:Nat):Int)<(l.length:Int):=by omega
   have h:i<v.length:=by omega
   have j:i+1<v.length:=by omega
   have u:v[i]?=some (v.getD i Rw.z):=by rw[Yg,Ye h];rfl
   have v2:v[i+1]?=some (v.getD (i+1) Rw.z):=by rw[Yg,Ye j];rfl
   have hB:GI l pf R (b.1:Int) (((i+1:Nat):Int),v)=some (.nx ((i:Int),(v.set (i+1) (v.getD i Rw.z)).set i (v.getD (i+1) Rw.z))):=by
    dsimp only[GI,JS,br,vz,vs,ln,Ai,wi,AI,ca,st,BY,fl,br,AI,wk,shr]
    simp only[c,k,w,s,t,h,j,u,v2,Yr,Yv,Cw,Y0,Yc,OQ]
   rw[Am,hB]
   exact q
  ·refine⟨i+1,v,by rw[FF,Yq c,cond_false],?_,d⟩
   have hB:GI l pf R (b.1:Int) (((i+1:Nat):Int),v)=some (.ex v):=by
    dsimp only[GI,JS,br,vz,vs,ln,Ai,wi,AI,ca,st,BY,fl,br,AI,wk,shr]
    simp only[c,YV,Yo,YR]
   rw[Am,hB]
end
section
variable {α:Type} [Rw α] [Tid α]
theorem lz(l:List α)(R:List α→Int→Int→Int→(α→α→Option Int)→Option (List α))(a m b:Nat)(pf:α→α→Option Int)(cmp:α→α→Int)(p:AQ pf cmp l)(hl:l.length≤4194304)(s:a<m)(t:m<b)(u:b≤l.length):∀(d i j N c:Nat),j-i≤d→d<N→j-i<c→i≤j→j≤(a+b)/2+m∧j≤l.length→(a+b)/2+m≤l.length+i→
  ∃e f,FE (Rw.z:α) l a m b cmp c i j=.inl (e,f)∧Am (Dw l (a:Int) (m:Int) (b:Int) pf R) N ((i:Int),(j:Int))=some (.inl (e:Int))∧i≤e∧e≤j
 |d,i,j,N,c,D,hN,E,o,F,hi=>by
  obtain⟨N,rfl⟩:∃m,N=m+1:=⟨N-1,by omega⟩
  obtain⟨c,rfl⟩:∃m,c=m+1:=⟨c-1,by omega⟩
  by_cases g:i<j
  ·obtain⟨d,rfl⟩:∃m,d=m+1:=⟨d-1,by omega⟩
   have n:(i:Int)<(j:Int):=by omega
   have z:i≤(i+j)/2:=by omega
   have A:(i+j)/2<j:=by omega
   have k:=Ja (x:=i) (y:=j) (by omega)
   have h:=Ja (x:=a) (y:=b) (by omega)
   have e0:(((a+b)/2:Nat):Int)+(m:Int)-1=(((a+b)/2+m-1:Nat):Int):=by omega
   have H: -9223372036854775808≤(i:Int)+(j:Int)∧(i:Int)+(j:Int)<9223372036854775808:=by omega
   have w:(0:Int)≤1:=by decide
   have G:=p.atI (i:=(a+b)/2+m-1-(i+j)/2) (j:=(i+j)/2) (by omega) (by omega)
   by_cases v:cmp (l.getD ((a+b)/2+m-1-(i+j)/2) Rw.z) (l.getD ((i+j)/2) Rw.z)<0
   ·obtain⟨e,f,q,r,B,C⟩:=lz l R a m b pf cmp p hl s t u d i ((i+j)/2) N c (by omega) (by omega) (by omega) (by omega) (by omega) (by omega)
    refine⟨e,f,by rw[FE,Yn n,cond_true,Yn v];exact q,?_,by omega,by omega⟩
    have hB:Dw l (a:Int) (m:Int) (b:Int) pf R ((i:Int),(j:Int))=some (.nx ((i:Int),(((i+j)/2:Nat):Int))):=by
     dsimp only[Dw,GC,br,vz,vs,ln,Ai,cf,wi,AI,ca,fl,br,AI,wk,shr]
     rw[k,h,e0]
     grind
    rw[Am,hB]
    exact r
   ·obtain⟨e,f,q,r,B,C⟩:=lz l R a m b pf cmp p hl s t u d ((i+j)/2+1) j N c (by omega) (by omega) (by omega) (by omega) (by omega) (by omega)
    refine⟨e,f,by rw[FE,Yn n,cond_true,Yq v];exact q,?_,by omega,by omega⟩
    have hB:Dw l (a:Int) (m:Int) (b:Int) pf R ((i:Int),(j:Int))=some (.nx (((((i+j)/2:Nat):Int)+1),(j:Int))):=by
     dsimp only[Dw,GC,br,vz,vs,ln,Ai,cf,wi,AI,ca,fl,br,AI,wk,shr]
     rw[k,h,e0]
     grind
    rw[Am,hB]
    exact r
  ·have n:¬(i:Int)<(j:Int):=by omega
   refine⟨i,j,by rw[FE,Yq n,cond_false],?_,Yf _,o⟩
   have hB:Dw l (a:Int) (m:Int) (b:Int) pf R ((i:Int),(j:Int))=some (.ex (i:Int)):=by
    dsimp only[Dw,GC,br,vz,vs,ln,Ai,cf,wi,AI,ca,fl,br,AI,wk,shr]
    grind
   rw[Am,hB]
theorem lx(l:List α)(R:List α→Int→Int→Int→(α→α→Option Int)→Option (List α))(a m b:Nat)(pf:α→α→Option Int)(cmp:α→α→Int)(p:AQ pf cmp l)(hl:l.length≤4194304)(s:a<m)(t:m<b)(u:b≤l.length):∀(d i j N c:Nat),j-i≤d→d<N→j-i<c→i≤j→j≤(a+b)/2+m∧j≤l.length→(a+b)/2+m≤l.length+i→
  ∃e f,FG (Rw.z:α) l a m b cmp c i j=.inl (e,f)∧Am (Dw l (a:Int) (m:Int) (b:Int) pf R) N ((i:Int),(j:Int))=some (.inl (e:Int))∧i≤e∧e≤j
 |d,i,j,N,c,D,hN,E,o,F,hi=>by
  obtain⟨N,rfl⟩:∃m,N=m+1:=⟨N-1,by omega⟩
  obtain⟨c,rfl⟩:∃m,c=m+1:=⟨c-1,by omega⟩
  by_cases g:i<j
  ·obtain⟨d,rfl⟩:∃m,d=m+1:=⟨d-1,by omega⟩
   have n:(i:Int)<(j:Int):=by omega
   have z:i≤(i+j)/2:=by omega
   have A:(i+j)/2<j:=by omega
   have k:=Ja (x:=i) (y:=j) (by omega)
   have h:=Ja (x:=a) (y:=b) (by omega)
   have e0:(((a+b)/2:Nat):Int)+(m:Int)-1=(((a+b)/2+m-1:Nat):Int):=by omega
   have H: -9223372036854775808≤(i:Int)+(j:Int)∧(i:Int)+(j:Int)<9223372036854775808:=by omega
   have w:(0:Int)≤1:=by decide
   have G:=p.atI (i:=(a+b)/2+m-1-(i+j)/2) (j:=(i+j)/2) (by omega) (by omega)
   by_cases v:cmp (l.getD ((a+b)/2+m-1-(i+j)/2) Rw.z) (l.getD ((i+j)/2) Rw.z)<0
   ·obtain⟨e,f,q,r,B,C⟩:=lx l R a m b pf cmp p hl s t u d i ((i+j)/2) N c (by omega) (by omega) (by omega) (by omega) (by omega) (by omega)
    refine⟨e,f,by rw[FG,Yn n,cond_true,Yn v];exact q,?_,by omega,by omega⟩
    have hB:Dw l (a:Int) (m:Int) (b:Int) pf R ((i:Int),(j:Int))=some (.nx ((i:Int),(((i+j)/2:Nat):Int))):=by
     dsimp only[Dw,GC,br,vz,vs,ln,Ai,cf,wi,AI,ca,fl,br,AI,wk,shr]
     rw[k,h,e0]
     grind
    rw[Am,hB]
    exact r
   ·obtain⟨e,f,q,r,B,C⟩:=lx l R a m b pf cmp p hl s t u d ((i+j)/2+1) j N c (by omega) (by omega) (by omega) (by omega) (by omega) (by omega)
    refine⟨e,f,by rw[FG,Yn n,cond_true,Yq v];exact q,?_,by omega,by omega⟩
    have hB:Dw l (a:Int) (m:Int) (b:Int) pf R ((i:Int),(j:Int))=some (.nx (((((i+j)/2:Nat):Int)+1),(j:Int))):=by
     dsimp only[Dw,GC,br,vz,vs,ln,Ai,cf,wi,AI,ca,fl,br,AI,wk,shr]
     rw[k,h,e0]
     grind
    rw[Am,hB]
    exact r
  ·have n:¬(i:Int)<(j:Int):=by omega
   refine⟨i,j,by rw[FG,Yq n,cond_false],?_,Yf _,o⟩
   have hB:Dw l (a:Int) (m:Int) (b:Int) pf R ((i:Int),(j:Int))=some (.ex (i:Int)):=by
    dsimp only[Dw,GC,br,vz,vs,ln,Ai,cf,wi,AI,ca,fl,br,AI,wk,shr]
    grind
   rw[Am,hB]
end
theorem uK{α:Type}(z:α)(c:Nat)(l:List α)(a m b:Nat)(cf:α→α→Int)(s:Nat):
  (cond ((decide (((s:Nat):Int)<((m:Nat):Int))&&decide (((m:Nat):Int)<(((((a+b)/2)+m)-s:Nat):Int)))) (cond ((decide (((a:Nat):Int)<((s:Nat):Int))&&decide (((s:Nat):Int)<(((a+b)/2:Nat):Int)))) (cond ((decide ((((a+b)/2:Nat):Int)<(((((a+b)/2)+m)-s:Nat):Int))&&decide ((((((a+b)/2)+m)-s:Nat):Int)<((b:Nat):Int)))) ((Bc z c (Bc z c (Ci z l s m ((((a+b)/2)+m)-s) cf) a s ((a+b)/2) cf) ((a+b)/2) ((((a+b)/2)+m)-s) b cf)) ((Bc z c (Ci z l s m ((((a+b)/2)+m)-s) cf) a s ((a+b)/2) cf))) (cond ((decide ((((a+b)/2:Nat):Int)<(((((a+b)/2)+m)-s:Nat):Int))&&decide ((((((a+b)/2)+m)-s:Nat):Int)<((b:Nat):Int)))) ((Bc z c (Ci z l s m ((((a+b)/2)+m)-s) cf) ((a+b)/2) ((((a+b)/2)+m)-s) b cf)) ((Ci z l s m ((((a+b)/2)+m)-s) cf)))) (cond ((decide (((a:Nat):Int)<((s:Nat):Int))&&decide (((s:Nat):Int)<(((a+b)/2:Nat):Int)))) (cond ((decide ((((a+b)/2:Nat):Int)<(((((a+b)/2)+m)-s:Nat):Int))&&decide ((((((a+b)/2)+m)-s:Nat):Int)<((b:Nat):Int)))) ((Bc z c (Bc z c l a s ((a+b)/2) cf) ((a+b)/2) ((((a+b)/2)+m)-s) b cf)) ((Bc z c l a s ((a+b)/2) cf))) (cond ((decide ((((a+b)/2:Nat):Int)<(((((a+b)/2)+m)-s:Nat):Int))&&decide ((((((a+b)/2)+m)-s:Nat):Int)<((b:Nat):Int)))) ((Bc z c l ((a+b)/2) ((((a+b)/2)+m)-s) b cf)) (l))))=FS z c l a m b cf s:=by
 unfold FS
 grind
section
variable {α:Type} [Rw α] [Tid α]
theorem sT(R:List α→Int→Int→Int→(α→α→Option Int)→Option (List α))(pf:α→α→Option Int)(cmp:α→α→Int)(n:Nat)
  (p:∀(l:List α) (a m b:Nat),AQ pf cmp l→l.length≤4194304→b-a<n→a<m→m<b→b≤l.length→R l (a:Int) (m:Int) (b:Int) pf=some (Bc Rw.z n l a m b cmp)∧(Bc (Rw.z:α) n l a m b cmp).Perm l)
  (l:List α) (o:AQ pf cmp l) (a m b s:Nat) (hl:l.length≤4194304) (J:b-a<n+1) (D:a<m) (E:m<b) (F:b≤l.length) (G:4≤b-a) (H:s≤(a+b)/2) (I:(a+b)/2+m≤b+s):
  (Ni l (a:Int) (m:Int) (b:Int) pf R (s:Int)).m=some (FS (Rw.z:α) n l a m b cmp s)∧(FS (Rw.z:α) n l a m b cmp s).Perm l:=by
 have u:=Ja (x:=a) (y:=b) (by omega)
 have v:(((a+b)/2:Nat):Int)+(m:Int)-(s:Int)=(((a+b)/2+m-s:Nat):Int):=by omega
 have w: -9223372036854775808≤(((a+b)/2+m-s:Nat):Int)∧(((a+b)/2+m-s:Nat):Int)<9223372036854775808:=by omega
 have A:a<(a+b)/2:=by omega
 have B:(a+b)/2<b:=by omega
 unfold FS
 dsimp only[JP,LC,NL,NP,NJ,J1,JS,Ny,NW,Nd,GC,Qv,QA,QR,Q0,QW,Rm,Rf,QG,Ri,QD,Rs,QT,QU,Rv,QB,Rk,Rp,Re,QC,QX,QL,QN,QV,QO,QJ,Ru,Q5,Q8,Qx,QM,Ro,QF,Ni,JE,Ll,Lm,JK,JJ,Hi,br,vz,vg,vs,v2,wi,wk,shr,AI,ca,Fq,cf,HD,lc,ln,lf,Ai,fl,st,BY,lr,wg]
 simp only[u,v]
 generalize (a+b)/2=h at*
 generalize h+m-s=e at*
 simp only[w,Cw,Yv]
 have C:e≤b:=by omega
 by_cases c:s<m∧m<e<;>by_cases g:a<s∧s<h<;>by_cases i:h<e∧e<b
 ·
   have q:=Ue l s m e cmp hl c.1 c.2 (by omega)
   have f:=(Qc (z:=(Rw.z:α)) l s m e cmp c.1 c.2 (by omega)).2.1
   have k:=f.length_eq
   obtain⟨r,d⟩:=p (Ci (Rw.z:α) l s m e cmp) a s h (o.perm f) (by omega) (by omega) g.1 g.2 (by omega)
   obtain⟨t,j⟩:=p (Bc (Rw.z:α) n (Ci (Rw.z:α) l s m e cmp) a s h cmp) h e b (o.perm (d.trans f)) (by have:=d.length_eq;omega) (by omega) i.1 i.2 (by have:=d.length_eq;omega)
   simp only[Ef c,Ef g,Ef i,q,k,r,d.length_eq,t,j.length_eq,Yv,Yc,cond_true]
   first|exact⟨trivial,j.trans (d.trans f)⟩|exact⟨rfl,j.trans (d.trans f)⟩
 ·
   have q:=Ue l s m e cmp hl c.1 c.2 (by omega)
   have f:=(Qc (z:=(Rw.z:α)) l s m e cmp c.1 c.2 (by omega)).2.1
   have k:=f.length_eq
   obtain⟨r,d⟩:=p (Ci (Rw.z:α) l s m e cmp) a s h (o.perm f) (by omega) (by omega) g.1 g.2 (by omega)
   simp only[Ef c,Ef g,Ee i,q,k,r,d.length_eq,Yo,Yv,YR,Yc,cond_true,cond_false]
   first|exact⟨trivial,d.trans f⟩|exact⟨rfl,d.trans f⟩
 ·
   have q:=Ue l s m e cmp hl c.1 c.2 (by omega)
   have f:=(Qc (z:=(Rw.z:α)) l s m e cmp c.1 c.2 (by omega)).2.1
   have k:=f.length_eq
   obtain⟨t,j⟩:=p (Ci (Rw.z:α) l s m e cmp) h e b (o.perm f) (by omega) (by omega) i.1 i.2 (by omega)
   simp only[Ef c,Ee g,Ef i,q,k,t,j.length_eq,Yo,Yv,YR,Yc,cond_true,cond_false]
   first|exact⟨trivial,j.trans f⟩|exact⟨rfl,j.trans f⟩
 ·
   have q:=Ue l s m e cmp hl c.1 c.2 (by omega)
   have f:=(Qc (z:=(Rw.z:α)) l s m e cmp c.1 c.2 (by omega)).2.1
   have k:=f.length_eq
   simp only[Ef c,Ee g,Ee i,q,k,Yo,Yv,YR,Yc,cond_true,cond_false]
   first|exact⟨trivial,f⟩|exact⟨rfl,f⟩
 ·
   obtain⟨r,d⟩:=p l a s h o (by omega) (by omega) g.1 g.2 (by omega)
   obtain⟨t,j⟩:=p (Bc (Rw.z:α) n l a s h cmp) h e b (o.perm d) (by have:=d.length_eq;omega) (by omega) i.1 i.2 (by have:=d.length_eq;omega)
   simp only[Ee c,Ef g,Ef i,r,d.length_eq,t,j.length_eq,Yo,Yv,YR,Yc,cond_true,cond_false]
   first|exact⟨trivial,j.trans d⟩|exact⟨rfl,j.trans d⟩
 ·
   obtain⟨r,d⟩:=p l a s h o (by omega) (by omega) g.1 g.2 (by omega)
   simp only[Ee c,Ef g,Ee i,r,d.length_eq,Yo,Yv,YR,Yc,cond_true,cond_false]
   first|exact⟨trivial,d⟩|exact⟨rfl,d⟩
 ·
   obtain⟨t,j⟩:=p l h e b o (by omega) (by omega) i.1 i.2 (by omega)
   simp only[Ee c,Ee g,Ef i,t,j.length_eq,Yo,Yv,YR,Yc,cond_true,cond_false]
   first|exact⟨trivial,j⟩|exact⟨rfl,j⟩
 simp only[Ee c,Ee g,Ee i,Yo,YR,cond_false]
 first|exact⟨trivial,.refl _⟩|exact⟨rfl,.refl _⟩
theorem n8{pf:α→α→Option Int}{cmp:α→α→Int}:U0 pf cmp:=by
 intro c
 induction c with
 |zero=>intro l a m b _ _ h;omega
 |succ c w=>
  intro l a m b d hl t f g e
  rw[Bc]
  show(Hi l (a:Int) (m:Int) (b:Int) pf (Dm c)).m=_∧_
  have wa: -9223372036854775808≤((m-a:Nat):Int)∧((m-a:Nat):Int)<9223372036854775808:=by omega
  have P: -9223372036854775808≤((b-m:Nat):Int)∧((b-m:Nat):Int)<9223372036854775808:=by omega
  have H:(m:Int)-(a:Int)=((m-a:Nat):Int):=by omega
  have I:(b:Int)-(m:Int)=((b-m:Nat):Int):=by omega
  by_cases J:m-a=1
  ·have k:((m-a:Nat):Int)=1:=by omega
   obtain⟨i,j,p,q,r,s⟩:=m9 l (Dm c) a pf cmp d hl (by omega) (b-m) m b Al (b-m+1) (Yf _) (A2 (by omega)) (YQ _) (by omega) e
   obtain⟨z,v,B,C,D⟩:=sx l (Dm c) pf (i,j) hl (show 1≤i by omega) (show i≤l.length by omega) (i-1-a) a l Al (i-a+1) (Yf _) (A2 (by omega)) (by dsimp only;omega) (.refl _) (by omega)
   dsimp only[Hi,NJ,NP,NL,br,vz,vg,vs,v2,wi,wk,shr,AI,ca,Fq,cf,HD,lc,ln,lf,Ai,fl,st,BY,lr,wg]
   grind
  ·have k:¬((m-a:Nat):Int)=1:=by omega
   by_cases K:b-m=1
   ·have n:((b-m:Nat):Int)=1:=by omega
    obtain⟨i,j,p,q,r,s⟩:=mN l (Dm c) m pf cmp d hl (by omega) (m-a) a m Al (m-a+1) (Yf _) (A2 (by omega)) (YQ _) (by omega) (by omega)
    obtain⟨z,v,B,C,D⟩:=ZMc l (Dm c) pf (i,j) hl m l Al (m+1) (A2 (by omega)) (YQ _) (.refl _) (by omega)
    dsimp only[Hi,JJ,JK,Nd,NW,Ny,br,vz,vg,vs,v2,wi,wk,shr,AI,ca,Fq,cf,HD,lc,ln,lf,Ai,fl,st,BY,lr,wg]
    grind
   ·have n:¬((b-m:Nat):Int)=1:=by omega
    have A:=Ja (x:=a) (y:=b) (by omega)
    have M: -9223372036854775808≤(a:Int)+(b:Int)∧(a:Int)+(b:Int)<9223372036854775808:=by omega
    have F:(((a+b)/2:Nat):Int)+(m:Int)=(((a+b)/2+m:Nat):Int):=by omega
    have w2: -9223372036854775808≤(((a+b)/2+m:Nat):Int)∧(((a+b)/2+m:Nat):Int)<9223372036854775808:=by omega
    have N: -9223372036854775808≤(((a+b)/2+m:Nat):Int)-1∧(((a+b)/2+m:Nat):Int)-1<9223372036854775808:=by omega
    have u:(0:Int)≤1:=by decide
    by_cases L:(a+b)/2<m
    ·have o:(((a+b)/2:Nat):Int)<(m:Int):=by omega
     have G:(((a+b)/2+m:Nat):Int)-(b:Int)=(((a+b)/2+m-b:Nat):Int):=by omega
     have O: -9223372036854775808≤(((a+b)/2+m-b:Nat):Int)∧(((a+b)/2+m-b:Nat):Int)<9223372036854775808:=by omega
     obtain⟨i,j,p,q,r,s⟩:=lz l (Dm c) a m b pf cmp d hl f g e ((a+b)/2-((a+b)/2+m-b)) ((a+b)/2+m-b) ((a+b)/2) Al ((a+b)/2-((a+b)/2+m-b)+1) (Yf _) (A2 (by omega)) (YQ _) (by omega) (by omega) (by omega)
     obtain⟨t1,t2⟩:=sT (Dm c) pf cmp c w l d a m b i hl t f g e (by omega) (by omega) (by omega)
     have E:=uK (Rw.z:α) c l a m b cmp i
     dsimp only[Hi,JJ,JK,Lm,Ll,JE,br,vz,vg,vs,v2,wi,wk,shr,AI,ca,Fq,cf,HD,lc,ln,lf,Ai,fl,st,BY,lr,wg]
     grind
    ·have o:¬(((a+b)/2:Nat):Int)<(m:Int):=by omega
     obtain⟨i,j,p,q,r,s⟩:=lx l (Dm c) a m b pf cmp d hl f g e (m-a) a m Al (m-a+1) (Yf _) (A2 (by omega)) (YQ _) (by omega) (by omega) (by omega)
     obtain⟨t1,t2⟩:=sT (Dm c) pf cmp c w l d a m b i hl t f g e (by omega) (by omega) (by omega)
     have E:=uK (Rw.z:α) c l a m b cmp i
     dsimp only[Hi,JJ,JK,Lm,Ll,JE,br,vz,vg,vs,v2,wi,wk,shr,AI,ca,Fq,cf,HD,lc,ln,lf,Ai,fl,st,BY,lr,wg]
     grind
end
theorem ZUV:yZ=some true:=by kernel_rfl
def IR(x y:Slt):Int:=BL x.num y.num
theorem ZRQ(x y:Slt):MT x y=some (IR x y):=by
 dsimp only[MT,bB,wg,lr,cl]
 rw[Va]
 rfl
theorem K9{α:Type}(k:α→Int):CmpLaw fun x y:α=>BL (k x) (k y):=by
 constructor<;>(intros;unfold BL at*;grind)
theorem ZKV(l:List Slt)(hl:l.length≤4194304):FH l (fun z0 a=>MT z0 a)=some (CY IR l):=by
 have h:=qh n8 l (fun x _ y _=>ZRQ x y) hl
 rw[kl (show CmpLaw IR from K9 Slt.num) l]at h
 exact h
def Di(x y:Raw):Int:=BL x.num y.num
theorem ZR9(x y:Raw):MR x y=some (Di x y):=by
 dsimp only[MR,cN,wg,lr,cl]
 rw[Va]
 rfl
theorem ZHr(l:List Raw)(hl:l.length≤4194304):FH l (fun z0 a=>MR z0 a)=some (CY Di l):=by
 have h:=qh n8 l (fun x _ y _=>ZR9 x y) hl
 rw[kl (show CmpLaw Di from K9 Raw.num) l]at h
 exact h
theorem wu(l:List Fld)(f:Fld→Option Bool)(p:Fld→Bool)(d:∀x∈l,f x=some (p x))(h:l.length≤1048576):Ve l f=some (l.any p):=by
 have e:=Fa (B:=R9 l f) (N:=Al) l p (fun i=>(i:Int)) () (fun i x hx=>by
  have a:=BS hx
  have g:=(Ya.1 hx).1
  have b:i+1<9223372036854775808:=by omega
  have c:=d x (Yi hx)
  dsimp only[R9,XT,br,ix,vs,AA,ln,Ai,cf,wa,br]
  simp only[a,b,c,hx,Yr,Yv,Yc]
  cases p x<;>simp) (by simp[R9,XT,br,ix,vs,AA,ln,Ai,cf,wa,br]) (A2 (by omega))
 dsimp only[Ve,cC,lr,cs,jX,cA,fO,b0,vz,lr,lc,An]
 rw[e,←Ox]
 cases l.findIdx? p with
 |none=>rfl
 |some i=>simp
theorem ZOG(g f:Fld)(v:Val)(h:v.slots.length≤4194304):PG g f v=some (!decide (g.num=f.num)&&B7 v.slots g.num):=by
 dsimp only[PG,em,wg,lr,AP]
 rw[n19 v g.num (by omega)]
 cases decide (g.num=f.num)<;>simp
theorem ZNI(m:Msg)(f:Fld)(v:Val)(hm:m.fields.length≤1048576)(h:v.slots.length≤4194304):kc m f v=some (B6 m.fields f v.slots):=by
 dsimp only[kc,gv,wg,lr,cl,cs]
 unfold B6
 by_cases c:f.union=⟨#[]⟩
 ·rw[c,ZU3,Yc,wu [] _ (fun _=>false) (fun x hx=>by cases hx) (by simp)]
  simp
 ·rw[m29 m f.union hm c,Yc,wu _ _ (fun g=>!decide (g.num=f.num)&&B7 v.slots g.num) (fun g _=>ZOG g f v h) (Ed (Mb _ _) hm)]
  rw[List.any_filter]
  simp[c,Bool.and_assoc]
theorem ZTc(m:Msg)(a:List Slt)(b:Val)(hm:m.fields.length≤1048576)(d:a.length≤1048576)(c:b.slots.length≤4194304):Pv a (fun z0=>PF z0 m b)=some (a.filter fun x=>!B6 m.fields (A4 m.fields x.num) b.slots):=
 n41 a _ (fun x=>B6 m.fields (A4 m.fields x.num) b.slots) (fun x _=>by
  dsimp only[PF,eD,wg,lr,cl]
  rw[n43 m x.num hm,Yc,show(Bz m.fields x.num).1=A4 m.fields x.num from rfl,ZNI m _ b hm c]
  rfl) (by omega)
theorem ZMo(x y:List Val)(hx:x.length≤1048576)(hy:y.length≤1048576):Vr [x,y]=some (x++y):=by
 have e:(Al:Nat)=(Al-3)+1+1+1:=by have:=A2 (n:=10) (by omega);omega
 have f:Am (In [x,y]) Al (0,0)=some (.inl (x.length+y.length)):=by
  have d:x.length<9223372036854775808:=by omega
  have w2:x.length+y.length<9223372036854775808:=by omega
  have i:¬((x.length:Nat):Int)<0:=by omega
  have j:¬((x.length+y.length:Nat):Int)<0:=by omega
  have a:In [x,y] (0,0)=some (.nx (x.length,1)):=by dsimp only[In,Sk,br,ix,vz,vs,v2,ln,Ai,wa,dd,An,br];simp[d]
  have b:In [x,y] (x.length,1)=some (.nx (x.length+y.length,2)):=by dsimp only[In,Sk,br,ix,vz,vs,v2,ln,Ai,wa,dd,An,br];simp[w2];omega
  have c:In [x,y] (x.length+y.length,2)=some (.ex (x.length+y.length)):=by dsimp only[In,Sk,br,ix,vz,vs,v2,ln,Ai,wa,dd,An,br];simp
  rw[e,Am,a]
  dsimp only
  rw[Am,b]
  dsimp only
  rw[Am,c]
 have h:Am (It [x,y]) Al ([],0)=some (.inl (x++y)):=by
  have d:x.length<549755813888:=by omega
  have w2:x.length+y.length<549755813888:=by omega
  have a:It [x,y] ([],0)=some (.nx (x,1)):=by dsimp only[It,RN,br,ix,vz,vs,ln,Ai,aq,wa,fl,br];simp[d]
  have b:It [x,y] (x,1)=some (.nx (x++y,2)):=by dsimp only[It,RN,br,ix,vz,vs,ln,Ai,aq,wa,fl,br];simp[w2]
  have c:It [x,y] (x++y,2)=some (.ex (x++y)):=by dsimp only[It,RN,br,ix,vz,vs,ln,Ai,aq,wa,fl,br];simp
  rw[e,Am,a]
  dsimp only
  rw[Am,b]
  dsimp only
  rw[Am,c]
 have g:x.length+y.length<549755813888:=by omega
 dsimp only[Vr,ez,bl,dO,cZ,cW,bO,vz,vw,lr,lc,mv,fl,An]
 rw[f,Yc]
 simp only[CV,kx,g,Yv,Yc]
 rw[h]
 rfl
theorem ZOu(x y:List Pr)(hx:x.length≤1048576)(hy:y.length≤1048576):Vu [x,y]=some (x++y):=by
 have e:(Al:Nat)=(Al-3)+1+1+1:=by have:=A2 (n:=10) (by omega);omega
 have f:Am (Iv [x,y]) Al (0,0)=some (.inl (x.length+y.length)):=by
  have d:x.length<9223372036854775808:=by omega
  have w2:x.length+y.length<9223372036854775808:=by omega
  have i:¬((x.length:Nat):Int)<0:=by omega
  have j:¬((x.length+y.length:Nat):Int)<0:=by omega
  have a:Iv [x,y] (0,0)=some (.nx (x.length,1)):=by dsimp only[Iv,RY,br,ix,vz,vs,v2,ln,Ai,wa,dd,An,br];simp[d]
  have b:Iv [x,y] (x.length,1)=some (.nx (x.length+y.length,2)):=by dsimp only[Iv,RY,br,ix,vz,vs,v2,ln,Ai,wa,dd,An,br];simp[w2];omega
  have c:Iv [x,y] (x.length+y.length,2)=some (.ex (x.length+y.length)):=by dsimp only[Iv,RY,br,ix,vz,vs,v2,ln,Ai,wa,dd,An,br];simp
  rw[e,Am,a]
  dsimp only
  rw[Am,b]
  dsimp only
  rw[Am,c]
 have h:Am (Ik [x,y]) Al ([],0)=some (.inl (x++y)):=by
  have d:x.length<549755813888:=by omega
  have w2:x.length+y.length<549755813888:=by omega
  have a:Ik [x,y] ([],0)=some (.nx (x,1)):=by dsimp only[Ik,Ry,br,ix,vz,vs,ln,Ai,aq,wa,fl,br];simp[d]
  have b:Ik [x,y] (x,1)=some (.nx (x++y,2)):=by dsimp only[Ik,Ry,br,ix,vz,vs,ln,Ai,aq,wa,fl,br];simp[w2]
  have c:Ik [x,y] (x++y,2)=some (.ex (x++y)):=by dsimp only[Ik,Ry,br,ix,vz,vs,ln,Ai,aq,wa,fl,br];simp
  rw[e,Am,a]
  dsimp only
  rw[Am,b]
  dsimp only
  rw[Am,c]
 have g:x.length+y.length<549755813888:=by omega
 dsimp only[Vu,dg,bw,a6,eo,eV,fb,vz,vw,lr,lc,mv,fl,An]
 rw[f,Yc]
 simp only[CV,kQ,g,Yv,Yc]
 rw[h]
 rfl
theorem ZL1(x y:List Raw)(hx:x.length≤1048576)(hy:y.length≤1048576):VD [x,y]=some (x++y):=by
 have e:(Al:Nat)=(Al-3)+1+1+1:=by have:=A2 (n:=10) (by omega);omega
 have f:Am (Ir [x,y]) Al (0,0)=some (.inl (x.length+y.length)):=by
  have d:x.length<9223372036854775808:=by omega
  have w2:x.length+y.length<9223372036854775808:=by omega
  have i:¬((x.length:Nat):Int)<0:=by omega
  have j:¬((x.length+y.length:Nat):Int)<0:=by omega
  have a:Ir [x,y] (0,0)=some (.nx (x.length,1)):=by dsimp only[Ir,RM,br,ix,vz,vs,v2,ln,Ai,wa,dd,An,br];simp[d]
  have b:Ir [x,y] (x.length,1)=some (.nx (x.length+y.length,2)):=by dsimp only[Ir,RM,br,ix,vz,vs,v2,ln,Ai,wa,dd,An,br];simp[w2];omega
  have c:Ir [x,y] (x.length+y.length,2)=some (.ex (x.length+y.length)):=by dsimp only[Ir,RM,br,ix,vz,vs,v2,ln,Ai,wa,dd,An,br];simp
  rw[e,Am,a]
  dsimp only
  rw[Am,b]
  dsimp only
  rw[Am,c]
 have h:Am (Iq [x,y]) Al ([],0)=some (.inl (x++y)):=by
  have d:x.length<549755813888:=by omega
  have w2:x.length+y.length<549755813888:=by omega
  have a:Iq [x,y] ([],0)=some (.nx (x,1)):=by dsimp only[Iq,RK,br,ix,vz,vs,ln,Ai,aq,wa,fl,br];simp[d]
  have b:Iq [x,y] (x,1)=some (.nx (x++y,2)):=by dsimp only[Iq,RK,br,ix,vz,vs,ln,Ai,aq,wa,fl,br];simp[w2]
  have c:Iq [x,y] (x++y,2)=some (.ex (x++y)):=by dsimp only[Iq,RK,br,ix,vz,vs,ln,Ai,aq,wa,fl,br];simp
  rw[e,Am,a]
  dsimp only
  rw[Am,b]
  dsimp only
  rw[Am,c]
 have g:x.length+y.length<549755813888:=by omega
 dsimp only[VD,dn,ey,fJ,cw,fk,eB,vz,vw,lr,lc,mv,fl,An]
 rw[f,Yc]
 simp only[CV,kA,g,Yv,Yc]
 rw[h]
 rfl
theorem ZHf{a b:ByteArray}(h:a.toList=b.toList):a=b:=by
 rw[ByteArray.toList_eq,ByteArray.toList_eq]at h
 exact ByteArray.ext (Dk h)
theorem Ie{a b:ByteArray}:ET a b<0↔a.toList<b.toList:=by
 have e:BM a b=true↔a.toList<b.toList:=by unfold BM;rw[Go.Proofs.bytesLess_eq,Yy]
 rw[←e]
 unfold ET
 cases h:BM a b with
 |true=>simp
 |false=>by_cases c:a=b<;>simp[c]
theorem ZI9{α:Type}(k:α→ByteArray):CmpLaw fun x y:α=>ET (k x) (k y):=by
 constructor
 ·intro x y w a b
  exact Ie.2 (List.lt_trans (Ie.1 a) (Ie.1 b))
 ·intro x y w a b e
  have c:=fun h=>a (Ie.2 h)
  have d:=fun h=>b (Ie.2 h)
  exact List.le_trans (Tn.1 d) (Tn.1 c) (Ie.1 e)
 ·intro x h
  exact List.lt_irrefl _ (Ie.1 h)
theorem ZS0{a b:ByteArray}:ET a b=0↔¬ET a b<0∧¬ET b a<0:=by
 constructor
 ·intro h
  have e:a=b:=Y4 (by rw[←u6,h];rfl)
  subst e
  exact⟨by omega,by omega⟩
 ·rintro⟨c,d⟩
  have e:a=b:=ZHf (List.le_antisymm (Tn.1 fun h=>d (Ie.2 h)) (Tn.1 fun h=>c (Ie.2 h)))
  exact Y4 (by rw[u6];exact Yn e)
theorem fL{a b:Int}:BL a b=0↔¬BL a b<0∧¬BL b a<0:=by
 unfold BL
 grind
def IS(k:Int)(a b:Val):Int:=if k=7∨k=8 then ET a.text b.text else if k=2∨k=3 then BL (IntKind.u64.wrap (a.bits+9223372036854775808)) (IntKind.u64.wrap (b.bits+9223372036854775808))else if k=6 then BL (GY a.bits.toNat) (GY b.bits.toNat)else BL a.bits b.bits
theorem lQ(k:Int):CmpLaw (IS k):=by
 unfold IS
 split
 ·exact ZI9 Val.text
 ·split
  ·exact K9 fun v:Val=>IntKind.u64.wrap (v.bits+9223372036854775808)
  ·split
   ·exact K9 fun v:Val=>((GY v.bits.toNat:Nat):Int)
   ·exact K9 Val.bits
theorem ZRT(k:Int)(a b:Val):IS k a b=0↔¬IS k a b<0∧¬IS k b a<0:=by
 unfold IS
 split
 ·exact ZS0
 ·split
  ·exact fL
  ·split
   ·exact fL
   ·exact fL
theorem oN(a b:Val):B9 a b=if a.kind≠b.kind then BL a.kind b.kind else IS a.kind a b:=rfl
theorem Ii(a b:Val):B9 a b<0↔a.kind<b.kind∨(a.kind=b.kind∧IS a.kind a b<0):=by
 rw[oN]
 by_cases e:a.kind=b.kind
 ·simp[e]
 ·have h:BL a.kind b.kind<0↔a.kind<b.kind:=by unfold BL;grind
  simp[e,h]
theorem Wp:CmpLaw B9:=by
 constructor
 ·intro x y w
  rw[Ii,Ii,Ii]
  rintro(b|⟨a,b⟩) (c|⟨f,c⟩)
  ·exact .inl (by omega)
  ·exact .inl (by omega)
  ·exact .inl (by omega)
  ·exact .inr ⟨a.trans f,(lQ _).tr x y w b (by rw[a];exact c)⟩
 ·intro x y w
  rw[Ii,Ii,Ii]
  intro b c d
  have a1:¬x.kind<y.kind:=fun h=>b (.inl h)
  have g:¬y.kind<w.kind:=fun h=>c (.inl h)
  rcases d with d|⟨e,d⟩
  ·omega
  ·have a:x.kind=y.kind:=by omega
   exact(lQ _).ng x y w (fun h=>b (.inr ⟨a,h⟩)) (fun h=>c (.inr ⟨by omega,by rw[←a];exact h⟩)) d
 ·intro x
  rw[Ii]
  rintro(h|⟨_,h⟩)
  ·omega
  ·exact(lQ _).ir x h
theorem ZR8(a b:Val):B9 a b=0↔¬B9 a b<0∧¬B9 b a<0:=by
 rw[Ii,Ii]
 by_cases e:a.kind=b.kind
 ·have f:B9 a b=IS a.kind a b:=by rw[oN];simp[e]
  rw[f,ZRT]
  rw[←e]
  constructor
  ·rintro⟨c,d⟩
   exact⟨fun h=>h.elim (by omega) fun h=>c h.2,fun h=>h.elim (by omega) fun h=>d h.2⟩
  ·rintro⟨c,d⟩
   exact⟨fun h=>c (.inr ⟨rfl,h⟩),fun h=>d (.inr ⟨rfl,h⟩)⟩
 ·have f:B9 a b=BL a.kind b.kind:=by rw[oN];simp[e]
  rw[f]
  constructor
  ·intro h
   exfalso
   unfold BL at h
   grind
  ·rintro⟨c,d⟩
   exfalso
   have a1:¬a.kind<b.kind:=fun h=>c (.inl h)
   have g:¬b.kind<a.kind:=fun h=>d (.inl h)
   omega
def Bi(x y:Pr):Int:=B9 x.key y.key
theorem FN:CmpLaw Bi:=⟨fun x y w=>Wp.tr x.key y.key w.key,fun x y w=>Wp.ng x.key y.key w.key,fun x=>Wp.ir x.key⟩
theorem JW(x y:Pr):Bi x y=0↔¬Bi x y<0∧¬Bi y x<0:=ZR8 x.key y.key
theorem ZyZ{x y w:Pr}(a:Bi x y<0)(b:¬Bi w y<0):Bi x w<0:=Decidable.byContradiction fun h=>FN.ng x w y h b a
theorem ZNv(x y:Pr)(a:Bi x y<0)(b:Bi y x<0):False:=FN.ir x (FN.tr x y x a b)
theorem lu{x y w:Pr}(a:Bi x y=0)(b:Bi y w=0):Bi x w=0:=by
 rw[JW]at*
 exact⟨FN.ng _ _ _ a.1 b.1,FN.ng _ _ _ b.2 a.2⟩
def HC(l:List Pr):Prop:=l.Pairwise fun x y=>Bi x y<0
theorem ZoW{a b:List Pr}(c:HC a)(d:HC b)(h:∀x,x∈a↔x∈b):a=b:=by
 have f:∀{l:List Pr},HC l→l.Nodup:=fun hl=>hl.imp fun {x y} h e=>by subst e;exact FN.ir _ h
 exact k8 ZNv c d ((List.perm_ext_iff_of_nodup (f c) (f d)).2 h)
def II(l:List Pr)(x:Pr):Prop:=∃j:Nat,l[j]?=some x∧∀(k:Nat) (y:Pr),l[k]?=some y→Bi x y=0→k≤j
theorem ZmK(q:Pr)(out:List Pr)(p:Pr):F9 (q::out) p=if Bi q p<0 then q::F9 out p else p::q::out:=by
 unfold F9 IN
 rw[aw]
 by_cases h:Bi q p<0
 ·have a:B9 q.key p.key<0:=h
  rw[Ym h,Yn a]
  rfl
 ·have a:¬B9 q.key p.key<0:=h
  rw[Yk h,Yq a]
  rfl
theorem Zpw{out:List Pr}{p x:Pr}:x∈F9 out p↔x=p∨x∈out:=by
 induction out with
 |nil=>exact Yx
 |cons q out a=>
  rw[ZmK]
  split
  ·rw[Yx,a,Yx]
   grind
  ·exact Yx
theorem Zzk{out:List Pr}{p:Pr}(h:HC out)(b:∀x∈out,¬Bi x p=0):HC (F9 out p):=by
 induction out with
 |nil=>exact Ma _ _
 |cons q out g=>
  obtain⟨a,f⟩:=YX.1 h
  rw[ZmK]
  split
  ·rename_i c
   refine YX.2 ⟨fun x hx=>?_,g f fun x hx=>b x (YC _ hx)⟩
   rcases Zpw.1 hx with rfl|hx
   ·exact c
   ·exact a x hx
  ·rename_i c
   have d:Bi p q<0:=Decidable.byContradiction fun e=>b q YB ((JW q p).2 ⟨c,e⟩)
   refine YX.2 ⟨fun x hx=>?_,h⟩
   rcases Yx.1 hx with rfl|hx
   ·exact d
   ·exact FN.tr p q x d (a x hx)
theorem kN(l:List Pr):∀i:Nat,HC (CG l i)∧∀x,x∈CG l i↔∃j:Nat,j<i∧l[j]?=some x∧∀(k:Nat) (y:Pr),l[k]?=some y→Bi x y=0→k≤j
 |0=>⟨.nil,fun x=>Iff.intro (fun h=>by cases h) fun⟨j,h,_⟩=>absurd h (Y5 j)⟩
 |i+1=>by
  obtain⟨o,g⟩:=kN l i
  unfold CG
  cases e:l[i]? with
  |none=>
   refine⟨o,fun x=>(g x).trans ?_⟩
   constructor
   ·rintro⟨j,a,b⟩
    exact⟨j,by omega,b⟩
   ·rintro⟨j,a,b⟩
    have:j≠i:=fun n=>by rw[n,e]at b;cases b.1
    exact⟨j,by omega,b⟩
  |some q=>
   have r:((l.drop (i+1)).any fun x=>decide (B9 q.key x.key=0))=true↔∃(k:Nat) (y:Pr),i<k∧l[k]?=some y∧Bi q y=0:=by
    rw[YL]
    constructor
    ·rintro⟨y,hy,a⟩
     obtain⟨k,m⟩:=YG.1 hy
     rw[Y3]at m
     exact⟨i+1+k,y,by omega,m,Y4 a⟩
    ·rintro⟨k,y,a,b,c⟩
     refine⟨y,YG.2 ⟨k-(i+1),?_⟩,Yn c⟩
     rw[Y3,show i+1+(k-(i+1))=k by omega]
     exact b
   dsimp only
   split
   ·rename_i c
    obtain⟨z,A,a0,s,t⟩:=r.1 c
    refine⟨o,fun x=>(g x).trans ?_⟩
    constructor
    ·rintro⟨j,a,b⟩
     exact⟨j,by omega,b⟩
    ·rintro⟨j,a,d,f⟩
     have:j≠i:=fun n=>by
      subst n
      rw[e]at d
      cases d
      have:=f z A s t
      omega
     exact⟨j,by omega,d,f⟩
   ·rename_i c
    have v:∀x∈CG l i,¬Bi x q=0:=fun x hx w=>by
     obtain⟨j,a,_,b⟩:=(g x).1 hx
     have:=b i q e w
     omega
    refine⟨Zzk o v,fun x=>?_⟩
    rw[Zpw,g]
    constructor
    ·rintro(rfl|⟨j,a,b⟩)
     ·refine⟨i,YQ _,e,fun k y m hy=>?_⟩
      exact Nat.le_of_not_lt fun p=>c (r.2 ⟨k,y,p,m,hy⟩)
     ·exact⟨j,by omega,b⟩
    ·rintro⟨j,a,d,f⟩
     by_cases u:j=i
     ·subst u
      rw[e]at d
      cases d
      exact .inl rfl
     ·exact .inr ⟨j,by omega,d,f⟩
theorem PX(l:List Pr):HC (C4 l):=(kN l l.length).1
theorem P0{l:List Pr}{x:Pr}:x∈C4 l↔II l x:=by
 refine((kN l l.length).2 x).trans ?_
 constructor
 ·rintro⟨j,_,b⟩
  exact⟨j,b⟩
 ·rintro⟨j,b⟩
  exact⟨j,(Ya.1 b.1).1,b⟩
def EO:List Pr→List Pr
 |[]=>[]
 |[p]=>[p]
 |p::q::l=>if Bi p q=0 then EO (q::l)else p::EO (q::l)
theorem zQ:∀r:List (Pr×Nat),r.Pairwise (Gj Bi)→HC (EO (r.map (·.1)))∧∀x,x∈EO (r.map (·.1))↔∃j,(x,j)∈r∧∀y k,(y,k)∈r→Bi x y=0→k≤j
 |[],_=>⟨.nil,fun x=>Iff.intro (fun h=>by cases h) fun⟨j,h,_⟩=>by cases h⟩
 |[(p,i)],_=>by
  refine⟨Ma _ _,fun x=>?_⟩
  show x∈[p]↔_
  rw[YW]
  constructor
  ·rintro rfl
   refine⟨i,YW.2 rfl,fun y k h _=>?_⟩
   cases YW.1 h
   exact Yf _
  ·rintro⟨j,h,_⟩
   cases YW.1 h
   rfl
 |(p,i)::(q,j)::r,h=>by
  obtain⟨t,o⟩:=YX.1 h
  obtain⟨n,g⟩:=zQ ((q,j)::r) o
  have m:=t (q,j) YB
  show HC (if Bi p q=0 then EO (((q,j)::r).map (·.1))else p::EO (((q,j)::r).map (·.1)))∧∀x,x∈(if Bi p q=0 then EO (((q,j)::r).map (·.1))else p::EO (((q,j)::r).map (·.1)))↔_
  by_cases c:Bi p q=0
  ·rw[Ym c]
   have u:i<j:=by
    rcases m with a|⟨_,a⟩
    ·exact absurd a ((JW p q).1 c).1
    ·exact a
   refine⟨n,fun x=>(g x).trans ?_⟩
   constructor
   ·rintro⟨k,a,b⟩
    refine⟨k,YC _ a,fun y l hy e=>?_⟩
    rcases Yx.1 hy with hy|hy
    ·cases hy
     have:=b q j YB (lu e c)
     omega
    ·exact b y l hy e
   ·rintro⟨k,a,b⟩
    rcases Yx.1 a with a|a
    ·cases a
     have:=b q j (YC _ YB) c
     omega
    ·exact⟨k,a,fun y l hy e=>b y l (YC _ hy) e⟩
  ·rw[Yk c]
   have f:Bi p q<0:=by
    rcases m with a|⟨a,_⟩
    ·exact a
    ·exact Decidable.byContradiction fun s=>c ((JW p q).2 ⟨s,a⟩)
   have d:∀y k,(y,k)∈(q,j)::r→Bi p y<0:=fun y k hy=>by
    rcases Yx.1 hy with hy|hy
    ·cases hy
     exact f
    ·rcases(YX.1 o).1 (y,k) hy with a|⟨a,_⟩
     ·exact FN.tr _ _ _ f a
     ·exact ZyZ f a
   refine⟨YX.2 ⟨fun x hx=>?_,n⟩,fun x=>?_⟩
   ·obtain⟨k,a,_⟩:=(g x).1 hx
    exact d x k a
   ·rw[Yx,g]
    constructor
    ·rintro(rfl|⟨k,a,b⟩)
     ·refine⟨i,YB,fun y k hy e=>?_⟩
      rcases Yx.1 hy with hy|hy
      ·cases hy
       exact Yf _
      ·exact absurd (d y k hy) ((JW _ _).1 e).1
     ·refine⟨k,YC _ a,fun y l hy e=>?_⟩
      rcases Yx.1 hy with hy|hy
      ·cases hy
       exact absurd (d x k a) ((JW _ _).1 e).2
      ·exact b y l hy e
    ·rintro⟨k,a,b⟩
     rcases Yx.1 a with a|a
     ·cases a
      exact .inl rfl
     ·exact .inr ⟨k,a,fun y l hy e=>b y l (YC _ hy) e⟩
theorem Zqr(l:List Pr):EO (CY Bi l)=C4 l:=by
 obtain⟨r,c,d,e⟩:=VQ FN l 0 [] .nil (fun a f=>by cases f)
 obtain⟨s1,s2⟩:=zQ r d
 have c:CY Bi l=r.map (·.1):=c
 rw[c]
 refine ZoW s1 (PX l) fun x=>(s2 x).trans (Iff.trans ?_ P0.symm)
 have hm:∀y k,(y,k)∈r↔l[k]?=some y:=fun y k=>by
  rw[e.mem_iff,Fy]
  exact List.mem_zipIdx_iff_getElem?
 constructor
 ·rintro⟨j,a,b⟩
  exact⟨j,(hm x j).1 a,fun k y g=>b y k ((hm y k).2 g)⟩
 ·rintro⟨j,a,b⟩
  exact⟨j,(hm x j).2 a,fun y k hy=>b k y ((hm y k).1 hy)⟩
end Go.Proofs.YtjbijbkdiijhaaaGreat
