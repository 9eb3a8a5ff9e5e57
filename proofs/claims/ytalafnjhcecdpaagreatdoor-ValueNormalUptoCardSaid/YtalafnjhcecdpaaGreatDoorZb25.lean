import Derived.Test.YtalafnjhcecdpaaGreatDoorZb24
import Derived.Test.YtalafnjhcecdpaaGreatDoorZb23
import Derived.Test.YtalafnjhcecdpaaGreatDoorZb22
import Derived.Test.YtalafnjhcecdpaaGreatDoorZb00
namespace Go.Proofs.YtalafnjhcecdpaaGreatDoor
set_option linter.all false
open Go Go.Eng
section
variable {α:Type} [Rw α] [Tid α]
def AQ(pf:α→α→Option Int)(cmp:α→α→Int)(l:List α):Prop:=∀x∈l,∀y∈l,pf x y=some (cmp x y)
theorem AQ.perm{pf:α→α→Option Int}{cmp:α→α→Int}{l v:List α}(h:AQ pf cmp l)(p:v.Perm l):AQ pf cmp v:=fun x hx y hy=>h x (p.mem_iff.1 hx) y (p.mem_iff.1 hy)
theorem AQ.atI{pf:α→α→Option Int}{cmp:α→α→Int}{l:List α}(h:AQ pf cmp l){i j:Nat}(hi:i<l.length)(a:j<l.length):pf (l.getD i Rw.z) (l.getD j Rw.z)=some (cmp (l.getD i Rw.z) (l.getD j Rw.z)):=by
 have e:∀k (h:k<l.length),l.getD k Rw.z=l[k]:=fun k h=>by rw[Ym,Ya h,YT]
 rw[e i hi,e j a]
 exact h _ (IL hi) _ (IL a)
theorem u7(l:List α)(a b:Nat)(pf:α→α→Option Int)(cmp:α→α→Int)(B:AQ pf cmp l)(k:Int)(hl:l.length≤4194304):∀(j:Nat) (v:List α) (N c:Nat),j<N→j<c→j<l.length→v.Perm l→
  ∃p i,EN (Rw.z:α) a cmp c j v=.inl (p,i)∧Ah (ET l (a:Int) (b:Int) pf k) N ((j:Int),v)=some (.inl i)∧i.Perm l:=by
 intro j
 induction j with
 |zero=>
  intro v N c hN z A d
  have o:=d.length_eq
  obtain⟨N,rfl⟩:∃m,N=m+1:=⟨N-1,by omega⟩
  obtain⟨c,rfl⟩:∃m,c=m+1:=⟨c-1,by omega⟩
  have g:¬(a:Int)<((0:Nat):Int):=by omega
  refine⟨0,v,by rw[EN];simp only[g,YK,DP,cond_false],?_,d⟩
  have e:ET l (a:Int) (b:Int) pf k (((0:Nat):Int),v)=some (.ex v):=by
   dsimp only[ET,br,vz,vs,vg,ln,Af,Hh,wi,AE,ca,Fb,st,B8,fl,br,AE]
   grind
  rw[Ah,e]
 |succ j C=>
  intro v N c hN z A d
  have o:=d.length_eq
  obtain⟨N,rfl⟩:∃m,N=m+1:=⟨N-1,by omega⟩
  obtain⟨c,rfl⟩:∃m,c=m+1:=⟨c-1,by omega⟩
  by_cases g:(a:Int)<((j+1:Nat):Int)
  ·have s:((j+1:Nat):Int)-1=(j:Int):=by omega
   have y: -9223372036854775808≤(j:Int)∧(j:Int)<9223372036854775808:=by omega
   have w:(0:Int)≤((j+1:Nat):Int)∧((j+1:Nat):Int)<(l.length:Int):=by omega
   have x:(0:Int)≤(j:Int)∧(j:Int)<(l.length:Int):=by omega
   have f:j+1<v.length:=by omega
   have h:j<v.length:=by omega
   have q:v[j+1]?=some (v.getD (j+1) Rw.z):=by rw[Ym,Ya f];rfl
   have r:v[j]?=some (v.getD j Rw.z):=by rw[Ym,Ya h];rfl
   have t:j+1-1=j:=rfl
   have u:=(B.perm d).atI f h
   by_cases n:cmp (v.getD (j+1) Rw.z) (v.getD j Rw.z)<0
   ·obtain⟨p,i,D,E,F⟩:=C ((v.set (j+1) (v.getD j Rw.z)).set j (v.getD (j+1) Rw.z)) N c (by omega) (by omega) (by omega) ((Kx v (j+1) j f h).trans d)
    refine⟨p,i,by rw[EN];simp only[g,t,n,Yt,JT,cond_true];exact D,?_,F⟩
    have e:ET l (a:Int) (b:Int) pf k (((j+1:Nat):Int),v)=some (.nx ((j:Int),(v.set (j+1) (v.getD j Rw.z)).set j (v.getD (j+1) Rw.z))):=by
     dsimp only[ET,br,vz,vs,vg,ln,Af,Hh,wi,AE,ca,Fb,st,B8,fl,br,AE]
     simp only[g,s,y,w,x,f,h,q,r,u,n,Yt,forall_const,DO,JT,Yy,Fo,Fm,YT,Yd,QP]
    rw[Ah,e]
    exact E
   ·refine⟨j+1,v,by rw[EN];simp only[g,t,n,Yt,YK,Hu,cond_false],?_,d⟩
    have e:ET l (a:Int) (b:Int) pf k (((j+1:Nat):Int),v)=some (.ex v):=by
     dsimp only[ET,br,vz,vs,vg,ln,Af,Hh,wi,AE,ca,Fb,st,B8,fl,br,AE]
     simp only[g,s,y,w,x,f,h,u,n,Yt,YK,forall_const,DO,Hu,Yn,Yy,YI,Fo,Fm,YT]
    rw[Ah,e]
  ·refine⟨j+1,v,by rw[EN];simp only[g,YK,DP,cond_false],?_,d⟩
   have e:ET l (a:Int) (b:Int) pf k (((j+1:Nat):Int),v)=some (.ex v):=by
    dsimp only[ET,br,vz,vs,vg,ln,Af,Hh,wi,AE,ca,Fb,st,B8,fl,br,AE]
    simp only[g,YK,Yn,LM,DP,Yy,YI]
   rw[Ah,e]
theorem dw(l:List α)(a b:Nat)(pf:α→α→Option Int)(cmp:α→α→Int)(n:AQ pf cmp l)(hl:l.length≤4194304)(o:b≤l.length):∀(d i:Nat) (v:List α) (N c:Nat),b-i≤d→d<N→b-i<c→v.Perm l→
  ∃k e,F5 (Rw.z:α) a b cmp c i v=.inl (k,e)∧(i<4611686018427387904→Ah (HT l (a:Int) (b:Int) pf) N ((i:Int),v)=some (.inl e))∧e.Perm l
 |d,i,v,N,c,u,hN,x,j=>by
  have p:=j.length_eq
  obtain⟨N,rfl⟩:∃m,N=m+1:=⟨N-1,by omega⟩
  obtain⟨c,rfl⟩:∃m,c=m+1:=⟨c-1,by omega⟩
  by_cases g:i<b
  ·obtain⟨d,rfl⟩:∃m,d=m+1:=⟨d-1,by omega⟩
   have f:(i:Int)<(b:Int):=by omega
   obtain⟨y,w,q,z,r⟩:=u7 l a b pf cmp n (i:Int) hl i v Ag (i+1) (AZ (by omega)) (by omega) (by omega) j
   obtain⟨k,e,s,A,t⟩:=dw l a b pf cmp n hl o d (i+1) w N c (by omega) (by omega) (by omega) r
   refine⟨k,e,by rw[F5];simp only[f,Yt,cond_true,q,D0];exact s,fun hi=>?_,t⟩
   have B: -9223372036854775808≤(i:Int)+1∧(i:Int)+1<9223372036854775808:=by omega
   have h:HT l (a:Int) (b:Int) pf ((i:Int),v)=some (.nx ((i:Int)+1,w)):=by
    dsimp only[HT,br,vz,vs,ln,Af,lc,wi,fl,br]
    grind
   rw[Ah,h]
   grind
  ·have f:¬(i:Int)<(b:Int):=by omega
   refine⟨i,v,by rw[F5];simp only[f,YK,cond_false],fun _=>?_,j⟩
   have h:HT l (a:Int) (b:Int) pf ((i:Int),v)=some (.ex v):=by
    dsimp only[HT,br,vz,vs,ln,Af,lc,wi,fl,br]
    grind
   rw[Ah,h]
theorem lM(l:List α)(a b:Nat)(pf:α→α→Option Int)(cmp:α→α→Int)(d:AQ pf cmp l)(hl:l.length≤4194304)(h:a≤4194304)(c:b≤l.length):IP l (a:Int) (b:Int) pf=some (Du Rw.z l a b cmp):=by
 obtain⟨i,k,e,f,j⟩:=dw l a b pf cmp d hl c (b-(a+1)) (a+1) l Ag (b-(a+1)+1) (Yf _) (AZ (by omega)) (by omega) (.refl _)
 have m: -9223372036854775808≤(a:Int)+1∧(a:Int)+1<9223372036854775808:=by omega
 have g:=f (by omega)
 rw[show((a+1:Nat):Int)=(a:Int)+1 from by omega]at g
 unfold IP Du
 rw[e]
 dsimp only[IP,PE,vz,vs,lr,lc,wi,fl]
 grind
theorem rV(l:List α)(a b:Nat)(cmp:α→α→Int)(hl:l.length≤4194304)(c:b≤l.length):(Du (Rw.z:α) l a b cmp).Perm l:=by
 obtain⟨f,g,d,_,e⟩:=dw l a b (fun x y=>some (cmp x y)) cmp (fun _ _ _ _=>rfl) hl c (b-(a+1)) (a+1) l (b-(a+1)+1) (b-(a+1)+1) (Yf _) (by omega) (by omega) (.refl _)
 unfold Du
 rw[d]
 exact e
end
end Go.Proofs.YtalafnjhcecdpaaGreatDoor
namespace Go.Proofs.YtalafnjhcecdpaaGreatDoor
set_option linter.all false
open Go Go.Eng
section
variable {α:Type} [Rw α] [Tid α]
def Rm(pf:α→α→Option Int)(cmp:α→α→Int):Prop:=∀(c:Nat) (l:List α) (a m b:Nat),AQ pf cmp l→l.length≤4194304→b-a<c→a<m→m<b→b≤l.length→Da c l (a:Int) (m:Int) (b:Int) pf=some (A1 Rw.z c l a m b cmp)∧(A1 (Rw.z:α) c l a m b cmp).Perm l
section
variable {pf:α→α→Option Int} {cmp:α→α→Int}
theorem g6(l:List α)(k:AQ pf cmp l)(hl:l.length≤4194304):∀(d x y:Nat) (v:List α) (N a:Nat),l.length+1-y≤d→d<N→l.length+1-y<a→x≤l.length→v.Perm l→
  ∃x' i c,GT (Rw.z:α) l.length cmp a x y v=.inl (x',i,c)∧Ah (HM l (l.length:Int) pf) N (x,y,v)=some (.inl (x',c))∧c.Perm l∧x'≤l.length
 |d,x,y,v,N,a,r,hN,s,hx,e=>by
  have n:=e.length_eq
  obtain⟨N,rfl⟩:∃m,N=m+1:=⟨N-1,by omega⟩
  obtain⟨a,rfl⟩:∃m,a=m+1:=⟨a-1,by omega⟩
  by_cases g:y≤l.length
  ·obtain⟨d,rfl⟩:∃m,d=m+1:=⟨d-1,by omega⟩
   have f:(y:Int)≤(l.length:Int):=by omega
   have hs:=lM v x y pf cmp (k.perm e) (by omega) (by omega) (by omega)
   have b:=(rV v x y cmp (by omega) (by omega)).trans e
   have j:=b.length_eq
   obtain⟨x',i,c,o,p,q⟩:=g6 l k hl d y (y+20) (Du Rw.z v x y cmp) N a (by omega) (by omega) (by omega) g b
   refine⟨x',i,c,by rw[GT,Yo f,cond_true];exact o,?_,q⟩
   have t:y+20<9223372036854775808:=by omega
   have h:HM l (l.length:Int) pf (x,y,v)=some (.nx (y,y+20,Du Rw.z v x y cmp)):=by
    dsimp only[HM,br,vz,vs,v2,ln,Af,lc,wa,fl,br,wm]
    grind
   rw[Ah,h]
   exact p
  ·have f:¬(y:Int)≤(l.length:Int):=by omega
   refine⟨x,y,v,by rw[GT,Yp f,cond_false],?_,e,hx⟩
   have h:HM l (l.length:Int) pf (x,y,v)=some (.ex (x,v)):=by
    dsimp only[HM,br,vz,vs,v2,ln,Af,lc,wa,fl,br,wm]
    grind
   rw[Ah,h]
theorem hH(n:Rm pf cmp)(l:List α)(o:AQ pf cmp l)(hl:l.length≤4194304)(s:Nat)(i:0<s)(j:s≤l.length):∀(d x y:Nat) (v:List α) (N a:Nat),l.length+1-y≤d→d<N→l.length+1-y<a→x≤l.length→y=x+2*s→v.Perm l→
  ∃x' k b,GS (Rw.z:α) l.length cmp s a x y v=.inl (x',k,b)∧Ah (HN l (l.length:Int) pf s) N (x,y,v)=some (.inl (x',b))∧b.Perm l∧x'≤l.length
 |d,x,y,v,N,a,w,hN,z,hx,hy,c=>by
  have p:=c.length_eq
  obtain⟨N,rfl⟩:∃m,N=m+1:=⟨N-1,by omega⟩
  obtain⟨a,rfl⟩:∃m,a=m+1:=⟨a-1,by omega⟩
  by_cases g:y≤l.length
  ·obtain⟨d,rfl⟩:∃m,d=m+1:=⟨d-1,by omega⟩
   have e:(y:Int)≤(l.length:Int):=by omega
   obtain⟨hs,h⟩:=n (y-x+1) v x (x+s) y (o.perm c) (by omega) (by omega) (by omega) (by omega) (by omega)
   obtain⟨x',k,b,q,r,t⟩:=hH n l o hl s i j d y (y+2*s) (A1 Rw.z (y-x+1) v x (x+s) y cmp) N a (by omega) (by omega) (by omega) g rfl (h.trans c)
   refine⟨x',k,b,by rw[GS,Yo e,cond_true];exact q,?_,t⟩
   have A:y+2*s<9223372036854775808:=by omega
   have w2:2*s<9223372036854775808:=by omega
   have B:x+s<9223372036854775808:=by omega
   have u:((y:Int)-(x:Int)+1).toNat=y-x+1:=by omega
   have f:HN l (l.length:Int) pf s (x,y,v)=some (.nx (y,y+2*s,A1 Rw.z (y-x+1) v x (x+s) y cmp)):=by
    dsimp only[HN,br,vz,vs,ln,Af,lc,wa,fl,br,wm]
    grind
   rw[Ah,f]
   exact r
  ·have e:¬(y:Int)≤(l.length:Int):=by omega
   refine⟨x,y,v,by rw[GS,Yp e,cond_false],?_,c,hx⟩
   have f:HN l (l.length:Int) pf s (x,y,v)=some (.ex (x,v)):=by
    dsimp only[HN,br,vz,vs,ln,Af,lc,wa,fl,br,wm]
    grind
   rw[Ah,f]
theorem Wy(h:Rm pf cmp)(l:List α)(i:AQ pf cmp l)(hl:l.length≤4194304):∀(d s:Nat) (v:List α) (N a:Nat),0<s→l.length-s≤d→d<N→l.length-s<a→v.Perm l→
  ∃s' c,Fu (Rw.z:α) l.length cmp a s v=.inl (s',c)∧Ah (Gl l (l.length:Int) pf) N (s,v)=some (.inl c)∧c.Perm l
 |d,s,v,N,a,n,C,hN,D,o=>by
  have z:=o.length_eq
  obtain⟨N,rfl⟩:∃m,N=m+1:=⟨N-1,by omega⟩
  obtain⟨a,rfl⟩:∃m,a=m+1:=⟨a-1,by omega⟩
  by_cases g:s<l.length
  ·obtain⟨d,rfl⟩:∃m,d=m+1:=⟨d-1,by omega⟩
   have f:(s:Int)<(l.length:Int):=by omega
   obtain⟨x,y,w,t,E,j,F⟩:=hH h l i hl s n (by omega) (l.length+1-2*s) 0 (2*s) v Ag (l.length+1-2*s+1) (Yf _) (AZ (by omega)) (by omega) (by omega) (by omega) o
   have A:=j.length_eq
   have G:s*2<9223372036854775808:=by omega
   have w2:2*s<9223372036854775808:=by omega
   have H:x+s<9223372036854775808:=by omega
   by_cases u:x+s<l.length
   ·have b:((x+s:Nat):Int)<(l.length:Int):=by omega
    obtain⟨hs,k⟩:=h (l.length-x+1) w x (x+s) l.length (i.perm j) (by omega) (by omega) (by omega) u (by omega)
    obtain⟨s',c,p,q,r⟩:=Wy h l i hl d (s*2) (A1 Rw.z (l.length-x+1) w x (x+s) l.length cmp) N a (by omega) (by omega) (by omega) (by omega) (k.trans j)
    refine⟨s',c,by rw[Fu,Yo f,cond_true,t];simp only[D0,Yo b,cond_true];exact p,?_,r⟩
    have B:((l.length:Int)-(x:Int)+1).toNat=l.length-x+1:=by omega
    have e:Gl l (l.length:Int) pf (s,v)=some (.nx (s*2,A1 Rw.z (l.length-x+1) w x (x+s) l.length cmp)):=by
     dsimp only[Gl,br,vz,vs,ln,Af,lc,wa,fl,br,wm]
     grind
    rw[Ah,e]
    exact q
   ·have b:¬((x+s:Nat):Int)<(l.length:Int):=by omega
    obtain⟨s',c,p,q,r⟩:=Wy h l i hl d (s*2) w N a (by omega) (by omega) (by omega) (by omega) j
    refine⟨s',c,by rw[Fu,Yo f,cond_true,t];simp only[D0,Yp b,cond_false];exact p,?_,r⟩
    have e:Gl l (l.length:Int) pf (s,v)=some (.nx (s*2,w)):=by
     dsimp only[Gl,br,vz,vs,ln,Af,lc,wa,fl,br,wm]
     grind
    rw[Ah,e]
    exact q
  ·have f:¬(s:Int)<(l.length:Int):=by omega
   refine⟨s,v,by rw[Fu,Yp f,cond_false],?_,o⟩
   have e:Gl l (l.length:Int) pf (s,v)=some (.ex v):=by
    dsimp only[Gl,br,vz,vs,ln,Af,lc,wa,fl,br,wm]
    grind
   rw[Ah,e]
theorem eo(d:Rm pf cmp)(l:List α)(a:AQ pf cmp l)(hl:l.length≤4194304):Ft l pf=some (F4 Rw.z l cmp):=by
 obtain⟨x,y,w,f,g,c,h⟩:=g6 l a hl (l.length+1-20) 0 20 l Ag (l.length+1-20+1) (Yf _) (AZ (by omega)) (by omega) (by omega) (.refl _)
 have e:=c.length_eq
 have hs:=lM w x l.length pf cmp (a.perm c) (by omega) (by omega) (by omega)
 have b:=(rV w x l.length cmp (by omega) (by omega)).trans c
 obtain⟨s',m,i,j,k⟩:=Wy d l a hl (l.length-20) 20 (Du Rw.z w x l.length cmp) Ag (l.length-20+1) (by omega) (Yf _) (AZ (by omega)) (by omega) b
 unfold Ft F4 S8
 rw[f]
 dsimp only[Ft,PS,vz,lr,lc,fl,A5,Mp,Pk,vz,lr,lc,fl,Mp,wm]
 grind
end
end
theorem yk{n:Nat}(h:n<9223372036854775808):IntKind.u64.wrap (n:Int)=(n:Int):=by
 simp only[IntKind.wrap,IntKind.bits,IntKind.signed]
 simp
 omega
theorem w5{n:Nat}(h:n<9223372036854775808):IntKind.i64.wrap (n:Int)=(n:Int):=by
 simp only[IntKind.wrap,IntKind.bits,IntKind.signed]
 simp
 omega
theorem Jp{x y:Nat}(h:x+y<9223372036854775808):IntKind.i64.wrap (Al .u64 (IntKind.u64.wrap ((x:Int)+(y:Int))) 1)=(((x+y)/2:Nat):Int):=by
 rw[show(x:Int)+(y:Int)=((x+y:Nat):Int)from by omega,yk h]
 have:Al .u64 ((x+y:Nat):Int) 1=(((x+y)/2:Nat):Int):=by
  unfold Al
  have e:(2:Int)^(min (1:Int).toNat IntKind.u64.bits)=2:=by decide
  rw[e,Int.fdiv_eq_ediv_of_nonneg _ (by decide)]
  omega
 rw[this]
 exact w5 (by omega)
section
variable {α:Type} [Rw α] [Tid α]
theorem dl(l:List α)(R:List α→Int→Int→Int→(α→α→Option Int)→Option (List α))(a:Nat)(pf:α→α→Option Int)(cmp:α→α→Int)(o:AQ pf cmp l)(hl:l.length≤4194304)(k:a<l.length):∀(d i j N b:Nat),j-i≤d→d<N→j-i<b→i≤j→j≤l.length→
  ∃c f,EM (Rw.z:α) l a cmp b i j=.inl (c,f)∧Ah (Gk l (a:Int) pf R) N ((i:Int),(j:Int))=some (.inl (c:Int))∧i≤c∧c≤j
 |d,i,j,N,b,A,hN,B,n,C=>by
  obtain⟨N,rfl⟩:∃m,N=m+1:=⟨N-1,by omega⟩
  obtain⟨b,rfl⟩:∃m,b=m+1:=⟨b-1,by omega⟩
  by_cases g:i<j
  ·obtain⟨d,rfl⟩:∃m,d=m+1:=⟨d-1,by omega⟩
   have h:(i:Int)<(j:Int):=by omega
   have t:i≤(i+j)/2:=by omega
   have u:(i+j)/2<j:=by omega
   have v:=Jp (x:=i) (y:=j) (by omega)
   have E: -9223372036854775808≤(i:Int)+(j:Int)∧(i:Int)+(j:Int)<9223372036854775808:=by omega
   have s:(0:Int)≤1:=by decide
   have D:=o.atI (i:=(i+j)/2) (j:=a) (by omega) k
   by_cases r:cmp (l.getD ((i+j)/2) Rw.z) (l.getD a Rw.z)<0
   ·obtain⟨c,f,p,q,w,z⟩:=dl l R a pf cmp o hl k d ((i+j)/2+1) j N b (by omega) (by omega) (by omega) (by omega) (by omega)
    refine⟨c,f,by rw[EM,Yo h,cond_true,Yo r];exact p,?_,by omega,by omega⟩
    have e:Gk l (a:Int) pf R ((i:Int),(j:Int))=some (.nx (((((i+j)/2:Nat):Int)+1),(j:Int))):=by
     dsimp only[Gk,br,vz,vs,v2,ln,Af,cf,wi,AE,ca,fl,br,AE,wk,shr]
     grind
    rw[Ah,e]
    exact q
   ·obtain⟨c,f,p,q,w,z⟩:=dl l R a pf cmp o hl k d i ((i+j)/2) N b (by omega) (by omega) (by omega) (by omega) (by omega)
    refine⟨c,f,by rw[EM,Yo h,cond_true,Yp r];exact p,?_,by omega,by omega⟩
    have e:Gk l (a:Int) pf R ((i:Int),(j:Int))=some (.nx ((i:Int),(((i+j)/2:Nat):Int))):=by
     dsimp only[Gk,br,vz,vs,v2,ln,Af,cf,wi,AE,ca,fl,br,AE,wk,shr]
     grind
    rw[Ah,e]
    exact q
  ·have h:¬(i:Int)<(j:Int):=by omega
   refine⟨i,j,by rw[EM,Yp h,cond_false],?_,Yf _,n⟩
   have e:Gk l (a:Int) pf R ((i:Int),(j:Int))=some (.ex (i:Int)):=by
    dsimp only[Gk,br,vz,vs,v2,ln,Af,cf,wi,AE,ca,fl,br,AE,wk,shr]
    grind
   rw[Ah,e]
theorem dh(l:List α)(R:List α→Int→Int→Int→(α→α→Option Int)→Option (List α))(a:Nat)(pf:α→α→Option Int)(cmp:α→α→Int)(o:AQ pf cmp l)(hl:l.length≤4194304)(k:a<l.length):∀(d i j N b:Nat),j-i≤d→d<N→j-i<b→i≤j→j≤l.length→
  ∃c f,EL (Rw.z:α) l a cmp b i j=.inl (c,f)∧Ah (Gi l (a:Int) pf R) N ((i:Int),(j:Int))=some (.inl (c:Int))∧i≤c∧c≤j
 |d,i,j,N,b,A,hN,B,n,C=>by
  obtain⟨N,rfl⟩:∃m,N=m+1:=⟨N-1,by omega⟩
  obtain⟨b,rfl⟩:∃m,b=m+1:=⟨b-1,by omega⟩
  by_cases g:i<j
  ·obtain⟨d,rfl⟩:∃m,d=m+1:=⟨d-1,by omega⟩
   have h:(i:Int)<(j:Int):=by omega
   have t:i≤(i+j)/2:=by omega
   have u:(i+j)/2<j:=by omega
   have v:=Jp (x:=i) (y:=j) (by omega)
   have E: -9223372036854775808≤(i:Int)+(j:Int)∧(i:Int)+(j:Int)<9223372036854775808:=by omega
   have s:(0:Int)≤1:=by decide
   have D:=o.atI (i:=a) (j:=(i+j)/2) k (by omega)
   by_cases r:cmp (l.getD a Rw.z) (l.getD ((i+j)/2) Rw.z)<0
   ·obtain⟨c,f,p,q,w,z⟩:=dh l R a pf cmp o hl k d i ((i+j)/2) N b (by omega) (by omega) (by omega) (by omega) (by omega)
    refine⟨c,f,by rw[EL,Yo h,cond_true,Yo r];exact p,?_,by omega,by omega⟩
    have e:Gi l (a:Int) pf R ((i:Int),(j:Int))=some (.nx ((i:Int),(((i+j)/2:Nat):Int))):=by
     dsimp only[Gi,br,vz,vs,ln,Af,cf,wi,AE,ca,fl,br,AE,wk,shr]
     grind
    rw[Ah,e]
    exact q
   ·obtain⟨c,f,p,q,w,z⟩:=dh l R a pf cmp o hl k d ((i+j)/2+1) j N b (by omega) (by omega) (by omega) (by omega) (by omega)
    refine⟨c,f,by rw[EL,Yo h,cond_true,Yp r];exact p,?_,by omega,by omega⟩
    have e:Gi l (a:Int) pf R ((i:Int),(j:Int))=some (.nx (((((i+j)/2:Nat):Int)+1),(j:Int))):=by
     dsimp only[Gi,br,vz,vs,ln,Af,cf,wi,AE,ca,fl,br,AE,wk,shr]
     grind
    rw[Ah,e]
    exact q
  ·have h:¬(i:Int)<(j:Int):=by omega
   refine⟨i,j,by rw[EL,Yp h,cond_false],?_,Yf _,n⟩
   have e:Gi l (a:Int) pf R ((i:Int),(j:Int))=some (.ex (i:Int)):=by
    dsimp only[Gi,br,vz,vs,ln,Af,cf,wi,AE,ca,fl,br,AE,wk,shr]
    grind
   rw[Ah,e]
end
section
variable {α:Type} [Rw α] [Tid α]
theorem qT(l:List α)(R:List α→Int→Int→Int→(α→α→Option Int)→Option (List α))(pf:α→α→Option Int)(a0:Nat×Nat)(hl:l.length≤4194304)(j:1≤a0.1)(k:a0.1≤l.length):∀(d i:Nat) (v:List α) (N a:Nat),a0.1-1-i≤d→d<N→a0.1-1-i<a→v.Perm l→i≤l.length→
  ∃h b,F6 (Rw.z:α) a0 a i v=.inl (h,b)∧Ah (HQ l pf R (a0.1:Int)) N ((i:Int),v)=some (.inl b)∧b.Perm l
 |d,i,v,N,a,w,hN,x,f,hi=>by
  have n:=f.length_eq
  obtain⟨N,rfl⟩:∃m,N=m+1:=⟨N-1,by omega⟩
  obtain⟨a,rfl⟩:∃m,a=m+1:=⟨a-1,by omega⟩
  have u:(a0.1:Int)-1=((a0.1-1:Nat):Int):=by omega
  have C: -9223372036854775808≤((a0.1-1:Nat):Int)∧((a0.1-1:Nat):Int)<9223372036854775808:=by omega
  by_cases g:i<a0.1-1
  ·obtain⟨d,rfl⟩:∃m,d=m+1:=⟨d-1,by omega⟩
   have c:(i:Int)<((a0.1-1:Nat):Int):=by omega
   obtain⟨h,b,q,r,s⟩:=qT l R pf a0 hl j k d (i+1) ((v.set i (v.getD (i+1) Rw.z)).set (i+1) (v.getD i Rw.z)) N a (by omega) (by omega) (by omega) ((Kx v i (i+1) (by omega) (by omega)).trans f) (by omega)
   refine⟨h,b,by rw[F6,Yo c,cond_true];exact q,?_,s⟩
   have t:(i:Int)+1=((i+1:Nat):Int):=by omega
   have B: -9223372036854775808≤((i+1:Nat):Int)∧((i+1:Nat):Int)<9223372036854775808:=by omega
   have y:(0:Int)≤(i:Int)∧(i:Int)<(l.length:Int):=by omega
   have z:(0:Int)≤((i+1:Nat):Int)∧((i+1:Nat):Int)<(l.length:Int):=by omega
   have o:i<v.length:=by omega
   have p:i+1<v.length:=by omega
   have A:v[i]?=some (v.getD i Rw.z):=by rw[Ym,Ya o];rfl
   have v2:v[i+1]?=some (v.getD (i+1) Rw.z):=by rw[Ym,Ya p];rfl
   have e:HQ l pf R (a0.1:Int) ((i:Int),v)=some (.nx (((i+1:Nat):Int),(v.set i (v.getD (i+1) Rw.z)).set (i+1) (v.getD i Rw.z))):=by
    dsimp only[HQ,br,vz,vs,ln,Af,wi,AE,ca,st,B8,fl,br,AE,wk,shr]
    grind
   rw[Ah,e]
   exact r
  ·have c:¬(i:Int)<((a0.1-1:Nat):Int):=by omega
   refine⟨i,v,by rw[F6,Yp c,cond_false],?_,f⟩
   have e:HQ l pf R (a0.1:Int) ((i:Int),v)=some (.ex v):=by
    dsimp only[HQ,br,vz,vs,ln,Af,wi,AE,ca,st,B8,fl,br,AE,wk,shr]
    grind
   rw[Ah,e]
theorem wy(l:List α)(R:List α→Int→Int→Int→(α→α→Option Int)→Option (List α))(pf:α→α→Option Int)(b:Nat×Nat)(hl:l.length≤4194304):∀(i:Nat) (v:List α) (N a:Nat),i<N→i<a→v.Perm l→i<l.length→
  ∃h f,Fs (Rw.z:α) b a i v=.inl (h,f)∧Ah (Gg l pf R (b.1:Int)) N ((i:Int),v)=some (.inl f)∧f.Perm l:=by
 intro i
 induction i with
 |zero=>
  intro v N a hN o d hi
  have g:=d.length_eq
  obtain⟨N,rfl⟩:∃m,N=m+1:=⟨N-1,by omega⟩
  obtain⟨a,rfl⟩:∃m,a=m+1:=⟨a-1,by omega⟩
  have c:¬(b.1:Int)<((0:Nat):Int):=by omega
  refine⟨0,v,by rw[Fs,Yp c,cond_false],?_,d⟩
  have e:Gg l pf R (b.1:Int) (((0:Nat):Int),v)=some (.ex v):=by
   dsimp only[Gg,br,vz,vs,ln,Af,wi,AE,ca,st,B8,fl,br,AE,wk,shr]
   grind
  rw[Ah,e]
 |succ i p=>
  intro v N a hN o d hi
  have g:=d.length_eq
  obtain⟨N,rfl⟩:∃m,N=m+1:=⟨N-1,by omega⟩
  obtain⟨a,rfl⟩:∃m,a=m+1:=⟨a-1,by omega⟩
  by_cases c:(b.1:Int)<((i+1:Nat):Int)
  ·obtain⟨h,f,q,r,s⟩:=p ((v.set (i+1) (v.getD i Rw.z)).set i (v.getD (i+1) Rw.z)) N a (by omega) (by omega) ((Kx v (i+1) i (by omega) (by omega)).trans d) (by omega)
   refine⟨h,f,by rw[Fs,Yo c,cond_true];exact q,?_,s⟩
   have n:((i+1:Nat):Int)-1=(i:Int):=by omega
   have x: -9223372036854775808≤(i:Int)∧(i:Int)<9223372036854775808:=by omega
   have t:(0:Int)≤(i:Int)∧(i:Int)<(l.length:Int):=by omega
   have u:(0:Int)≤((i+1:Nat):Int)∧((i+1:Nat):Int)<(l.length:Int):=by omega
   have j:i<v.length:=by omega
   have k:i+1<v.length:=by omega
   have w:v[i]?=some (v.getD i Rw.z):=by rw[Ym,Ya j];rfl
   have v2:v[i+1]?=some (v.getD (i+1) Rw.z):=by rw[Ym,Ya k];rfl
   have e:Gg l pf R (b.1:Int) (((i+1:Nat):Int),v)=some (.nx ((i:Int),(v.set (i+1) (v.getD i Rw.z)).set i (v.getD (i+1) Rw.z))):=by
    dsimp only[Gg,br,vz,vs,ln,Af,wi,AE,ca,st,B8,fl,br,AE,wk,shr]
    simp only[c,n,x,t,u,j,k,w,v2,Yt,Yy,DO,Fo,Yd,QP]
   rw[Ah,e]
   exact r
  ·refine⟨i+1,v,by rw[Fs,Yp c,cond_false],?_,d⟩
   have e:Gg l pf R (b.1:Int) (((i+1:Nat):Int),v)=some (.ex v):=by
    dsimp only[Gg,br,vz,vs,ln,Af,wi,AE,ca,st,B8,fl,br,AE,wk,shr]
    simp only[c,YK,Yn,YI]
   rw[Ah,e]
end
section
variable {α:Type} [Rw α] [Tid α]
theorem b9(l:List α)(R:List α→Int→Int→Int→(α→α→Option Int)→Option (List α))(a m b:Nat)(pf:α→α→Option Int)(cmp:α→α→Int)(q:AQ pf cmp l)(hl:l.length≤4194304)(t:a<m)(u:m<b)(v:b≤l.length):∀(d i j N c:Nat),j-i≤d→d<N→j-i<c→i≤j→j≤(a+b)/2+m∧j≤l.length→(a+b)/2+m≤l.length+i→
  ∃e h,Fr (Rw.z:α) l a m b cmp c i j=.inl (e,h)∧Ah (Do l (a:Int) (m:Int) (b:Int) pf R) N ((i:Int),(j:Int))=some (.inl (e:Int))∧i≤e∧e≤j
 |d,i,j,N,c,E,hN,F,p,G,hi=>by
  obtain⟨N,rfl⟩:∃m,N=m+1:=⟨N-1,by omega⟩
  obtain⟨c,rfl⟩:∃m,c=m+1:=⟨c-1,by omega⟩
  by_cases g:i<j
  ·obtain⟨d,rfl⟩:∃m,d=m+1:=⟨d-1,by omega⟩
   have o:(i:Int)<(j:Int):=by omega
   have A:i≤(i+j)/2:=by omega
   have B:(i+j)/2<j:=by omega
   have n:=Jp (x:=i) (y:=j) (by omega)
   have k:=Jp (x:=a) (y:=b) (by omega)
   have e0:(((a+b)/2:Nat):Int)+(m:Int)-1=(((a+b)/2+m-1:Nat):Int):=by omega
   have I: -9223372036854775808≤(i:Int)+(j:Int)∧(i:Int)+(j:Int)<9223372036854775808:=by omega
   have z:(0:Int)≤1:=by decide
   have H:=q.atI (i:=(a+b)/2+m-1-(i+j)/2) (j:=(i+j)/2) (by omega) (by omega)
   by_cases w:cmp (l.getD ((a+b)/2+m-1-(i+j)/2) Rw.z) (l.getD ((i+j)/2) Rw.z)<0
   ·obtain⟨e,h,r,s,C,D⟩:=b9 l R a m b pf cmp q hl t u v d i ((i+j)/2) N c (by omega) (by omega) (by omega) (by omega) (by omega) (by omega)
    refine⟨e,h,by rw[Fr,Yo o,cond_true,Yo w];exact r,?_,by omega,by omega⟩
    have f:Do l (a:Int) (m:Int) (b:Int) pf R ((i:Int),(j:Int))=some (.nx ((i:Int),(((i+j)/2:Nat):Int))):=by
     dsimp only[Do,br,vz,vs,ln,Af,cf,wi,AE,ca,fl,br,AE,wk,shr]
     rw[n,k,e0]
     grind
    rw[Ah,f]
    exact s
   ·obtain⟨e,h,r,s,C,D⟩:=b9 l R a m b pf cmp q hl t u v d ((i+j)/2+1) j N c (by omega) (by omega) (by omega) (by omega) (by omega) (by omega)
    refine⟨e,h,by rw[Fr,Yo o,cond_true,Yp w];exact r,?_,by omega,by omega⟩
    have f:Do l (a:Int) (m:Int) (b:Int) pf R ((i:Int),(j:Int))=some (.nx (((((i+j)/2:Nat):Int)+1),(j:Int))):=by
     dsimp only[Do,br,vz,vs,ln,Af,cf,wi,AE,ca,fl,br,AE,wk,shr]
     rw[n,k,e0]
     grind
    rw[Ah,f]
    exact s
  ·have o:¬(i:Int)<(j:Int):=by omega
   refine⟨i,j,by rw[Fr,Yp o,cond_false],?_,Yf _,p⟩
   have f:Do l (a:Int) (m:Int) (b:Int) pf R ((i:Int),(j:Int))=some (.ex (i:Int)):=by
    dsimp only[Do,br,vz,vs,ln,Af,cf,wi,AE,ca,fl,br,AE,wk,shr]
    grind
   rw[Ah,f]
theorem bM(l:List α)(R:List α→Int→Int→Int→(α→α→Option Int)→Option (List α))(a m b:Nat)(pf:α→α→Option Int)(cmp:α→α→Int)(q:AQ pf cmp l)(hl:l.length≤4194304)(t:a<m)(u:m<b)(v:b≤l.length):∀(d i j N c:Nat),j-i≤d→d<N→j-i<c→i≤j→j≤(a+b)/2+m∧j≤l.length→(a+b)/2+m≤l.length+i→
  ∃e h,Fq (Rw.z:α) l a m b cmp c i j=.inl (e,h)∧Ah (Do l (a:Int) (m:Int) (b:Int) pf R) N ((i:Int),(j:Int))=some (.inl (e:Int))∧i≤e∧e≤j
 |d,i,j,N,c,E,hN,F,p,G,hi=>by
  obtain⟨N,rfl⟩:∃m,N=m+1:=⟨N-1,by omega⟩
  obtain⟨c,rfl⟩:∃m,c=m+1:=⟨c-1,by omega⟩
  by_cases g:i<j
  ·obtain⟨d,rfl⟩:∃m,d=m+1:=⟨d-1,by omega⟩
   have o:(i:Int)<(j:Int):=by omega
   have A:i≤(i+j)/2:=by omega
   have B:(i+j)/2<j:=by omega
   have n:=Jp (x:=i) (y:=j) (by omega)
   have k:=Jp (x:=a) (y:=b) (by omega)
   have e0:(((a+b)/2:Nat):Int)+(m:Int)-1=(((a+b)/2+m-1:Nat):Int):=by omega
   have I: -9223372036854775808≤(i:Int)+(j:Int)∧(i:Int)+(j:Int)<9223372036854775808:=by omega
   have z:(0:Int)≤1:=by decide
   have H:=q.atI (i:=(a+b)/2+m-1-(i+j)/2) (j:=(i+j)/2) (by omega) (by omega)
   by_cases w:cmp (l.getD ((a+b)/2+m-1-(i+j)/2) Rw.z) (l.getD ((i+j)/2) Rw.z)<0
   ·obtain⟨e,h,r,s,C,D⟩:=bM l R a m b pf cmp q hl t u v d i ((i+j)/2) N c (by omega) (by omega) (by omega) (by omega) (by omega) (by omega)
    refine⟨e,h,by rw[Fq,Yo o,cond_true,Yo w];exact r,?_,by omega,by omega⟩
    have f:Do l (a:Int) (m:Int) (b:Int) pf R ((i:Int),(j:Int))=some (.nx ((i:Int),(((i+j)/2:Nat):Int))):=by
     dsimp only[Do,br,vz,vs,ln,Af,cf,wi,AE,ca,fl,br,AE,wk,shr]
     rw[n,k,e0]
     grind
    rw[Ah,f]
    exact s
   ·obtain⟨e,h,r,s,C,D⟩:=bM l R a m b pf cmp q hl t u v d ((i+j)/2+1) j N c (by omega) (by omega) (by omega) (by omega) (by omega) (by omega)
    refine⟨e,h,by rw[Fq,Yo o,cond_true,Yp w];exact r,?_,by omega,by omega⟩
    have f:Do l (a:Int) (m:Int) (b:Int) pf R ((i:Int),(j:Int))=some (.nx (((((i+j)/2:Nat):Int)+1),(j:Int))):=by
     dsimp only[Do,br,vz,vs,ln,Af,cf,wi,AE,ca,fl,br,AE,wk,shr]
     rw[n,k,e0]
     grind
    rw[Ah,f]
    exact s
  ·have o:¬(i:Int)<(j:Int):=by omega
   refine⟨i,j,by rw[Fq,Yp o,cond_false],?_,Yf _,p⟩
   have f:Do l (a:Int) (m:Int) (b:Int) pf R ((i:Int),(j:Int))=some (.ex (i:Int)):=by
    dsimp only[Do,br,vz,vs,ln,Af,cf,wi,AE,ca,fl,br,AE,wk,shr]
    grind
   rw[Ah,f]
end
theorem jh{α:Type}(z:α)(c:Nat)(l:List α)(a m b:Nat)(cf:α→α→Int)(s:Nat):
  (cond ((decide (((s:Nat):Int)<((m:Nat):Int))&&decide (((m:Nat):Int)<(((((a+b)/2)+m)-s:Nat):Int)))) (cond ((decide (((a:Nat):Int)<((s:Nat):Int))&&decide (((s:Nat):Int)<(((a+b)/2:Nat):Int)))) (cond ((decide ((((a+b)/2:Nat):Int)<(((((a+b)/2)+m)-s:Nat):Int))&&decide ((((((a+b)/2)+m)-s:Nat):Int)<((b:Nat):Int)))) ((A1 z c (A1 z c (Ce z l s m ((((a+b)/2)+m)-s) cf) a s ((a+b)/2) cf) ((a+b)/2) ((((a+b)/2)+m)-s) b cf)) ((A1 z c (Ce z l s m ((((a+b)/2)+m)-s) cf) a s ((a+b)/2) cf))) (cond ((decide ((((a+b)/2:Nat):Int)<(((((a+b)/2)+m)-s:Nat):Int))&&decide ((((((a+b)/2)+m)-s:Nat):Int)<((b:Nat):Int)))) ((A1 z c (Ce z l s m ((((a+b)/2)+m)-s) cf) ((a+b)/2) ((((a+b)/2)+m)-s) b cf)) ((Ce z l s m ((((a+b)/2)+m)-s) cf)))) (cond ((decide (((a:Nat):Int)<((s:Nat):Int))&&decide (((s:Nat):Int)<(((a+b)/2:Nat):Int)))) (cond ((decide ((((a+b)/2:Nat):Int)<(((((a+b)/2)+m)-s:Nat):Int))&&decide ((((((a+b)/2)+m)-s:Nat):Int)<((b:Nat):Int)))) ((A1 z c (A1 z c l a s ((a+b)/2) cf) ((a+b)/2) ((((a+b)/2)+m)-s) b cf)) ((A1 z c l a s ((a+b)/2) cf))) (cond ((decide ((((a+b)/2:Nat):Int)<(((((a+b)/2)+m)-s:Nat):Int))&&decide ((((((a+b)/2)+m)-s:Nat):Int)<((b:Nat):Int)))) ((A1 z c l ((a+b)/2) ((((a+b)/2)+m)-s) b cf)) (l))))=Fy z c l a m b cf s:=by
 unfold Fy
 grind
section
variable {α:Type} [Rw α] [Tid α]
theorem rQ(R:List α→Int→Int→Int→(α→α→Option Int)→Option (List α))(pf:α→α→Option Int)(cmp:α→α→Int)(n:Nat)
  (p:∀(l:List α) (a m b:Nat),AQ pf cmp l→l.length≤4194304→b-a<n→a<m→m<b→b≤l.length→R l (a:Int) (m:Int) (b:Int) pf=some (A1 Rw.z n l a m b cmp)∧(A1 (Rw.z:α) n l a m b cmp).Perm l)
  (l:List α) (o:AQ pf cmp l) (a m b s:Nat) (hl:l.length≤4194304) (J:b-a<n+1) (D:a<m) (E:m<b) (F:b≤l.length) (G:4≤b-a) (H:s≤(a+b)/2) (I:(a+b)/2+m≤b+s):
  (bI l (a:Int) (m:Int) (b:Int) pf R (s:Int)).m=some (Fy (Rw.z:α) n l a m b cmp s)∧(Fy (Rw.z:α) n l a m b cmp s).Perm l:=by
 have u:=Jp (x:=a) (y:=b) (by omega)
 have v:(((a+b)/2:Nat):Int)+(m:Int)-(s:Int)=(((a+b)/2+m-s:Nat):Int):=by omega
 have w: -9223372036854775808≤(((a+b)/2+m-s:Nat):Int)∧(((a+b)/2+m-s:Nat):Int)<9223372036854775808:=by omega
 have A:a<(a+b)/2:=by omega
 have B:(a+b)/2<b:=by omega
 unfold Fy
 dsimp only[Pp,Pn,Pj,Pe,bI,IU,Kz,KE,br,vz,vg,vs,v2,wi,wk,shr,AE,ca,Fb,cf,Hh,lc,ln,lf,Af,fl,st,B8,lr,wg]
 simp only[u,v]
 generalize (a+b)/2=h at*
 generalize h+m-s=e at*
 simp only[w,DO,Yy]
 have C:e≤b:=by omega
 by_cases c:s<m∧m<e<;>by_cases g:a<s∧s<h<;>by_cases i:h<e∧e<b
 ·
   have q:=RE l s m e cmp hl c.1 c.2 (by omega)
   have f:=(Ph (z:=(Rw.z:α)) l s m e cmp c.1 c.2 (by omega)).2.1
   have k:=f.length_eq
   obtain⟨r,d⟩:=p (Ce (Rw.z:α) l s m e cmp) a s h (o.perm f) (by omega) (by omega) g.1 g.2 (by omega)
   obtain⟨t,j⟩:=p (A1 (Rw.z:α) n (Ce (Rw.z:α) l s m e cmp) a s h cmp) h e b (o.perm (d.trans f)) (by have:=d.length_eq;omega) (by omega) i.1 i.2 (by have:=d.length_eq;omega)
   simp only[D3 c,D3 g,D3 i,q,k,r,d.length_eq,t,j.length_eq,Yy,Yd,cond_true]
   first|exact⟨trivial,j.trans (d.trans f)⟩|exact⟨rfl,j.trans (d.trans f)⟩
 ·
   have q:=RE l s m e cmp hl c.1 c.2 (by omega)
   have f:=(Ph (z:=(Rw.z:α)) l s m e cmp c.1 c.2 (by omega)).2.1
   have k:=f.length_eq
   obtain⟨r,d⟩:=p (Ce (Rw.z:α) l s m e cmp) a s h (o.perm f) (by omega) (by omega) g.1 g.2 (by omega)
   simp only[D3 c,D3 g,D1 i,q,k,r,d.length_eq,Yn,Yy,YI,Yd,cond_true,cond_false]
   first|exact⟨trivial,d.trans f⟩|exact⟨rfl,d.trans f⟩
 ·
   have q:=RE l s m e cmp hl c.1 c.2 (by omega)
   have f:=(Ph (z:=(Rw.z:α)) l s m e cmp c.1 c.2 (by omega)).2.1
   have k:=f.length_eq
   obtain⟨t,j⟩:=p (Ce (Rw.z:α) l s m e cmp) h e b (o.perm f) (by omega) (by omega) i.1 i.2 (by omega)
   simp only[D3 c,D1 g,D3 i,q,k,t,j.length_eq,Yn,Yy,YI,Yd,cond_true,cond_false]
   first|exact⟨trivial,j.trans f⟩|exact⟨rfl,j.trans f⟩
 ·
   have q:=RE l s m e cmp hl c.1 c.2 (by omega)
   have f:=(Ph (z:=(Rw.z:α)) l s m e cmp c.1 c.2 (by omega)).2.1
   have k:=f.length_eq
   simp only[D3 c,D1 g,D1 i,q,k,Yn,Yy,YI,Yd,cond_true,cond_false]
   first|exact⟨trivial,f⟩|exact⟨rfl,f⟩
 ·
   obtain⟨r,d⟩:=p l a s h o (by omega) (by omega) g.1 g.2 (by omega)
   obtain⟨t,j⟩:=p (A1 (Rw.z:α) n l a s h cmp) h e b (o.perm d) (by have:=d.length_eq;omega) (by omega) i.1 i.2 (by have:=d.length_eq;omega)
   simp only[D1 c,D3 g,D3 i,r,d.length_eq,t,j.length_eq,Yn,Yy,YI,Yd,cond_true,cond_false]
   first|exact⟨trivial,j.trans d⟩|exact⟨rfl,j.trans d⟩
 ·
   obtain⟨r,d⟩:=p l a s h o (by omega) (by omega) g.1 g.2 (by omega)
   simp only[D1 c,D3 g,D1 i,r,d.length_eq,Yn,Yy,YI,Yd,cond_true,cond_false]
   first|exact⟨trivial,d⟩|exact⟨rfl,d⟩
 ·
   obtain⟨t,j⟩:=p l h e b o (by omega) (by omega) i.1 i.2 (by omega)
   simp only[D1 c,D1 g,D3 i,t,j.length_eq,Yn,Yy,YI,Yd,cond_true,cond_false]
   first|exact⟨trivial,j⟩|exact⟨rfl,j⟩
 simp only[D1 c,D1 g,D1 i,Yn,YI,cond_false]
 first|exact⟨trivial,.refl _⟩|exact⟨rfl,.refl _⟩
theorem cZ{pf:α→α→Option Int}{cmp:α→α→Int}:Rm pf cmp:=by
 intro c
 induction c with
 |zero=>intro l a m b _ _ h;omega
 |succ c w=>
  intro l a m b d hl t f g e
  rw[A1]
  show(KE l (a:Int) (m:Int) (b:Int) pf (Da c)).m=_∧_
  have wa: -9223372036854775808≤((m-a:Nat):Int)∧((m-a:Nat):Int)<9223372036854775808:=by omega
  have P: -9223372036854775808≤((b-m:Nat):Int)∧((b-m:Nat):Int)<9223372036854775808:=by omega
  have H:(m:Int)-(a:Int)=((m-a:Nat):Int):=by omega
  have I:(b:Int)-(m:Int)=((b-m:Nat):Int):=by omega
  by_cases J:m-a=1
  ·have k:((m-a:Nat):Int)=1:=by omega
   obtain⟨i,j,p,q,r,s⟩:=dl l (Da c) a pf cmp d hl (by omega) (b-m) m b Ag (b-m+1) (Yf _) (AZ (by omega)) (YN _) (by omega) e
   obtain⟨z,v,B,C,D⟩:=qT l (Da c) pf (i,j) hl (show 1≤i by omega) (show i≤l.length by omega) (i-1-a) a l Ag (i-a+1) (Yf _) (AZ (by omega)) (by dsimp only;omega) (.refl _) (by omega)
   dsimp only[KE,br,vz,vg,vs,v2,wi,wk,shr,AE,ca,Fb,cf,Hh,lc,ln,lf,Af,fl,st,B8,lr,wg]
   grind
  ·have k:¬((m-a:Nat):Int)=1:=by omega
   by_cases K:b-m=1
   ·have n:((b-m:Nat):Int)=1:=by omega
    obtain⟨i,j,p,q,r,s⟩:=dh l (Da c) m pf cmp d hl (by omega) (m-a) a m Ag (m-a+1) (Yf _) (AZ (by omega)) (YN _) (by omega) (by omega)
    obtain⟨z,v,B,C,D⟩:=wy l (Da c) pf (i,j) hl m l Ag (m+1) (AZ (by omega)) (YN _) (.refl _) (by omega)
    dsimp only[KE,br,vz,vg,vs,v2,wi,wk,shr,AE,ca,Fb,cf,Hh,lc,ln,lf,Af,fl,st,B8,lr,wg]
    grind
   ·have n:¬((b-m:Nat):Int)=1:=by omega
    have A:=Jp (x:=a) (y:=b) (by omega)
    have M: -9223372036854775808≤(a:Int)+(b:Int)∧(a:Int)+(b:Int)<9223372036854775808:=by omega
    have F:(((a+b)/2:Nat):Int)+(m:Int)=(((a+b)/2+m:Nat):Int):=by omega
    have w2: -9223372036854775808≤(((a+b)/2+m:Nat):Int)∧(((a+b)/2+m:Nat):Int)<9223372036854775808:=by omega
    have N: -9223372036854775808≤(((a+b)/2+m:Nat):Int)-1∧(((a+b)/2+m:Nat):Int)-1<9223372036854775808:=by omega
    have u:(0:Int)≤1:=by decide
    by_cases L:(a+b)/2<m
    ·have o:(((a+b)/2:Nat):Int)<(m:Int):=by omega
     have G:(((a+b)/2+m:Nat):Int)-(b:Int)=(((a+b)/2+m-b:Nat):Int):=by omega
     have O: -9223372036854775808≤(((a+b)/2+m-b:Nat):Int)∧(((a+b)/2+m-b:Nat):Int)<9223372036854775808:=by omega
     obtain⟨i,j,p,q,r,s⟩:=b9 l (Da c) a m b pf cmp d hl f g e ((a+b)/2-((a+b)/2+m-b)) ((a+b)/2+m-b) ((a+b)/2) Ag ((a+b)/2-((a+b)/2+m-b)+1) (Yf _) (AZ (by omega)) (YN _) (by omega) (by omega) (by omega)
     obtain⟨t1,t2⟩:=rQ (Da c) pf cmp c w l d a m b i hl t f g e (by omega) (by omega) (by omega)
     have E:=jh (Rw.z:α) c l a m b cmp i
     dsimp only[KE,Kz,IU,br,vz,vg,vs,v2,wi,wk,shr,AE,ca,Fb,cf,Hh,lc,ln,lf,Af,fl,st,B8,lr,wg]
     grind
    ·have o:¬(((a+b)/2:Nat):Int)<(m:Int):=by omega
     obtain⟨i,j,p,q,r,s⟩:=bM l (Da c) a m b pf cmp d hl f g e (m-a) a m Ag (m-a+1) (Yf _) (AZ (by omega)) (YN _) (by omega) (by omega) (by omega)
     obtain⟨t1,t2⟩:=rQ (Da c) pf cmp c w l d a m b i hl t f g e (by omega) (by omega) (by omega)
     have E:=jh (Rw.z:α) c l a m b cmp i
     dsimp only[KE,Kz,IU,br,vz,vg,vs,v2,wi,wk,shr,AE,ca,Fb,cf,Hh,lc,ln,lf,Af,fl,st,B8,lr,wg]
     grind
end
def EC(x y:Slt):Int:=BQ x.num y.num
theorem KD{α:Type}(k:α→Int):CmpLaw fun x y:α=>BQ (k x) (k y):=by
 constructor<;>(intros;unfold BQ at*;grind)
def Ds(x y:Raw):Int:=BQ x.num y.num
theorem ZzV{a b:ByteArray}(h:a.toList=b.toList):a=b:=by
 rw[ByteArray.toList_eq,ByteArray.toList_eq]at h
 exact ByteArray.ext (CY h)
theorem HU{a b:ByteArray}:ED a b<0↔a.toList<b.toList:=by
 have e:BC a b=true↔a.toList<b.toList:=by unfold BC;rw[Go.Proofs.bytesLess_eq,YB]
 rw[←e]
 unfold ED
 cases h:BC a b with
 |true=>simp
 |false=>by_cases c:a=b<;>simp[c]
theorem tb{α:Type}(k:α→ByteArray):CmpLaw fun x y:α=>ED (k x) (k y):=by
 constructor
 ·intro x y w a b
  exact HU.2 (List.lt_trans (HU.1 a) (HU.1 b))
 ·intro x y w a b e
  have c:=fun h=>a (HU.2 h)
  have d:=fun h=>b (HU.2 h)
  exact List.le_trans (Q9.1 d) (Q9.1 c) (HU.1 e)
 ·intro x h
  exact List.lt_irrefl _ (HU.1 h)
theorem xp{a b:ByteArray}:ED a b=0↔¬ED a b<0∧¬ED b a<0:=by
 constructor
 ·intro h
  have e:a=b:=YX (by rw[←U7,h];rfl)
  subst e
  exact⟨by omega,by omega⟩
 ·rintro⟨c,d⟩
  have e:a=b:=ZzV (List.le_antisymm (Q9.1 fun h=>d (HU.2 h)) (Q9.1 fun h=>c (HU.2 h)))
  exact YX (by rw[U7];exact Yo e)
theorem Wu{a b:Int}:BQ a b=0↔¬BQ a b<0∧¬BQ b a<0:=by
 unfold BQ
 grind
def Iu(k:Int)(a b:Val):Int:=if k=7∨k=8 then ED a.text b.text else if k=2∨k=3 then BQ (IntKind.u64.wrap (a.bits+9223372036854775808)) (IntKind.u64.wrap (b.bits+9223372036854775808))else if k=6 then BQ (CW a.bits.toNat) (CW b.bits.toNat)else BQ a.bits b.bits
theorem bQ(k:Int):CmpLaw (Iu k):=by
 unfold Iu
 split
 ·exact tb Val.text
 ·split
  ·exact KD fun v:Val=>IntKind.u64.wrap (v.bits+9223372036854775808)
  ·split
   ·exact KD fun v:Val=>((CW v.bits.toNat:Nat):Int)
   ·exact KD Val.bits
theorem wN(k:Int)(a b:Val):Iu k a b=0↔¬Iu k a b<0∧¬Iu k b a<0:=by
 unfold Iu
 split
 ·exact xp
 ·split
  ·exact Wu
  ·split
   ·exact Wu
   ·exact Wu
theorem dL(a b:Val):CL a b=if a.kind≠b.kind then BQ a.kind b.kind else Iu a.kind a b:=rfl
theorem H1(a b:Val):CL a b<0↔a.kind<b.kind∨(a.kind=b.kind∧Iu a.kind a b<0):=by
 rw[dL]
 by_cases e:a.kind=b.kind
 ·simp[e]
 ·have h:BQ a.kind b.kind<0↔a.kind<b.kind:=by unfold BQ;grind
  simp[e,h]
theorem TA:CmpLaw CL:=by
 constructor
 ·intro x y w
  rw[H1,H1,H1]
  rintro(b|⟨a,b⟩) (c|⟨f,c⟩)
  ·exact .inl (by omega)
  ·exact .inl (by omega)
  ·exact .inl (by omega)
  ·exact .inr ⟨a.trans f,(bQ _).tr x y w b (by rw[a];exact c)⟩
 ·intro x y w
  rw[H1,H1,H1]
  intro b c d
  have a1:¬x.kind<y.kind:=fun h=>b (.inl h)
  have g:¬y.kind<w.kind:=fun h=>c (.inl h)
  rcases d with d|⟨e,d⟩
  ·omega
  ·have a:x.kind=y.kind:=by omega
   exact(bQ _).ng x y w (fun h=>b (.inr ⟨a,h⟩)) (fun h=>c (.inr ⟨by omega,by rw[←a];exact h⟩)) d
 ·intro x
  rw[H1]
  rintro(h|⟨_,h⟩)
  ·omega
  ·exact(bQ _).ir x h
theorem xK(a b:Val):CL a b=0↔¬CL a b<0∧¬CL b a<0:=by
 rw[H1,H1]
 by_cases e:a.kind=b.kind
 ·have f:CL a b=Iu a.kind a b:=by rw[dL];simp[e]
  rw[f,wN]
  rw[←e]
  constructor
  ·rintro⟨c,d⟩
   exact⟨fun h=>h.elim (by omega) fun h=>c h.2,fun h=>h.elim (by omega) fun h=>d h.2⟩
  ·rintro⟨c,d⟩
   exact⟨fun h=>c (.inr ⟨rfl,h⟩),fun h=>d (.inr ⟨rfl,h⟩)⟩
 ·have f:CL a b=BQ a.kind b.kind:=by rw[dL];simp[e]
  rw[f]
  constructor
  ·intro h
   exfalso
   unfold BQ at h
   grind
  ·rintro⟨c,d⟩
   exfalso
   have a1:¬a.kind<b.kind:=fun h=>c (.inl h)
   have g:¬b.kind<a.kind:=fun h=>d (.inl h)
   omega
def A0(x y:Pr):Int:=CL x.key y.key
theorem Gf:CmpLaw A0:=⟨fun x y w=>TA.tr x.key y.key w.key,fun x y w=>TA.ng x.key y.key w.key,fun x=>TA.ir x.key⟩
theorem Gv(x y:Pr):A0 x y=0↔¬A0 x y<0∧¬A0 y x<0:=xK x.key y.key
theorem Zw8{x y w:Pr}(a:A0 x y<0)(b:¬A0 w y<0):A0 x w<0:=Decidable.byContradiction fun h=>Gf.ng x w y h b a
theorem vR(x y:Pr)(a:A0 x y<0)(b:A0 y x<0):False:=Gf.ir x (Gf.tr x y x a b)
theorem vx{x y:Pr}(h:A0 x y=0):A0 y x=0:=(Gv y x).2 ⟨((Gv x y).1 h).2,((Gv x y).1 h).1⟩
theorem ul{x y w:Pr}(a:A0 x y=0)(b:A0 y w=0):A0 x w=0:=by
 rw[Gv]at*
 exact⟨Gf.ng _ _ _ a.1 b.1,Gf.ng _ _ _ b.2 a.2⟩
def Fa(l:List Pr):Prop:=l.Pairwise fun x y=>A0 x y<0
theorem Tb{a b:List Pr}(c:Fa a)(d:Fa b)(h:∀x,x∈a↔x∈b):a=b:=by
 have f:∀{l:List Pr},Fa l→l.Nodup:=fun hl=>hl.imp fun {x y} h e=>by subst e;exact Gf.ir _ h
 exact bj vR c d ((List.perm_ext_iff_of_nodup (f c) (f d)).2 h)
def ly(l:List Pr)(x:Pr):Prop:=∃j:Nat,l[j]?=some x∧∀(k:Nat) (y:Pr),l[k]?=some y→A0 x y=0→k≤j
theorem nQ(q:Pr)(out:List Pr)(p:Pr):H8 (q::out) p=if A0 q p<0 then q::H8 out p else p::q::out:=by
 unfold H8 Va
 rw[List.findIdx_cons]
 by_cases h:A0 q p<0
 ·have a:CL q.key p.key<0:=h
  rw[Yj h,Yo a]
  rfl
 ·have a:¬CL q.key p.key<0:=h
  rw[Yh h,Yp a]
  rfl
theorem oI{out:List Pr}{p x:Pr}:x∈H8 out p↔x=p∨x∈out:=by
 induction out with
 |nil=>exact Yu
 |cons q out a=>
  rw[nQ]
  split
  ·rw[Yu,a,Yu]
   grind
  ·exact Yu
theorem Zt2{out:List Pr}{p:Pr}(h:Fa out)(b:∀x∈out,¬A0 x p=0):Fa (H8 out p):=by
 induction out with
 |nil=>exact V7 _ _
 |cons q out g=>
  obtain⟨a,f⟩:=Y0.1 h
  rw[nQ]
  split
  ·rename_i c
   refine Y0.2 ⟨fun x hx=>?_,g f fun x hx=>b x (Yw _ hx)⟩
   rcases oI.1 hx with rfl|hx
   ·exact c
   ·exact a x hx
  ·rename_i c
   have d:A0 p q<0:=Decidable.byContradiction fun e=>b q Yv ((Gv q p).2 ⟨c,e⟩)
   refine Y0.2 ⟨fun x hx=>?_,h⟩
   rcases Yu.1 hx with rfl|hx
   ·exact d
   ·exact Gf.tr p q x d (a x hx)
theorem aE(l:List Pr):∀i:Nat,Fa (Ex l i)∧∀x,x∈Ex l i↔∃j:Nat,j<i∧l[j]?=some x∧∀(k:Nat) (y:Pr),l[k]?=some y→A0 x y=0→k≤j
 |0=>⟨.nil,fun x=>Iff.intro (fun h=>by cases h) fun⟨j,h,_⟩=>absurd h (Y3 j)⟩
 |i+1=>by
  obtain⟨o,g⟩:=aE l i
  unfold Ex
  cases e:l[i]? with
  |none=>
   refine⟨o,fun x=>(g x).trans ?_⟩
   constructor
   ·rintro⟨j,a,b⟩
    exact⟨j,by omega,b⟩
   ·rintro⟨j,a,b⟩
    have:j≠i:=fun n=>by rw[n,e]at b;cases b.1
    exact⟨j,by omega,b⟩
  |some q=>
   have r:((l.drop (i+1)).any fun x=>decide (CL q.key x.key=0))=true↔∃(k:Nat) (y:Pr),i<k∧l[k]?=some y∧A0 q y=0:=by
    rw[YL]
    constructor
    ·rintro⟨y,hy,a⟩
     obtain⟨k,m⟩:=YH.1 hy
     rw[YW]at m
     exact⟨i+1+k,y,by omega,m,YX a⟩
    ·rintro⟨k,y,a,b,c⟩
     refine⟨y,YH.2 ⟨k-(i+1),?_⟩,Yo c⟩
     rw[YW,show i+1+(k-(i+1))=k by omega]
     exact b
   dsimp only
   split
   ·rename_i c
    obtain⟨z,A,a0,s,t⟩:=r.1 c
    refine⟨o,fun x=>(g x).trans ?_⟩
    constructor
    ·rintro⟨j,a,b⟩
     exact⟨j,by omega,b⟩
    ·rintro⟨j,a,d,f⟩
     have:j≠i:=fun n=>by
      subst n
      rw[e]at d
      cases d
      have:=f z A s t
      omega
     exact⟨j,by omega,d,f⟩
   ·rename_i c
    have v:∀x∈Ex l i,¬A0 x q=0:=fun x hx w=>by
     obtain⟨j,a,_,b⟩:=(g x).1 hx
     have:=b i q e w
     omega
    refine⟨Zt2 o v,fun x=>?_⟩
    rw[oI,g]
    constructor
    ·rintro(rfl|⟨j,a,b⟩)
     ·refine⟨i,YN _,e,fun k y m hy=>?_⟩
      exact We fun p=>c (r.2 ⟨k,y,p,m,hy⟩)
     ·exact⟨j,by omega,b⟩
    ·rintro⟨j,a,d,f⟩
     by_cases u:j=i
     ·subst u
      rw[e]at d
      cases d
      exact .inl rfl
     ·exact .inr ⟨j,by omega,d,f⟩
theorem MF(l:List Pr):Fa (Ca l):=(aE l l.length).1
theorem IX{l:List Pr}{x:Pr}:x∈Ca l↔ly l x:=by
 refine((aE l l.length).2 x).trans ?_
 constructor
 ·rintro⟨j,_,b⟩
  exact⟨j,b⟩
 ·rintro⟨j,b⟩
  exact⟨j,(Ye.1 b.1).1,b⟩
def Eu:List Pr→List Pr
 |[]=>[]
 |[p]=>[p]
 |p::q::l=>if A0 p q=0 then Eu (q::l)else p::Eu (q::l)
theorem nr:∀r:List (Pr×Nat),r.Pairwise (FW A0)→Fa (Eu (r.map (·.1)))∧∀x,x∈Eu (r.map (·.1))↔∃j,(x,j)∈r∧∀y k,(y,k)∈r→A0 x y=0→k≤j
 |[],_=>⟨.nil,fun x=>Iff.intro (fun h=>by cases h) fun⟨j,h,_⟩=>by cases h⟩
 |[(p,i)],_=>by
  refine⟨V7 _ _,fun x=>?_⟩
  show x∈[p]↔_
  rw[Hz]
  constructor
  ·rintro rfl
   refine⟨i,Hz.2 rfl,fun y k h _=>?_⟩
   cases Hz.1 h
   exact Yf _
  ·rintro⟨j,h,_⟩
   cases Hz.1 h
   rfl
 |(p,i)::(q,j)::r,h=>by
  obtain⟨t,o⟩:=Y0.1 h
  obtain⟨n,g⟩:=nr ((q,j)::r) o
  have m:=t (q,j) Yv
  show Fa (if A0 p q=0 then Eu (((q,j)::r).map (·.1))else p::Eu (((q,j)::r).map (·.1)))∧∀x,x∈(if A0 p q=0 then Eu (((q,j)::r).map (·.1))else p::Eu (((q,j)::r).map (·.1)))↔_
  by_cases c:A0 p q=0
  ·rw[Yj c]
   have u:i<j:=by
    rcases m with a|⟨_,a⟩
    ·exact absurd a ((Gv p q).1 c).1
    ·exact a
   refine⟨n,fun x=>(g x).trans ?_⟩
   constructor
   ·rintro⟨k,a,b⟩
    refine⟨k,Yw _ a,fun y l hy e=>?_⟩
    rcases Yu.1 hy with hy|hy
    ·cases hy
     have:=b q j Yv (ul e c)
     omega
    ·exact b y l hy e
   ·rintro⟨k,a,b⟩
    rcases Yu.1 a with a|a
    ·cases a
     have:=b q j (Yw _ Yv) c
     omega
    ·exact⟨k,a,fun y l hy e=>b y l (Yw _ hy) e⟩
  ·rw[Yh c]
   have f:A0 p q<0:=by
    rcases m with a|⟨a,_⟩
    ·exact a
    ·exact Decidable.byContradiction fun s=>c ((Gv p q).2 ⟨s,a⟩)
   have d:∀y k,(y,k)∈(q,j)::r→A0 p y<0:=fun y k hy=>by
    rcases Yu.1 hy with hy|hy
    ·cases hy
     exact f
    ·rcases(Y0.1 o).1 (y,k) hy with a|⟨a,_⟩
     ·exact Gf.tr _ _ _ f a
     ·exact Zw8 f a
   refine⟨Y0.2 ⟨fun x hx=>?_,n⟩,fun x=>?_⟩
   ·obtain⟨k,a,_⟩:=(g x).1 hx
    exact d x k a
   ·rw[Yu,g]
    constructor
    ·rintro(rfl|⟨k,a,b⟩)
     ·refine⟨i,Yv,fun y k hy e=>?_⟩
      rcases Yu.1 hy with hy|hy
      ·cases hy
       exact Yf _
      ·exact absurd (d y k hy) ((Gv _ _).1 e).1
     ·refine⟨k,Yw _ a,fun y l hy e=>?_⟩
      rcases Yu.1 hy with hy|hy
      ·cases hy
       exact absurd (d x k a) ((Gv _ _).1 e).2
      ·exact b y l hy e
    ·rintro⟨k,a,b⟩
     rcases Yu.1 a with a|a
     ·cases a
      exact .inl rfl
     ·exact .inr ⟨k,a,fun y l hy e=>b y l (Yw _ hy) e⟩
theorem ZpQ(l:List Pr):Eu (B1 A0 l)=Ca l:=by
 obtain⟨r,c,d,e⟩:=S1 Gf l 0 [] .nil (fun a f=>by cases f)
 obtain⟨s1,s2⟩:=nr r d
 have c:B1 A0 l=r.map (·.1):=c
 rw[c]
 refine Tb s1 (MF l) fun x=>(s2 x).trans (Iff.trans ?_ IX.symm)
 have hm:∀y k,(y,k)∈r↔l[k]?=some y:=fun y k=>by
  rw[e.mem_iff,F3]
  exact List.mem_zipIdx_iff_getElem?
 constructor
 ·rintro⟨j,a,b⟩
  exact⟨j,(hm x j).1 a,fun k y g=>b y k ((hm y k).2 g)⟩
 ·rintro⟨j,a,b⟩
  exact⟨j,(hm x j).2 a,fun y k hy=>b k y ((hm y k).1 hy)⟩
theorem yx{l:List Slt}{k:Int}{x:Slt}(h:Iv l k=some x):x∈l∧x.num=k:=⟨LC h,YX (p:=x.num=k) (List.find?_some (p:=fun x:Slt=>decide (x.num=k)) h)⟩
theorem ro{l:List Slt}{k:Int}:Iv l k=none↔∀x∈l,x.num≠k:=by
 unfold Iv
 rw[VQ]
 simp
theorem dn{α:Type}{R:α→α→Prop}(sy:∀{a b},R a b→R b a){l:List α}(h:l.Pairwise R){x y:α}(hx:x∈l)(hy:y∈l)(n:x≠y):R x y:=by
 obtain⟨i,hi,rfl⟩:=List.mem_iff_getElem.1 hx
 obtain⟨j,d,rfl⟩:=List.mem_iff_getElem.1 hy
 rcases NW i j with c|c|c
 ·exact Y6.1 h i j hi d c
 ·subst c
  exact absurd rfl n
 ·exact sy (Y6.1 h j i d hi c)
theorem Zt6{l:List Slt}(h:l.Pairwise fun a b=>a.num≠b.num){x:Slt}(hx:x∈l):Iv l x.num=some x:=by
 cases e:Iv l x.num with
 |none=>exact absurd rfl (ro.1 e x hx)
 |some y=>
  obtain⟨d,f⟩:=yx e
  by_cases c:y=x
  ·rw[c]
  ·exact absurd f (dn (R:=fun a b:Slt=>a.num≠b.num) (fun h e=>h e.symm) h d hx c)
theorem nu{l:List Slt}(h:l.Pairwise fun a b=>a.num≠b.num):Gw (B1 EC l):=by
 have d:=ag (cf:=EC) (KD Slt.num) l
 have f:(B1 EC l).Pairwise fun a b=>a.num≠b.num:=(fK (fun {a b} h e=>h e.symm) (Dv l)).2 h
 refine(fE.2 ⟨d,f⟩).imp fun {a b} c=>?_
 have:=c.1
 unfold EC BQ at this
 have g:=c.2
 grind
theorem p6(l:List Raw)(y x:Raw):∀k:Nat,k≤l.length→GE (l++[y]) x k=GE l x k
 |0,_=>rfl
 |k+1,h=>by
  rw[GE,GE,p6 l y x k (by omega),Ym,Ym,Ys (by omega)]
theorem oT(x:Raw):∀(n:Nat) (out:List Raw),out.length=n→insR out x=Go.Eng.insR Ds out x
 |0,out,h=>by
  rw[List.length_eq_zero_iff.1 h]
  rfl
 |n+1,out,h=>by
  have d:out≠[]:=fun e=>by rw[e]at h;cases h
  obtain⟨l,y,rfl⟩:∃l y,out=l++[y]:=⟨_,_,(fy d).symm⟩
  have hl:l.length=n:=by rw[Yx]at h;simpa using h
  have j:=oT x n l hl
  unfold insR Go.Eng.insR at*
  have e0:(l++[y]).length=l.length+1:=by simp
  have g:(l++[y]).getD l.length Rw.z=y:=by simp
  rw[e0,GE,g,p6 l y x l.length (Yf _),QW]
  show _=(List.dropWhile _ (y::l.reverse)).reverse++x::(List.takeWhile _ (y::l.reverse)).reverse
  have f:Ds x y<0↔x.num<y.num:=by unfold Ds BQ;grind
  rw[List.dropWhile_cons,List.takeWhile_cons]
  by_cases c:x.num<y.num
  ·have a:=r4 l x l.length
   have b:decide (Ds x y<0)=true:=Yo (f.2 c)
   rw[Yj c,b,Yj rfl,Yj rfl,QJ a,V3 a,List.reverse_cons,←Y8,j]
   simp
  ·have b:¬decide (Ds x y<0)=true:=by rw[YB,f];exact c
   have i:(l++[y]).take (l.length+1)=l++[y]:=LF (by simp)
   rw[Yh c,Yh b,Yh b,i]
   simp
theorem Kt(l:List Raw):Dy l=B1 Ds l:=by
 have:insR=Go.Eng.insR Ds:=funext fun out=>funext fun x=>oT x _ out rfl
 unfold Dy B1
 rw[this]
theorem Zu3(l:List Pr)(h:l.length<549755813888):SO l=some l:=by
 cases l with
 |nil=>rfl
 |cons x r=>
  dsimp only[SO,al,br,vw,lr,a0,mv,br]
  simp only[Eg]at h
  simp
  omega
theorem qO{a b:Val}(s:1≤a.kind∧a.kind≤9)(j:AR a)(l:AR b):MC a b=some (CL a b):=by
 obtain⟨n,q,f,u⟩:=bX j
 obtain⟨k,p,e,t⟩:=bX l
 have r:(decide (1≤a.kind)&&decide (a.kind≤9))=true:=by simp[s]
 unfold CL
 by_cases he:a.kind=b.kind
 ·have i:(decide (1≤b.kind)&&decide (b.kind≤9))=true:=by rw[←he];exact r
  dsimp only[MC,br,wg,lr,cl,br,ZR,wg,lr,cl,bT,My,lr,SN,br,vz,wg,lr,cl,br,OS,lr]
  simp only[he,Yt,Y7,Yn,YI,i,Yy,Yd,ne_eq,Ly]
  rw[←he]
  by_cases h:a.kind=7∨a.kind=8
  ·have d:(decide (a.kind=7)||decide (a.kind=8))=true:=by simpa using h
   rw[Yj h]
   simp only[d,Yy,mb,Yd]
  ·have d:(decide (a.kind=7)||decide (a.kind=8))=false:=by simpa using h
   rw[Yh h]
   simp only[d,Yn,YI]
   by_cases hs:a.kind=2∨a.kind=3
   ·have c:(decide (a.kind=2)||decide (a.kind=3))=true:=by simpa using hs
    have g:∀m:Nat,m<18446744073709551616→IntKind.i64.wrap (m:Int)=IntKind.u64.wrap ((m:Int)+9223372036854775808)-9223372036854775808:=fun m hm=>by
     rw[IntKind.wrap_i64]
     unfold IntKind.wrap
     simp only[show IntKind.u64.bits=64 from rfl,show IntKind.u64.signed=false from rfl,DP,Yn,YI]
     omega
    simp only[c,hs,Yy,L8,Yd]
    rw[q,p,g n f,g k e]
    unfold BQ
    simp only[Int.sub_lt_sub_right_iff]
   ·have c:(decide (a.kind=2)||decide (a.kind=3))=false:=by simpa using hs
    by_cases o:a.kind=6
    ·simp only[c,hs,Yn,YI]
     simp only[o,Yy,Yt,q,p,Rb f,Rb e,RS,Yd,Fo]
    ·simp only[c,hs,o,Yn,YI,YK,RS,Yd]
 ·dsimp only[MC,br,wg,lr,cl,br]
  simp only[he,YK,Y4,Yy,L8,Yd,ne_eq,Lz]
theorem iA{a b:Val}(e:1≤a.kind∧a.kind≤9)(c:AR a)(d:AR b):Mr a b=some (decide (CL a b=0)):=by
 dsimp only[Mr,wg,lr,cl]
 rw[qO e c d]
 rfl
def GH(l:List Pr):Nat→List Pr
 |0=>[]
 |i+1=>if i+1<l.length∧A0 (l.getD i Rw.z) (l.getD (i+1) Rw.z)=0 then GH l i else GH l i++[l.getD i Rw.z]
theorem pz(l:List Pr):∀i:Nat,(GH l i).length≤i
 |0=>Yf _
 |i+1=>by
  have:=pz l i
  rw[GH]
  split
  ·omega
  ·rw[Yx,fA]
   omega
theorem nR(l:List Pr):∀i:Nat,i≤l.length→Eu l=GH l i++Eu (l.drop i)
 |0,_=>rfl
 |i+1,h=>by
  have hi:i<l.length:=h
  have e0:l.getD i Rw.z=l[i]:=by rw[Ym,Ya hi];rfl
  rw[nR l i (by omega),Hw hi,GH,e0]
  by_cases c:i+1<l.length
  ·have b:l.getD (i+1) Rw.z=l[i+1]:=by rw[Ym,Ya c];rfl
   rw[Hw c,Eu,b]
   by_cases a:A0 l[i] l[i+1]=0
   ·rw[Yj a,Yj ⟨c,a⟩]
   ·rw[Yh a,Yh fun h=>a h.2,Y8]
    rfl
  ·rw[Yh fun h=>c h.1,List.drop_eq_nil_of_le (by omega)]
   simp[Eu]
theorem ZuM(l:List Pr)(hl:l.length≤4194304)(j:∀p∈l,(1≤p.key.kind∧p.key.kind≤9)∧AR p.key):Z4 l=some (Ca l):=by
 have C:=Zu3 l (by omega)
 have t:Ft l (fun z0 s=>Mn z0 s)=some (B1 A0 l):=by
  have h:=eo (pf:=fun z0 s=>Mn z0 s) (cmp:=A0) cZ l (fun x hx y hy=>by
   dsimp only[Mn,wg,lr,cl]
   rw[qO (j x hx).1 (j x hx).2 (j y hy).2]
   rfl) hl
  rw[Z5 Gf l]at h
  exact h
 have u:=ZlU (cf:=A0) l
 have a:∀p∈B1 A0 l,(1≤p.key.kind∧p.key.kind≤9)∧AR p.key:=fun p d=>j p ((Dv l).mem_iff.1 d)
 have v:=nR (B1 A0 l) (B1 A0 l).length (Yf _)
 rw[QO,ZpQ,show Eu []=[]from rfl,N0]at v
 rw[v]
 generalize B1 A0 l=m at t u a
 have r:=GU (B:=Nn m) (N:=Ag) (ρ:=List Pr) m (fun p=>GH m p.length) (fun i b=>(b,i)) id (fun i p d=>by
  have w:=BG d
  have hi:=(Ye.1 d).1
  have g:i+1<9223372036854775808:=by omega
  have A:(m.take i).length=i:=by rw[YP];omega
  have o:(m.take i++[p]).length=i+1:=by rw[Yx,A];rfl
  have F:m.getD i Rw.z=p:=by rw[Ym,d];rfl
  have a1:=pz m i
  have z:((i+1:Nat):Int)=m.length↔i+1=m.length:=by omega
  rw[A,o,GH,F]
  have k:(GH m i).length<549755813887:=by omega
  generalize GH m i=out at k⊢
  dsimp only[Nn,br,vz,vw,wg,vs,vg,ln,Af,ap,AD,wa,ir,ca,fl,A5,br]
  by_cases c:i+1=m.length
  ·have e:¬i+1<m.length:=by omega
   simp only[w,g,z,c,e,d,k,hi,Yt,Y7,IJ,Yn,Yd,LM,Yy,YI,DM]
   have E:m.length<9223372036854775808:=by omega
   simp[E]
  ·have e:i+1<m.length:=by omega
   have hm:m.getD (i+1) Rw.z∈m:=by rw[Ym,Ya e];exact IL e
   have D:=iA (a p (Yk d)).1 (a p (Yk d)).2 (a _ hm).2
   simp only[w,g,z,c,e,d,D,hi,Yt,YK,Y4,Hv,Yd,Fm,YT,forall_const,Yy,DN]
   generalize m.getD (i+1) Rw.z=q
   by_cases f:A0 p q=0
   ·have n:CL p.key q.key=0:=f
    simp[f,n,g]
   ·have n:¬CL p.key q.key=0:=f
    simp[f,n,g,k]) (by dsimp only[Nn,br,vz,vw,wg,vs,vg,ln,Af,ap,AD,wa,ir,ca,fl,A5,br];simp) (AZ (by omega))
 have r:Ah (Nn m) Ag ([],0)=some (.inl (GH m m.length)):=r
 dsimp only[Z4,vz,vw,lr,lc,rn,fl,fr,A5]
 rw[C,Yd,t,Yd,Yj u.symm,r]
 rfl
theorem ud{k:Int}{q p:Pr}(a:q.key.kind=k)(b:p.key.kind=k)(h:Gy q.key p.key=true):¬A0 q p<0:=by
 intro c
 unfold Gy at h
 rw[Yc,YB,YB]at h
 have c:CL q.key p.key<0:=c
 unfold CL at c
 rw[h.1,h.2,a.trans b.symm]at c
 exact TA.ir p.key c
theorem cB{k:Int}{l:List Val}{p:List Pr}{sl:List Slt}{r:List Raw}(hl:k=11∨l=[])(f:k=12∨p=[])(hs:k=10∨(sl=[]∧r=[])):BM (.mk k 0 ⟨#[]⟩ l p sl r)=false:=by
 unfold BM
 refine Yp ?_
 rintro(⟨a,b⟩|⟨a,b⟩|⟨a,b⟩|⟨a,_⟩|⟨a,_⟩)
 ·rcases hl with e|e
  ·exact a e
  ·subst e;exact absurd b (NP 0)
 ·rcases f with e|e
  ·exact a e
  ·subst e;exact absurd b (NP 0)
 ·rcases hs with e|⟨c,d⟩
  ·exact a e
  ·subst c;subst d;exact b.elim (NP 0) (NP 0)
 ·exact a rfl
 ·exact a rfl
theorem ZtQ(out:List Raw)(x:Raw):∃A B:List Raw,out=A++B∧Go.Eng.insR Ds out x=A++x::B∧∀b∈B,x.num<b.num:=by
 refine⟨(out.reverse.dropWhile fun y=>decide (Ds x y<0)).reverse,(out.reverse.takeWhile fun y=>decide (Ds x y<0)).reverse,?_,rfl,fun b c=>?_⟩
 ·rw[←QW,VM,VZ]
 ·have a:=List.all_takeWhile (p:=fun y=>decide (Ds x y<0)) (l:=out.reverse)
  rw[Yq]at a
  have h:=YX (a b (List.mem_reverse.1 c))
  unfold Ds BQ at h
  grind
theorem ue(k:Int)(out:List Raw)(x:Raw):(Go.Eng.insR Ds out x).filter (fun y=>decide (y.num=k))=(out++[x]).filter (fun y=>decide (y.num=k)):=by
 obtain⟨A,B,e,h,a⟩:=ZtQ out x
 rw[h,e,F1,F1,F1,Y8]
 congr 1
 by_cases c:x.num=k
 ·have:B.filter (fun y=>decide (y.num=k))=[]:=by
   rw[QT]
   intro b d
   have:=a b d
   rw[YB]
   omega
  simp[c,this]
 ·simp[c]
theorem oN(k:Int):∀l out:List Raw,(l.foldl (Go.Eng.insR Ds) out).filter (fun y=>decide (y.num=k))=(out++l).filter (fun y=>decide (y.num=k))
 |[],out=>by simp
 |x::l,out=>by
  rw[NZ,oN k l,F1,ue,←F1,Y8]
  rfl
theorem qa:∀{a b:List Raw},a.Pairwise (fun x y=>x.num≤y.num)→b.Pairwise (fun x y=>x.num≤y.num)→(∀k:Int,a.filter (fun y=>decide (y.num=k))=b.filter (fun y=>decide (y.num=k)))→a=b
 |[],[],_,_,_=>rfl
 |[],y::b,_,_,h=>by have:=h y.num;simp at this
 |x::a,[],_,_,h=>by have:=h x.num;simp at this
 |x::a,y::b,j,l,h=>by
  obtain⟨a1,d⟩:=Y0.1 j
  obtain⟨f,g⟩:=Y0.1 l
  have hx:=h x.num
  have e:x.num=y.num:=by
   have m:x∈(y::b).filter (fun z=>decide (z.num=x.num)):=by rw[←hx];exact DY.2 ⟨Yv,by simp⟩
   have m2:y∈(x::a).filter (fun z=>decide (z.num=y.num)):=by rw[h y.num];exact DY.2 ⟨Yv,by simp⟩
   have n:y.num≤x.num:=by
    rcases Yu.1 (DY.1 m).1 with e|e
    ·rw[e];exact Int.le_refl _
    ·exact f x e
   have o:x.num≤y.num:=by
    rcases Yu.1 (DY.1 m2).1 with e|e
    ·rw[e];exact Int.le_refl _
    ·exact a1 y e
   omega
  rw[fH (by simp),fH (by simp[e])]at hx
  obtain⟨i,_⟩:=List.cons.inj hx
  subst i
  rw[qa d g fun k=>?_]
  have:=h k
  rw[LA,LA]at this
  by_cases c:x.num=k
  ·simpa[c]using this
  ·simpa[c]using this
theorem ux(k:Int)(l:List Raw):(Dy l).filter (fun y=>decide (y.num=k))=l.filter (fun y=>decide (y.num=k)):=by
 rw[Kt,B1,oN]
 rfl
theorem cC(l:List Raw):(Dy l).Pairwise (fun x y=>x.num≤y.num):=by
 rw[Kt]
 refine(ag (cf:=Ds) (KD Raw.num) l).imp fun h=>?_
 unfold Ds BQ at h
 grind
theorem vn(l:List Raw):Dy (Dy l)=Dy l:=qa (cC _) (cC _) fun k=>by simp only[ux]
theorem tg{l:List Pr}(h:Fa l){p:Pr}:ly l p↔p∈l:=by
 constructor
 ·rintro⟨j,c,_⟩
  exact Yk c
 ·intro f
  obtain⟨j,b⟩:=YH.1 f
  refine⟨j,b,fun k y d e=>We fun a=>?_⟩
  obtain⟨g,i⟩:=Ye.1 b
  obtain⟨m,n⟩:=Ye.1 d
  have:=Y6.1 h j k g m a
  rw[i,n]at this
  exact((Gv p y).1 e).1 this
theorem ZuF{l:List Pr}(h:Fa l):Ca l=l:=Tb (MF l) h fun x=>IX.trans (tg h)
theorem pi{v:Val}(h:v.kind≠6):BH v=v:=Yh fun c=>h c.1
theorem Rt{N:ByteArray→Val→Val}{f:Fld}(c:f.card=4)(v:Val):Bo N f v=.mk 11 0 ⟨#[]⟩ (v.list.map (AS N f.type)) [] [] []:=Yj c
theorem Ra{N:ByteArray→Val→Val}{f:Fld}(c:f.card=5)(v:Val):Bo N f v=.mk 12 0 ⟨#[]⟩ [] (Ca (v.pairs.map fun p=>.mk (BH p.key) (AS N f.type p.val))) [] []:=(Yh (by omega)).trans (Yj c)
theorem Rq{N:ByteArray→Val→Val}{f:Fld}(a:¬f.card=4)(b:¬f.card=5)(v:Val):Bo N f v=AS N f.type v:=(Yh a).trans (Yh b)
end Go.Proofs.YtalafnjhcecdpaaGreatDoor
