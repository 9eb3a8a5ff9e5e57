import Derived.Test.YtjbijbkdiijhaaaGreatZa26
import Derived.Test.YtjbijbkdiijhaaaGreatZa25
import Derived.Test.YtjbijbkdiijhaaaGreatZa23
import Derived.Test.YtjbijbkdiijhaaaGreatZa00
namespace Go.Proofs.YtjbijbkdiijhaaaGreat
set_option linter.all false
open Go Go.Eng
section
variable {α:Type} [Rw α] [Tid α]
def AQ(pf:α→α→Option Int)(cmp:α→α→Int)(l:List α):Prop:=∀x∈l,∀y∈l,pf x y=some (cmp x y)
theorem AQ.perm{pf:α→α→Option Int}{cmp:α→α→Int}{l v:List α}(h:AQ pf cmp l)(p:v.Perm l):AQ pf cmp v:=fun x hx y hy=>h x (p.mem_iff.1 hx) y (p.mem_iff.1 hy)
theorem AQ.atI{pf:α→α→Option Int}{cmp:α→α→Int}{l:List α}(h:AQ pf cmp l){i j:Nat}(hi:i<l.length)(a:j<l.length):pf (l.getD i Rw.z) (l.getD j Rw.z)=some (cmp (l.getD i Rw.z) (l.getD j Rw.z)):=by
 have e:∀k (h:k<l.length),l.getD k Rw.z=l[k]:=fun k h=>by rw[Yg,Ye h,YO]
 rw[e i hi,e j a]
 exact h _ (Gh hi) _ (Gh a)
theorem ZMS(l:List α)(a b:Nat)(pf:α→α→Option Int)(cmp:α→α→Int)(A:AQ pf cmp l)(i:Int)(hl:l.length≤4194304):∀(j:Nat) (v:List α) (N c:Nat),j<N→j<c→j<l.length→v.Perm l→
  ∃o h,EZ (Rw.z:α) a cmp c j v=.inl (o,h)∧Ak (Ff l (a:Int) (b:Int) pf i) N ((j:Int),v)=some (.inl h)∧h.Perm l:=by
 intro j
 induction j with
 |zero=>
  intro v N c hN y z d
  have n:=d.length_eq
  obtain⟨N,rfl⟩:∃m,N=m+1:=⟨N-1,by omega⟩
  obtain⟨c,rfl⟩:∃m,c=m+1:=⟨c-1,by omega⟩
  have g:¬(a:Int)<((0:Nat):Int):=by omega
  refine⟨0,v,by rw[EZ];simp only[g,YT,Et,cond_false],?_,d⟩
  have hB:Ff l (a:Int) (b:Int) pf i (((0:Nat):Int),v)=some (.ex v):=by
   dsimp only[Ff,JW,br,vz,vs,vg,ln,Ah,Hw,wi,AH,ca,Fl,st,BW,fl,br,AH]
   grind
  rw[Ak,hB]
 |succ j B=>
  intro v N c hN y z d
  have n:=d.length_eq
  obtain⟨N,rfl⟩:∃m,N=m+1:=⟨N-1,by omega⟩
  obtain⟨c,rfl⟩:∃m,c=m+1:=⟨c-1,by omega⟩
  by_cases g:(a:Int)<((j+1:Nat):Int)
  ·have r:((j+1:Nat):Int)-1=(j:Int):=by omega
   have x: -9223372036854775808≤(j:Int)∧(j:Int)<9223372036854775808:=by omega
   have u:(0:Int)≤((j+1:Nat):Int)∧((j+1:Nat):Int)<(l.length:Int):=by omega
   have w:(0:Int)≤(j:Int)∧(j:Int)<(l.length:Int):=by omega
   have e:j+1<v.length:=by omega
   have f:j<v.length:=by omega
   have p:v[j+1]?=some (v.getD (j+1) Rw.z):=by rw[Yg,Ye e];rfl
   have q:v[j]?=some (v.getD j Rw.z):=by rw[Yg,Ye f];rfl
   have s:j+1-1=j:=rfl
   have t:=(A.perm d).atI e f
   by_cases k:cmp (v.getD (j+1) Rw.z) (v.getD j Rw.z)<0
   ·obtain⟨o,h,C,D,E⟩:=B ((v.set (j+1) (v.getD j Rw.z)).set j (v.getD (j+1) Rw.z)) N c (by omega) (by omega) (by omega) ((K9 v (j+1) j e f).trans d)
    refine⟨o,h,by rw[EZ];simp only[g,s,k,Yq,OO,cond_true];exact C,?_,E⟩
    have hB:Ff l (a:Int) (b:Int) pf i (((j+1:Nat):Int),v)=some (.nx ((j:Int),(v.set (j+1) (v.getD j Rw.z)).set j (v.getD (j+1) Rw.z))):=by
     dsimp only[Ff,JW,br,vz,vs,vg,ln,Ah,Hw,wi,AH,ca,Fl,st,BW,fl,br,AH]
     simp only[g,r,x,u,w,e,f,p,q,t,k,Yq,forall_const,Co,OO,Yt,YS,Fx,YO,Ya,OL]
    rw[Ak,hB]
    exact D
   ·refine⟨j+1,v,by rw[EZ];simp only[g,s,k,Yq,YT,Kg,cond_false],?_,d⟩
    have hB:Ff l (a:Int) (b:Int) pf i (((j+1:Nat):Int),v)=some (.ex v):=by
     dsimp only[Ff,JW,br,vz,vs,vg,ln,Ah,Hw,wi,AH,ca,Fl,st,BW,fl,br,AH]
     simp only[g,r,x,u,w,e,f,t,k,Yq,YT,forall_const,Co,Kg,Yo,Yt,YP,YS,Fx,YO]
    rw[Ak,hB]
  ·refine⟨j+1,v,by rw[EZ];simp only[g,YT,Et,cond_false],?_,d⟩
   have hB:Ff l (a:Int) (b:Int) pf i (((j+1:Nat):Int),v)=some (.ex v):=by
    dsimp only[Ff,JW,br,vz,vs,vg,ln,Ah,Hw,wi,AH,ca,Fl,st,BW,fl,br,AH]
    simp only[g,YT,Yo,OB,Et,Yt,YP]
   rw[Ak,hB]
theorem pQ(l:List α)(a b:Nat)(pf:α→α→Option Int)(cmp:α→α→Int)(k:AQ pf cmp l)(hl:l.length≤4194304)(n:b≤l.length):∀(d i:Nat) (v:List α) (N c:Nat),b-i≤d→d<N→b-i<c→v.Perm l→
  ∃j e,Gn (Rw.z:α) a b cmp c i v=.inl (j,e)∧(i<4611686018427387904→Ak (Ii l (a:Int) (b:Int) pf) N ((i:Int),v)=some (.inl e))∧e.Perm l
 |d,i,v,N,c,t,hN,u,h=>by
  have o:=h.length_eq
  obtain⟨N,rfl⟩:∃m,N=m+1:=⟨N-1,by omega⟩
  obtain⟨c,rfl⟩:∃m,c=m+1:=⟨c-1,by omega⟩
  by_cases g:i<b
  ·obtain⟨d,rfl⟩:∃m,d=m+1:=⟨d-1,by omega⟩
   have f:(i:Int)<(b:Int):=by omega
   obtain⟨x,w,p,y,q⟩:=ZMS l a b pf cmp k (i:Int) hl i v Am (i+1) (A1 (by omega)) (by omega) (by omega) h
   obtain⟨j,e,r,z,s⟩:=pQ l a b pf cmp k hl n d (i+1) w N c (by omega) (by omega) (by omega) q
   refine⟨j,e,by rw[Gn];simp only[f,Yq,cond_true,p,CG];exact r,fun hi=>?_,s⟩
   have A: -9223372036854775808≤(i:Int)+1∧(i:Int)+1<9223372036854775808:=by omega
   have hB:Ii l (a:Int) (b:Int) pf ((i:Int),v)=some (.nx ((i:Int)+1,w)):=by
    dsimp only[Ii,NI,NU,Nr,br,vz,vs,ln,Ah,lc,wi,fl,br]
    grind
   rw[Ak,hB]
   grind
  ·have f:¬(i:Int)<(b:Int):=by omega
   refine⟨i,v,by rw[Gn];simp only[f,YT,cond_false],fun _=>?_,h⟩
   have hB:Ii l (a:Int) (b:Int) pf ((i:Int),v)=some (.ex v):=by
    dsimp only[Ii,NI,NU,Nr,br,vz,vs,ln,Ah,lc,wi,fl,br]
    grind
   rw[Ak,hB]
theorem x9(l:List α)(a b:Nat)(pf:α→α→Option Int)(cmp:α→α→Int)(d:AQ pf cmp l)(hl:l.length≤4194304)(h:a≤4194304)(c:b≤l.length):Jv l (a:Int) (b:Int) pf=some (Ds Rw.z l a b cmp):=by
 obtain⟨i,k,e,f,j⟩:=pQ l a b pf cmp d hl c (b-(a+1)) (a+1) l Am (b-(a+1)+1) (Yf _) (A1 (by omega)) (by omega) (.refl _)
 have m: -9223372036854775808≤(a:Int)+1∧(a:Int)+1<9223372036854775808:=by omega
 have g:=f (by omega)
 rw[show((a+1:Nat):Int)=(a:Int)+1 from by omega]at g
 unfold Jv Ds
 rw[e]
 dsimp only[Jv,RM,R9,vz,vs,lr,lc,wi,fl]
 grind
theorem sM(l:List α)(a b:Nat)(cmp:α→α→Int)(hl:l.length≤4194304)(c:b≤l.length):(Ds (Rw.z:α) l a b cmp).Perm l:=by
 obtain⟨f,g,d,_,e⟩:=pQ l a b (fun x y=>some (cmp x y)) cmp (fun _ _ _ _=>rfl) hl c (b-(a+1)) (a+1) l (b-(a+1)+1) (b-(a+1)+1) (Yf _) (by omega) (by omega) (.refl _)
 unfold Ds
 rw[d]
 exact e
end
end Go.Proofs.YtjbijbkdiijhaaaGreat
namespace Go.Proofs.YtjbijbkdiijhaaaGreat
set_option linter.all false
open Go Go.Eng
section
variable {α:Type} [Rw α] [Tid α]
def T7(pf:α→α→Option Int)(cmp:α→α→Int):Prop:=∀(c:Nat) (l:List α) (a m b:Nat),AQ pf cmp l→l.length≤4194304→b-a<c→a<m→m<b→b≤l.length→Dd c l (a:Int) (m:Int) (b:Int) pf=some (A9 Rw.z c l a m b cmp)∧(A9 (Rw.z:α) c l a m b cmp).Perm l
section
variable {pf:α→α→Option Int} {cmp:α→α→Int}
theorem wD(l:List α)(j:AQ pf cmp l)(hl:l.length≤4194304):∀(d x y:Nat) (v:List α) (N a:Nat),l.length+1-y≤d→d<N→l.length+1-y<a→x≤l.length→v.Perm l→
  ∃x' h c,G6 (Rw.z:α) l.length cmp a x y v=.inl (x',h,c)∧Ak (Ih l (l.length:Int) pf) N (x,y,v)=some (.inl (x',c))∧c.Perm l∧x'≤l.length
 |d,x,y,v,N,a,q,hN,r,hx,e=>by
  have k:=e.length_eq
  obtain⟨N,rfl⟩:∃m,N=m+1:=⟨N-1,by omega⟩
  obtain⟨a,rfl⟩:∃m,a=m+1:=⟨a-1,by omega⟩
  by_cases g:y≤l.length
  ·obtain⟨d,rfl⟩:∃m,d=m+1:=⟨d-1,by omega⟩
   have f:(y:Int)≤(l.length:Int):=by omega
   have hs:=x9 v x y pf cmp (j.perm e) (by omega) (by omega) (by omega)
   have b:=(sM v x y cmp (by omega) (by omega)).trans e
   have i:=b.length_eq
   obtain⟨x',h,c,n,o,p⟩:=wD l j hl d y (y+20) (Ds Rw.z v x y cmp) N a (by omega) (by omega) (by omega) g b
   refine⟨x',h,c,by rw[G6,Yn f,cond_true];exact n,?_,p⟩
   have s:y+20<9223372036854775808:=by omega
   have hB:Ih l (l.length:Int) pf (x,y,v)=some (.nx (y,y+20,Ds Rw.z v x y cmp)):=by
    dsimp only[Ih,N1,N2,NM,Np,br,vz,vs,v2,ln,Ah,lc,wa,fl,br,wm]
    grind
   rw[Ak,hB]
   exact o
  ·have f:¬(y:Int)≤(l.length:Int):=by omega
   refine⟨x,y,v,by rw[G6,Ys f,cond_false],?_,e,hx⟩
   have hB:Ih l (l.length:Int) pf (x,y,v)=some (.ex (x,v)):=by
    dsimp only[Ih,N1,N2,NM,Np,br,vz,vs,v2,ln,Ah,lc,wa,fl,br,wm]
    grind
   rw[Ak,hB]
theorem vK(k:T7 pf cmp)(l:List α)(n:AQ pf cmp l)(hl:l.length≤4194304)(s:Nat)(h:0<s)(i:s≤l.length):∀(d x y:Nat) (v:List α) (N a:Nat),l.length+1-y≤d→d<N→l.length+1-y<a→x≤l.length→y=x+2*s→v.Perm l→
  ∃x' j b,G5 (Rw.z:α) l.length cmp s a x y v=.inl (x',j,b)∧Ak (Ij l (l.length:Int) pf s) N (x,y,v)=some (.inl (x',b))∧b.Perm l∧x'≤l.length
 |d,x,y,v,N,a,u,hN,w,hx,hy,c=>by
  have o:=c.length_eq
  obtain⟨N,rfl⟩:∃m,N=m+1:=⟨N-1,by omega⟩
  obtain⟨a,rfl⟩:∃m,a=m+1:=⟨a-1,by omega⟩
  by_cases g:y≤l.length
  ·obtain⟨d,rfl⟩:∃m,d=m+1:=⟨d-1,by omega⟩
   have e:(y:Int)≤(l.length:Int):=by omega
   obtain⟨hs,f⟩:=k (y-x+1) v x (x+s) y (n.perm c) (by omega) (by omega) (by omega) (by omega) (by omega)
   obtain⟨x',j,b,p,q,r⟩:=vK k l n hl s h i d y (y+2*s) (A9 Rw.z (y-x+1) v x (x+s) y cmp) N a (by omega) (by omega) (by omega) g rfl (f.trans c)
   refine⟨x',j,b,by rw[G5,Yn e,cond_true];exact p,?_,r⟩
   have z:y+2*s<9223372036854775808:=by omega
   have w2:2*s<9223372036854775808:=by omega
   have A:x+s<9223372036854775808:=by omega
   have t:((y:Int)-(x:Int)+1).toNat=y-x+1:=by omega
   have hB:Ij l (l.length:Int) pf s (x,y,v)=some (.nx (y,y+2*s,A9 Rw.z (y-x+1) v x (x+s) y cmp)):=by
    dsimp only[Ij,NS,Ny,Nw,NV,br,vz,vs,ln,Ah,lc,wa,fl,br,wm]
    grind
   rw[Ak,hB]
   exact q
  ·have e:¬(y:Int)≤(l.length:Int):=by omega
   refine⟨x,y,v,by rw[G5,Ys e,cond_false],?_,c,hx⟩
   have hB:Ij l (l.length:Int) pf s (x,y,v)=some (.ex (x,v)):=by
    dsimp only[Ij,NS,Ny,Nw,NV,br,vz,vs,ln,Ah,lc,wa,fl,br,wm]
    grind
   rw[Ak,hB]
theorem cM(f:T7 pf cmp)(l:List α)(h:AQ pf cmp l)(hl:l.length≤4194304):∀(d s:Nat) (v:List α) (N a:Nat),0<s→l.length-s≤d→d<N→l.length-s<a→v.Perm l→
  ∃s' c,FF (Rw.z:α) l.length cmp a s v=.inl (s',c)∧Ak (GD l (l.length:Int) pf) N (s,v)=some (.inl c)∧c.Perm l
 |d,s,v,N,a,k,B,hN,C,n=>by
  have u:=n.length_eq
  obtain⟨N,rfl⟩:∃m,N=m+1:=⟨N-1,by omega⟩
  obtain⟨a,rfl⟩:∃m,a=m+1:=⟨a-1,by omega⟩
  by_cases g:s<l.length
  ·obtain⟨d,rfl⟩:∃m,d=m+1:=⟨d-1,by omega⟩
   have e:(s:Int)<(l.length:Int):=by omega
   obtain⟨x,y,w,r,D,i,E⟩:=vK f l h hl s k (by omega) (l.length+1-2*s) 0 (2*s) v Am (l.length+1-2*s+1) (Yf _) (A1 (by omega)) (by omega) (by omega) (by omega) n
   have z:=i.length_eq
   have F:s*2<9223372036854775808:=by omega
   have w2:2*s<9223372036854775808:=by omega
   have G:x+s<9223372036854775808:=by omega
   by_cases t:x+s<l.length
   ·have b:((x+s:Nat):Int)<(l.length:Int):=by omega
    obtain⟨hs,j⟩:=f (l.length-x+1) w x (x+s) l.length (h.perm i) (by omega) (by omega) (by omega) t (by omega)
    obtain⟨s',c,o,p,q⟩:=cM f l h hl d (s*2) (A9 Rw.z (l.length-x+1) w x (x+s) l.length cmp) N a (by omega) (by omega) (by omega) (by omega) (j.trans i)
    refine⟨s',c,by rw[FF,Yn e,cond_true,r];simp only[CG,Yn b,cond_true];exact o,?_,q⟩
    have A:((l.length:Int)-(x:Int)+1).toNat=l.length-x+1:=by omega
    have hB:GD l (l.length:Int) pf (s,v)=some (.nx (s*2,A9 Rw.z (l.length-x+1) w x (x+s) l.length cmp)):=by
     dsimp only[GD,Lc,Lh,Lp,Lx,Lm,Ls,Lj,LB,br,vz,vs,ln,Ah,lc,wa,fl,br,wm]
     grind
    rw[Ak,hB]
    exact p
   ·have b:¬((x+s:Nat):Int)<(l.length:Int):=by omega
    obtain⟨s',c,o,p,q⟩:=cM f l h hl d (s*2) w N a (by omega) (by omega) (by omega) (by omega) i
    refine⟨s',c,by rw[FF,Yn e,cond_true,r];simp only[CG,Ys b,cond_false];exact o,?_,q⟩
    have hB:GD l (l.length:Int) pf (s,v)=some (.nx (s*2,w)):=by
     dsimp only[GD,Lc,Lh,Lp,Lx,Lm,Ls,Lj,LB,br,vz,vs,ln,Ah,lc,wa,fl,br,wm]
     grind
    rw[Ak,hB]
    exact p
  ·have e:¬(s:Int)<(l.length:Int):=by omega
   refine⟨s,v,by rw[FF,Ys e,cond_false],?_,n⟩
   have hB:GD l (l.length:Int) pf (s,v)=some (.ex v):=by
    dsimp only[GD,Lc,Lh,Lp,Lx,Lm,Ls,Lj,LB,br,vz,vs,ln,Ah,lc,wa,fl,br,wm]
    grind
   rw[Ak,hB]
theorem qo(d:T7 pf cmp)(l:List α)(a:AQ pf cmp l)(hl:l.length≤4194304):FE l pf=some (Gp Rw.z l cmp):=by
 obtain⟨x,y,w,f,g,c,h⟩:=wD l a hl (l.length+1-20) 0 20 l Am (l.length+1-20+1) (Yf _) (A1 (by omega)) (by omega) (by omega) (.refl _)
 have e:=c.length_eq
 have hs:=x9 w x l.length pf cmp (a.perm c) (by omega) (by omega) (by omega)
 have b:=(sM w x l.length cmp (by omega) (by omega)).trans c
 obtain⟨s',m,i,j,k⟩:=cM d l a hl (l.length-20) 20 (Ds Rw.z w x l.length cmp) Am (l.length-20+1) (by omega) (Yf _) (A1 (by omega)) (by omega) b
 unfold FE Gp VT
 rw[f]
 dsimp only[FE,R1,R7,RO,vz,lr,lc,fl,Bz,MK,Qx,QE,QW,Qp,vz,lr,lc,fl,MK,wm]
 grind
end
end
theorem ZRE{n:Nat}(h:n<9223372036854775808):IntKind.u64.wrap (n:Int)=(n:Int):=by
 simp only[IntKind.wrap,IntKind.bits,IntKind.signed]
 simp
 omega
theorem ZR0{n:Nat}(h:n<9223372036854775808):IntKind.i64.wrap (n:Int)=(n:Int):=by
 simp only[IntKind.wrap,IntKind.bits,IntKind.signed]
 simp
 omega
theorem Jn{x y:Nat}(h:x+y<9223372036854775808):IntKind.i64.wrap (Al .u64 (IntKind.u64.wrap ((x:Int)+(y:Int))) 1)=(((x+y)/2:Nat):Int):=by
 rw[show(x:Int)+(y:Int)=((x+y:Nat):Int)from by omega,ZRE h]
 have:Al .u64 ((x+y:Nat):Int) 1=(((x+y)/2:Nat):Int):=by
  unfold Al
  have e:(2:Int)^(min (1:Int).toNat IntKind.u64.bits)=2:=by decide
  rw[e,Int.fdiv_eq_ediv_of_nonneg _ (by decide)]
  omega
 rw[this]
 exact ZR0 (by omega)
section
variable {α:Type} [Rw α] [Tid α]
theorem mY(l:List α)(R:List α→Int→Int→Int→(α→α→Option Int)→Option (List α))(a:Nat)(pf:α→α→Option Int)(cmp:α→α→Int)(n:AQ pf cmp l)(hl:l.length≤4194304)(h:a<l.length):∀(d i j N b:Nat),j-i≤d→d<N→j-i<b→i≤j→j≤l.length→
  ∃c e,E0 (Rw.z:α) l a cmp b i j=.inl (c,e)∧Ak (GA l (a:Int) pf R) N ((i:Int),(j:Int))=some (.inl (c:Int))∧i≤c∧c≤j
 |d,i,j,N,b,z,hN,A,k,B=>by
  obtain⟨N,rfl⟩:∃m,N=m+1:=⟨N-1,by omega⟩
  obtain⟨b,rfl⟩:∃m,b=m+1:=⟨b-1,by omega⟩
  by_cases g:i<j
  ·obtain⟨d,rfl⟩:∃m,d=m+1:=⟨d-1,by omega⟩
   have f:(i:Int)<(j:Int):=by omega
   have s:i≤(i+j)/2:=by omega
   have t:(i+j)/2<j:=by omega
   have u:=Jn (x:=i) (y:=j) (by omega)
   have D: -9223372036854775808≤(i:Int)+(j:Int)∧(i:Int)+(j:Int)<9223372036854775808:=by omega
   have r:(0:Int)≤1:=by decide
   have C:=n.atI (i:=(i+j)/2) (j:=a) (by omega) h
   by_cases q:cmp (l.getD ((i+j)/2) Rw.z) (l.getD a Rw.z)<0
   ·obtain⟨c,e,o,p,v,w⟩:=mY l R a pf cmp n hl h d ((i+j)/2+1) j N b (by omega) (by omega) (by omega) (by omega) (by omega)
    refine⟨c,e,by rw[E0,Yn f,cond_true,Yn q];exact o,?_,by omega,by omega⟩
    have hB:GA l (a:Int) pf R ((i:Int),(j:Int))=some (.nx (((((i+j)/2:Nat):Int)+1),(j:Int))):=by
     dsimp only[GA,JU,br,vz,vs,v2,ln,Ah,cf,wi,AH,ca,fl,br,AH,wk,shr]
     grind
    rw[Ak,hB]
    exact p
   ·obtain⟨c,e,o,p,v,w⟩:=mY l R a pf cmp n hl h d i ((i+j)/2) N b (by omega) (by omega) (by omega) (by omega) (by omega)
    refine⟨c,e,by rw[E0,Yn f,cond_true,Ys q];exact o,?_,by omega,by omega⟩
    have hB:GA l (a:Int) pf R ((i:Int),(j:Int))=some (.nx ((i:Int),(((i+j)/2:Nat):Int))):=by
     dsimp only[GA,JU,br,vz,vs,v2,ln,Ah,cf,wi,AH,ca,fl,br,AH,wk,shr]
     grind
    rw[Ak,hB]
    exact p
  ·have f:¬(i:Int)<(j:Int):=by omega
   refine⟨i,j,by rw[E0,Ys f,cond_false],?_,Yf _,k⟩
   have hB:GA l (a:Int) pf R ((i:Int),(j:Int))=some (.ex (i:Int)):=by
    dsimp only[GA,JU,br,vz,vs,v2,ln,Ah,cf,wi,AH,ca,fl,br,AH,wk,shr]
    grind
   rw[Ak,hB]
theorem n0(l:List α)(R:List α→Int→Int→Int→(α→α→Option Int)→Option (List α))(a:Nat)(pf:α→α→Option Int)(cmp:α→α→Int)(n:AQ pf cmp l)(hl:l.length≤4194304)(h:a<l.length):∀(d i j N b:Nat),j-i≤d→d<N→j-i<b→i≤j→j≤l.length→
  ∃c e,EY (Rw.z:α) l a cmp b i j=.inl (c,e)∧Ak (GB l (a:Int) pf R) N ((i:Int),(j:Int))=some (.inl (c:Int))∧i≤c∧c≤j
 |d,i,j,N,b,z,hN,A,k,B=>by
  obtain⟨N,rfl⟩:∃m,N=m+1:=⟨N-1,by omega⟩
  obtain⟨b,rfl⟩:∃m,b=m+1:=⟨b-1,by omega⟩
  by_cases g:i<j
  ·obtain⟨d,rfl⟩:∃m,d=m+1:=⟨d-1,by omega⟩
   have f:(i:Int)<(j:Int):=by omega
   have s:i≤(i+j)/2:=by omega
   have t:(i+j)/2<j:=by omega
   have u:=Jn (x:=i) (y:=j) (by omega)
   have D: -9223372036854775808≤(i:Int)+(j:Int)∧(i:Int)+(j:Int)<9223372036854775808:=by omega
   have r:(0:Int)≤1:=by decide
   have C:=n.atI (i:=a) (j:=(i+j)/2) h (by omega)
   by_cases q:cmp (l.getD a Rw.z) (l.getD ((i+j)/2) Rw.z)<0
   ·obtain⟨c,e,o,p,v,w⟩:=n0 l R a pf cmp n hl h d i ((i+j)/2) N b (by omega) (by omega) (by omega) (by omega) (by omega)
    refine⟨c,e,by rw[EY,Yn f,cond_true,Yn q];exact o,?_,by omega,by omega⟩
    have hB:GB l (a:Int) pf R ((i:Int),(j:Int))=some (.nx ((i:Int),(((i+j)/2:Nat):Int))):=by
     dsimp only[GB,JR,br,vz,vs,ln,Ah,cf,wi,AH,ca,fl,br,AH,wk,shr]
     grind
    rw[Ak,hB]
    exact p
   ·obtain⟨c,e,o,p,v,w⟩:=n0 l R a pf cmp n hl h d ((i+j)/2+1) j N b (by omega) (by omega) (by omega) (by omega) (by omega)
    refine⟨c,e,by rw[EY,Yn f,cond_true,Ys q];exact o,?_,by omega,by omega⟩
    have hB:GB l (a:Int) pf R ((i:Int),(j:Int))=some (.nx (((((i+j)/2:Nat):Int)+1),(j:Int))):=by
     dsimp only[GB,JR,br,vz,vs,ln,Ah,cf,wi,AH,ca,fl,br,AH,wk,shr]
     grind
    rw[Ak,hB]
    exact p
  ·have f:¬(i:Int)<(j:Int):=by omega
   refine⟨i,j,by rw[EY,Ys f,cond_false],?_,Yf _,k⟩
   have hB:GB l (a:Int) pf R ((i:Int),(j:Int))=some (.ex (i:Int)):=by
    dsimp only[GB,JR,br,vz,vs,ln,Ah,cf,wi,AH,ca,fl,br,AH,wk,shr]
    grind
   rw[Ak,hB]
end
section
variable {α:Type} [Rw α] [Tid α]
theorem r5(l:List α)(R:List α→Int→Int→Int→(α→α→Option Int)→Option (List α))(pf:α→α→Option Int)(a0:Nat×Nat)(hl:l.length≤4194304)(h:1≤a0.1)(j:a0.1≤l.length):∀(d i:Nat) (v:List α) (N a:Nat),a0.1-1-i≤d→d<N→a0.1-1-i<a→v.Perm l→i≤l.length→
  ∃f b,Gm (Rw.z:α) a0 a i v=.inl (f,b)∧Ak (Im l pf R (a0.1:Int)) N ((i:Int),v)=some (.inl b)∧b.Perm l
 |d,i,v,N,a,u,hN,w,e,hi=>by
  have k:=e.length_eq
  obtain⟨N,rfl⟩:∃m,N=m+1:=⟨N-1,by omega⟩
  obtain⟨a,rfl⟩:∃m,a=m+1:=⟨a-1,by omega⟩
  have t:(a0.1:Int)-1=((a0.1-1:Nat):Int):=by omega
  have B: -9223372036854775808≤((a0.1-1:Nat):Int)∧((a0.1-1:Nat):Int)<9223372036854775808:=by omega
  by_cases g:i<a0.1-1
  ·obtain⟨d,rfl⟩:∃m,d=m+1:=⟨d-1,by omega⟩
   have c:(i:Int)<((a0.1-1:Nat):Int):=by omega
   obtain⟨f,b,p,q,r⟩:=r5 l R pf a0 hl h j d (i+1) ((v.set i (v.getD (i+1) Rw.z)).set (i+1) (v.getD i Rw.z)) N a (by omega) (by omega) (by omega) ((K9 v i (i+1) (by omega) (by omega)).trans e) (by omega)
   refine⟨f,b,by rw[Gm,Yn c,cond_true];exact p,?_,r⟩
   have s:(i:Int)+1=((i+1:Nat):Int):=by omega
   have A: -9223372036854775808≤((i+1:Nat):Int)∧((i+1:Nat):Int)<9223372036854775808:=by omega
   have x:(0:Int)≤(i:Int)∧(i:Int)<(l.length:Int):=by omega
   have y:(0:Int)≤((i+1:Nat):Int)∧((i+1:Nat):Int)<(l.length:Int):=by omega
   have n:i<v.length:=by omega
   have o:i+1<v.length:=by omega
   have z:v[i]?=some (v.getD i Rw.z):=by rw[Yg,Ye n];rfl
   have v2:v[i+1]?=some (v.getD (i+1) Rw.z):=by rw[Yg,Ye o];rfl
   have hB:Im l pf R (a0.1:Int) ((i:Int),v)=some (.nx (((i+1:Nat):Int),(v.set i (v.getD (i+1) Rw.z)).set (i+1) (v.getD i Rw.z))):=by
    dsimp only[Im,LJ,br,vz,vs,ln,Ah,wi,AH,ca,st,BW,fl,br,AH,wk,shr]
    grind
   rw[Ak,hB]
   exact q
  ·have c:¬(i:Int)<((a0.1-1:Nat):Int):=by omega
   refine⟨i,v,by rw[Gm,Ys c,cond_false],?_,e⟩
   have hB:Im l pf R (a0.1:Int) ((i:Int),v)=some (.ex v):=by
    dsimp only[Im,LJ,br,vz,vs,ln,Ah,wi,AH,ca,st,BW,fl,br,AH,wk,shr]
    grind
   rw[Ak,hB]
theorem ZPI(l:List α)(R:List α→Int→Int→Int→(α→α→Option Int)→Option (List α))(pf:α→α→Option Int)(b:Nat×Nat)(hl:l.length≤4194304):∀(i:Nat) (v:List α) (N a:Nat),i<N→i<a→v.Perm l→i<l.length→
  ∃g e,FA (Rw.z:α) b a i v=.inl (g,e)∧Ak (GH l pf R (b.1:Int)) N ((i:Int),v)=some (.inl e)∧e.Perm l:=by
 intro i
 induction i with
 |zero=>
  intro v N a hN n d hi
  have f:=d.length_eq
  obtain⟨N,rfl⟩:∃m,N=m+1:=⟨N-1,by omega⟩
  obtain⟨a,rfl⟩:∃m,a=m+1:=⟨a-1,by omega⟩
  have c:¬(b.1:Int)<((0:Nat):Int):=by omega
  refine⟨0,v,by rw[FA,Ys c,cond_false],?_,d⟩
  have hB:GH l pf R (b.1:Int) (((0:Nat):Int),v)=some (.ex v):=by
   dsimp only[GH,JQ,br,vz,vs,ln,Ah,wi,AH,ca,st,BW,fl,br,AH,wk,shr]
   grind
  rw[Ak,hB]
 |succ i o=>
  intro v N a hN n d hi
  have f:=d.length_eq
  obtain⟨N,rfl⟩:∃m,N=m+1:=⟨N-1,by omega⟩
  obtain⟨a,rfl⟩:∃m,a=m+1:=⟨a-1,by omega⟩
  by_cases c:(b.1:Int)<((i+1:Nat):Int)
  ·obtain⟨g,e,p,q,r⟩:=o ((v.set (i+1) (v.getD i Rw.z)).set i (v.getD (i+1) Rw.z)) N a (by omega) (by omega) ((K9 v (i+1) i (by omega) (by omega)).trans d) (by omega)
   refine⟨g,e,by rw[FA,Yn c,cond_true];exact p,?_,r⟩
   have k:((i+1:Nat):Int)-1=(i:Int):=by omega
   have w: -9223372036854775808≤(i:Int)∧(i:Int)<9223372036854775808:=by omega
   have s:(0:Int)≤(i:Int)∧(i:Int)<(l.length:Int):=by omega
   have t:(0:Int)≤((i+1:Nat):Int)∧((i+1:Nat):Int)<(l.length:Int):=by omega
   have h:i<v.length:=by omega
   have j:i+1<v.length:=by omega
   have u:v[i]?=some (v.getD i Rw.z):=by rw[Yg,Ye h];rfl
   have v2:v[i+1]?=some (v.getD (i+1) Rw.z):=by rw[Yg,Ye j];rfl
   have hB:GH l pf R (b.1:Int) (((i+1:Nat):Int),v)=some (.nx ((i:Int),(v.set (i+1) (v.getD i Rw.z)).set i (v.getD (i+1) Rw.z))):=by
    dsimp only[GH,JQ,br,vz,vs,ln,Ah,wi,AH,ca,st,BW,fl,br,AH,wk,shr]
    simp only[c,k,w,s,t,h,j,u,v2,Yq,Yt,Co,YS,Ya,OL]
   rw[Ak,hB]
   exact q
  ·refine⟨i+1,v,by rw[FA,Ys c,cond_false],?_,d⟩
   have hB:GH l pf R (b.1:Int) (((i+1:Nat):Int),v)=some (.ex v):=by
    dsimp only[GH,JQ,br,vz,vs,ln,Ah,wi,AH,ca,st,BW,fl,br,AH,wk,shr]
    simp only[c,YT,Yo,YP]
   rw[Ak,hB]
end
section
variable {α:Type} [Rw α] [Tid α]
theorem l4(l:List α)(R:List α→Int→Int→Int→(α→α→Option Int)→Option (List α))(a m b:Nat)(pf:α→α→Option Int)(cmp:α→α→Int)(p:AQ pf cmp l)(hl:l.length≤4194304)(s:a<m)(t:m<b)(u:b≤l.length):∀(d i j N c:Nat),j-i≤d→d<N→j-i<c→i≤j→j≤(a+b)/2+m∧j≤l.length→(a+b)/2+m≤l.length+i→
  ∃e f,FC (Rw.z:α) l a m b cmp c i j=.inl (e,f)∧Ak (Do l (a:Int) (m:Int) (b:Int) pf R) N ((i:Int),(j:Int))=some (.inl (e:Int))∧i≤e∧e≤j
 |d,i,j,N,c,D,hN,E,o,F,hi=>by
  obtain⟨N,rfl⟩:∃m,N=m+1:=⟨N-1,by omega⟩
  obtain⟨c,rfl⟩:∃m,c=m+1:=⟨c-1,by omega⟩
  by_cases g:i<j
  ·obtain⟨d,rfl⟩:∃m,d=m+1:=⟨d-1,by omega⟩
   have n:(i:Int)<(j:Int):=by omega
   have z:i≤(i+j)/2:=by omega
   have A:(i+j)/2<j:=by omega
   have k:=Jn (x:=i) (y:=j) (by omega)
   have h:=Jn (x:=a) (y:=b) (by omega)
   have e0:(((a+b)/2:Nat):Int)+(m:Int)-1=(((a+b)/2+m-1:Nat):Int):=by omega
   have H: -9223372036854775808≤(i:Int)+(j:Int)∧(i:Int)+(j:Int)<9223372036854775808:=by omega
   have w:(0:Int)≤1:=by decide
   have G:=p.atI (i:=(a+b)/2+m-1-(i+j)/2) (j:=(i+j)/2) (by omega) (by omega)
   by_cases v:cmp (l.getD ((a+b)/2+m-1-(i+j)/2) Rw.z) (l.getD ((i+j)/2) Rw.z)<0
   ·obtain⟨e,f,q,r,B,C⟩:=l4 l R a m b pf cmp p hl s t u d i ((i+j)/2) N c (by omega) (by omega) (by omega) (by omega) (by omega) (by omega)
    refine⟨e,f,by rw[FC,Yn n,cond_true,Yn v];exact q,?_,by omega,by omega⟩
    have hB:Do l (a:Int) (m:Int) (b:Int) pf R ((i:Int),(j:Int))=some (.nx ((i:Int),(((i+j)/2:Nat):Int))):=by
     dsimp only[Do,Gw,br,vz,vs,ln,Ah,cf,wi,AH,ca,fl,br,AH,wk,shr]
     rw[k,h,e0]
     grind
    rw[Ak,hB]
    exact r
   ·obtain⟨e,f,q,r,B,C⟩:=l4 l R a m b pf cmp p hl s t u d ((i+j)/2+1) j N c (by omega) (by omega) (by omega) (by omega) (by omega) (by omega)
    refine⟨e,f,by rw[FC,Yn n,cond_true,Ys v];exact q,?_,by omega,by omega⟩
    have hB:Do l (a:Int) (m:Int) (b:Int) pf R ((i:Int),(j:Int))=some (.nx (((((i+j)/2:Nat):Int)+1),(j:Int))):=by
     dsimp only[Do,Gw,br,vz,vs,ln,Ah,cf,wi,AH,ca,fl,br,AH,wk,shr]
     rw[k,h,e0]
     grind
    rw[Ak,hB]
    exact r
  ·have n:¬(i:Int)<(j:Int):=by omega
   refine⟨i,j,by rw[FC,Ys n,cond_false],?_,Yf _,o⟩
   have hB:Do l (a:Int) (m:Int) (b:Int) pf R ((i:Int),(j:Int))=some (.ex (i:Int)):=by
    dsimp only[Do,Gw,br,vz,vs,ln,Ah,cf,wi,AH,ca,fl,br,AH,wk,shr]
    grind
   rw[Ak,hB]
theorem l9(l:List α)(R:List α→Int→Int→Int→(α→α→Option Int)→Option (List α))(a m b:Nat)(pf:α→α→Option Int)(cmp:α→α→Int)(p:AQ pf cmp l)(hl:l.length≤4194304)(s:a<m)(t:m<b)(u:b≤l.length):∀(d i j N c:Nat),j-i≤d→d<N→j-i<c→i≤j→j≤(a+b)/2+m∧j≤l.length→(a+b)/2+m≤l.length+i→
  ∃e f,FD (Rw.z:α) l a m b cmp c i j=.inl (e,f)∧Ak (Do l (a:Int) (m:Int) (b:Int) pf R) N ((i:Int),(j:Int))=some (.inl (e:Int))∧i≤e∧e≤j
 |d,i,j,N,c,D,hN,E,o,F,hi=>by
  obtain⟨N,rfl⟩:∃m,N=m+1:=⟨N-1,by omega⟩
  obtain⟨c,rfl⟩:∃m,c=m+1:=⟨c-1,by omega⟩
  by_cases g:i<j
  ·obtain⟨d,rfl⟩:∃m,d=m+1:=⟨d-1,by omega⟩
   have n:(i:Int)<(j:Int):=by omega
   have z:i≤(i+j)/2:=by omega
   have A:(i+j)/2<j:=by omega
   have k:=Jn (x:=i) (y:=j) (by omega)
   have h:=Jn (x:=a) (y:=b) (by omega)
   have e0:(((a+b)/2:Nat):Int)+(m:Int)-1=(((a+b)/2+m-1:Nat):Int):=by omega
   have H: -9223372036854775808≤(i:Int)+(j:Int)∧(i:Int)+(j:Int)<9223372036854775808:=by omega
   have w:(0:Int)≤1:=by decide
   have G:=p.atI (i:=(a+b)/2+m-1-(i+j)/2) (j:=(i+j)/2) (by omega) (by omega)
   by_cases v:cmp (l.getD ((a+b)/2+m-1-(i+j)/2) Rw.z) (l.getD ((i+j)/2) Rw.z)<0
   ·obtain⟨e,f,q,r,B,C⟩:=l9 l R a m b pf cmp p hl s t u d i ((i+j)/2) N c (by omega) (by omega) (by omega) (by omega) (by omega) (by omega)
    refine⟨e,f,by rw[FD,Yn n,cond_true,Yn v];exact q,?_,by omega,by omega⟩
    have hB:Do l (a:Int) (m:Int) (b:Int) pf R ((i:Int),(j:Int))=some (.nx ((i:Int),(((i+j)/2:Nat):Int))):=by
     dsimp only[Do,Gw,br,vz,vs,ln,Ah,cf,wi,AH,ca,fl,br,AH,wk,shr]
     rw[k,h,e0]
     grind
    rw[Ak,hB]
    exact r
   ·obtain⟨e,f,q,r,B,C⟩:=l9 l R a m b pf cmp p hl s t u d ((i+j)/2+1) j N c (by omega) (by omega) (by omega) (by omega) (by omega) (by omega)
    refine⟨e,f,by rw[FD,Yn n,cond_true,Ys v];exact q,?_,by omega,by omega⟩
    have hB:Do l (a:Int) (m:Int) (b:Int) pf R ((i:Int),(j:Int))=some (.nx (((((i+j)/2:Nat):Int)+1),(j:Int))):=by
     dsimp only[Do,Gw,br,vz,vs,ln,Ah,cf,wi,AH,ca,fl,br,AH,wk,shr]
     rw[k,h,e0]
     grind
    rw[Ak,hB]
    exact r
  ·have n:¬(i:Int)<(j:Int):=by omega
   refine⟨i,j,by rw[FD,Ys n,cond_false],?_,Yf _,o⟩
   have hB:Do l (a:Int) (m:Int) (b:Int) pf R ((i:Int),(j:Int))=some (.ex (i:Int)):=by
    dsimp only[Do,Gw,br,vz,vs,ln,Ah,cf,wi,AH,ca,fl,br,AH,wk,shr]
    grind
   rw[Ak,hB]
end
theorem xA{α:Type}(z:α)(c:Nat)(l:List α)(a m b:Nat)(cf:α→α→Int)(s:Nat):
  (cond ((decide (((s:Nat):Int)<((m:Nat):Int))&&decide (((m:Nat):Int)<(((((a+b)/2)+m)-s:Nat):Int)))) (cond ((decide (((a:Nat):Int)<((s:Nat):Int))&&decide (((s:Nat):Int)<(((a+b)/2:Nat):Int)))) (cond ((decide ((((a+b)/2:Nat):Int)<(((((a+b)/2)+m)-s:Nat):Int))&&decide ((((((a+b)/2)+m)-s:Nat):Int)<((b:Nat):Int)))) ((A9 z c (A9 z c (Cd z l s m ((((a+b)/2)+m)-s) cf) a s ((a+b)/2) cf) ((a+b)/2) ((((a+b)/2)+m)-s) b cf)) ((A9 z c (Cd z l s m ((((a+b)/2)+m)-s) cf) a s ((a+b)/2) cf))) (cond ((decide ((((a+b)/2:Nat):Int)<(((((a+b)/2)+m)-s:Nat):Int))&&decide ((((((a+b)/2)+m)-s:Nat):Int)<((b:Nat):Int)))) ((A9 z c (Cd z l s m ((((a+b)/2)+m)-s) cf) ((a+b)/2) ((((a+b)/2)+m)-s) b cf)) ((Cd z l s m ((((a+b)/2)+m)-s) cf)))) (cond ((decide (((a:Nat):Int)<((s:Nat):Int))&&decide (((s:Nat):Int)<(((a+b)/2:Nat):Int)))) (cond ((decide ((((a+b)/2:Nat):Int)<(((((a+b)/2)+m)-s:Nat):Int))&&decide ((((((a+b)/2)+m)-s:Nat):Int)<((b:Nat):Int)))) ((A9 z c (A9 z c l a s ((a+b)/2) cf) ((a+b)/2) ((((a+b)/2)+m)-s) b cf)) ((A9 z c l a s ((a+b)/2) cf))) (cond ((decide ((((a+b)/2:Nat):Int)<(((((a+b)/2)+m)-s:Nat):Int))&&decide ((((((a+b)/2)+m)-s:Nat):Int)<((b:Nat):Int)))) ((A9 z c l ((a+b)/2) ((((a+b)/2)+m)-s) b cf)) (l))))=FM z c l a m b cf s:=by
 unfold FM
 grind
section
variable {α:Type} [Rw α] [Tid α]
theorem sT(R:List α→Int→Int→Int→(α→α→Option Int)→Option (List α))(pf:α→α→Option Int)(cmp:α→α→Int)(n:Nat)
  (p:∀(l:List α) (a m b:Nat),AQ pf cmp l→l.length≤4194304→b-a<n→a<m→m<b→b≤l.length→R l (a:Int) (m:Int) (b:Int) pf=some (A9 Rw.z n l a m b cmp)∧(A9 (Rw.z:α) n l a m b cmp).Perm l)
  (l:List α) (o:AQ pf cmp l) (a m b s:Nat) (hl:l.length≤4194304) (J:b-a<n+1) (D:a<m) (E:m<b) (F:b≤l.length) (G:4≤b-a) (H:s≤(a+b)/2) (I:(a+b)/2+m≤b+s):
  (M8 l (a:Int) (m:Int) (b:Int) pf R (s:Int)).m=some (FM (Rw.z:α) n l a m b cmp s)∧(FM (Rw.z:α) n l a m b cmp s).Perm l:=by
 have u:=Jn (x:=a) (y:=b) (by omega)
 have v:(((a+b)/2:Nat):Int)+(m:Int)-(s:Int)=(((a+b)/2+m-s:Nat):Int):=by omega
 have w: -9223372036854775808≤(((a+b)/2+m-s:Nat):Int)∧(((a+b)/2+m-s:Nat):Int)<9223372036854775808:=by omega
 have A:a<(a+b)/2:=by omega
 have B:(a+b)/2<b:=by omega
 unfold FM
 dsimp only[JU,LJ,NL,NH,NY,JR,JQ,NK,NA,Nl,Gw,Qn,Q8,QR,QC,QX,Qt,Ri,QZ,Qi,Qm,QO,Qo,Ra,Qw,Rh,Q9,Q3,QD,QH,Q6,Rc,QG,Rf,Qv,QI,QJ,QA,Ql,Rg,Q5,Qj,QB,M8,JC,LA,Lw,JI,JH,He,br,vz,vg,vs,v2,wi,wk,shr,AH,ca,Fl,cf,Hw,lc,ln,lf,Ah,fl,st,BW,lr,wg]
 simp only[u,v]
 generalize (a+b)/2=h at*
 generalize h+m-s=e at*
 simp only[w,Co,Yt]
 have C:e≤b:=by omega
 by_cases c:s<m∧m<e<;>by_cases g:a<s∧s<h<;>by_cases i:h<e∧e<b
 ·
   have q:=U0 l s m e cmp hl c.1 c.2 (by omega)
   have f:=(PW (z:=(Rw.z:α)) l s m e cmp c.1 c.2 (by omega)).2.1
   have k:=f.length_eq
   obtain⟨r,d⟩:=p (Cd (Rw.z:α) l s m e cmp) a s h (o.perm f) (by omega) (by omega) g.1 g.2 (by omega)
   obtain⟨t,j⟩:=p (A9 (Rw.z:α) n (Cd (Rw.z:α) l s m e cmp) a s h cmp) h e b (o.perm (d.trans f)) (by have:=d.length_eq;omega) (by omega) i.1 i.2 (by have:=d.length_eq;omega)
   simp only[D6 c,D6 g,D6 i,q,k,r,d.length_eq,t,j.length_eq,Yt,Ya,cond_true]
   first|exact⟨trivial,j.trans (d.trans f)⟩|exact⟨rfl,j.trans (d.trans f)⟩
 ·
   have q:=U0 l s m e cmp hl c.1 c.2 (by omega)
   have f:=(PW (z:=(Rw.z:α)) l s m e cmp c.1 c.2 (by omega)).2.1
   have k:=f.length_eq
   obtain⟨r,d⟩:=p (Cd (Rw.z:α) l s m e cmp) a s h (o.perm f) (by omega) (by omega) g.1 g.2 (by omega)
   simp only[D6 c,D6 g,D5 i,q,k,r,d.length_eq,Yo,Yt,YP,Ya,cond_true,cond_false]
   first|exact⟨trivial,d.trans f⟩|exact⟨rfl,d.trans f⟩
 ·
   have q:=U0 l s m e cmp hl c.1 c.2 (by omega)
   have f:=(PW (z:=(Rw.z:α)) l s m e cmp c.1 c.2 (by omega)).2.1
   have k:=f.length_eq
   obtain⟨t,j⟩:=p (Cd (Rw.z:α) l s m e cmp) h e b (o.perm f) (by omega) (by omega) i.1 i.2 (by omega)
   simp only[D6 c,D5 g,D6 i,q,k,t,j.length_eq,Yo,Yt,YP,Ya,cond_true,cond_false]
   first|exact⟨trivial,j.trans f⟩|exact⟨rfl,j.trans f⟩
 ·
   have q:=U0 l s m e cmp hl c.1 c.2 (by omega)
   have f:=(PW (z:=(Rw.z:α)) l s m e cmp c.1 c.2 (by omega)).2.1
   have k:=f.length_eq
   simp only[D6 c,D5 g,D5 i,q,k,Yo,Yt,YP,Ya,cond_true,cond_false]
   first|exact⟨trivial,f⟩|exact⟨rfl,f⟩
 ·
   obtain⟨r,d⟩:=p l a s h o (by omega) (by omega) g.1 g.2 (by omega)
   obtain⟨t,j⟩:=p (A9 (Rw.z:α) n l a s h cmp) h e b (o.perm d) (by have:=d.length_eq;omega) (by omega) i.1 i.2 (by have:=d.length_eq;omega)
   simp only[D5 c,D6 g,D6 i,r,d.length_eq,t,j.length_eq,Yo,Yt,YP,Ya,cond_true,cond_false]
   first|exact⟨trivial,j.trans d⟩|exact⟨rfl,j.trans d⟩
 ·
   obtain⟨r,d⟩:=p l a s h o (by omega) (by omega) g.1 g.2 (by omega)
   simp only[D5 c,D6 g,D5 i,r,d.length_eq,Yo,Yt,YP,Ya,cond_true,cond_false]
   first|exact⟨trivial,d⟩|exact⟨rfl,d⟩
 ·
   obtain⟨t,j⟩:=p l h e b o (by omega) (by omega) i.1 i.2 (by omega)
   simp only[D5 c,D5 g,D6 i,t,j.length_eq,Yo,Yt,YP,Ya,cond_true,cond_false]
   first|exact⟨trivial,j⟩|exact⟨rfl,j⟩
 simp only[D5 c,D5 g,D5 i,Yo,YP,cond_false]
 first|exact⟨trivial,.refl _⟩|exact⟨rfl,.refl _⟩
theorem nq{pf:α→α→Option Int}{cmp:α→α→Int}:T7 pf cmp:=by
 intro c
 induction c with
 |zero=>intro l a m b _ _ h;omega
 |succ c w=>
  intro l a m b d hl t f g e
  rw[A9]
  show(He l (a:Int) (m:Int) (b:Int) pf (Dd c)).m=_∧_
  have wa: -9223372036854775808≤((m-a:Nat):Int)∧((m-a:Nat):Int)<9223372036854775808:=by omega
  have P: -9223372036854775808≤((b-m:Nat):Int)∧((b-m:Nat):Int)<9223372036854775808:=by omega
  have H:(m:Int)-(a:Int)=((m-a:Nat):Int):=by omega
  have I:(b:Int)-(m:Int)=((b-m:Nat):Int):=by omega
  by_cases J:m-a=1
  ·have k:((m-a:Nat):Int)=1:=by omega
   obtain⟨i,j,p,q,r,s⟩:=mY l (Dd c) a pf cmp d hl (by omega) (b-m) m b Am (b-m+1) (Yf _) (A1 (by omega)) (YM _) (by omega) e
   obtain⟨z,v,B,C,D⟩:=r5 l (Dd c) pf (i,j) hl (show 1≤i by omega) (show i≤l.length by omega) (i-1-a) a l Am (i-a+1) (Yf _) (A1 (by omega)) (by dsimp only;omega) (.refl _) (by omega)
   dsimp only[He,NY,NH,NL,br,vz,vg,vs,v2,wi,wk,shr,AH,ca,Fl,cf,Hw,lc,ln,lf,Ah,fl,st,BW,lr,wg]
   grind
  ·have k:¬((m-a:Nat):Int)=1:=by omega
   by_cases K:b-m=1
   ·have n:((b-m:Nat):Int)=1:=by omega
    obtain⟨i,j,p,q,r,s⟩:=n0 l (Dd c) m pf cmp d hl (by omega) (m-a) a m Am (m-a+1) (Yf _) (A1 (by omega)) (YM _) (by omega) (by omega)
    obtain⟨z,v,B,C,D⟩:=ZPI l (Dd c) pf (i,j) hl m l Am (m+1) (A1 (by omega)) (YM _) (.refl _) (by omega)
    dsimp only[He,JH,JI,Nl,NA,NK,br,vz,vg,vs,v2,wi,wk,shr,AH,ca,Fl,cf,Hw,lc,ln,lf,Ah,fl,st,BW,lr,wg]
    grind
   ·have n:¬((b-m:Nat):Int)=1:=by omega
    have A:=Jn (x:=a) (y:=b) (by omega)
    have M: -9223372036854775808≤(a:Int)+(b:Int)∧(a:Int)+(b:Int)<9223372036854775808:=by omega
    have F:(((a+b)/2:Nat):Int)+(m:Int)=(((a+b)/2+m:Nat):Int):=by omega
    have w2: -9223372036854775808≤(((a+b)/2+m:Nat):Int)∧(((a+b)/2+m:Nat):Int)<9223372036854775808:=by omega
    have N: -9223372036854775808≤(((a+b)/2+m:Nat):Int)-1∧(((a+b)/2+m:Nat):Int)-1<9223372036854775808:=by omega
    have u:(0:Int)≤1:=by decide
    by_cases L:(a+b)/2<m
    ·have o:(((a+b)/2:Nat):Int)<(m:Int):=by omega
     have G:(((a+b)/2+m:Nat):Int)-(b:Int)=(((a+b)/2+m-b:Nat):Int):=by omega
     have O: -9223372036854775808≤(((a+b)/2+m-b:Nat):Int)∧(((a+b)/2+m-b:Nat):Int)<9223372036854775808:=by omega
     obtain⟨i,j,p,q,r,s⟩:=l4 l (Dd c) a m b pf cmp d hl f g e ((a+b)/2-((a+b)/2+m-b)) ((a+b)/2+m-b) ((a+b)/2) Am ((a+b)/2-((a+b)/2+m-b)+1) (Yf _) (A1 (by omega)) (YM _) (by omega) (by omega) (by omega)
     obtain⟨t1,t2⟩:=sT (Dd c) pf cmp c w l d a m b i hl t f g e (by omega) (by omega) (by omega)
     have E:=xA (Rw.z:α) c l a m b cmp i
     dsimp only[He,JH,JI,Lw,LA,JC,br,vz,vg,vs,v2,wi,wk,shr,AH,ca,Fl,cf,Hw,lc,ln,lf,Ah,fl,st,BW,lr,wg]
     grind
    ·have o:¬(((a+b)/2:Nat):Int)<(m:Int):=by omega
     obtain⟨i,j,p,q,r,s⟩:=l9 l (Dd c) a m b pf cmp d hl f g e (m-a) a m Am (m-a+1) (Yf _) (A1 (by omega)) (YM _) (by omega) (by omega) (by omega)
     obtain⟨t1,t2⟩:=sT (Dd c) pf cmp c w l d a m b i hl t f g e (by omega) (by omega) (by omega)
     have E:=xA (Rw.z:α) c l a m b cmp i
     dsimp only[He,JH,JI,Lw,LA,JC,br,vz,vg,vs,v2,wi,wk,shr,AH,ca,Fl,cf,Hw,lc,ln,lf,Ah,fl,st,BW,lr,wg]
     grind
end
theorem ZU5:zf=some true:=by kernel_rfl
def IM(x y:Slt):Int:=BS x.num y.num
theorem ZTx(x y:Slt):MR x y=some (IM x y):=by
 dsimp only[MR,bV,wg,lr,cl]
 rw[Uo]
 rfl
theorem M7{α:Type}(k:α→Int):CmpLaw fun x y:α=>BS (k x) (k y):=by
 constructor<;>(intros;unfold BS at*;grind)
theorem ZEa(l:List Slt)(hl:l.length≤4194304):FE l (fun z0 a=>MR z0 a)=some (C2 IM l):=by
 have h:=qo nq l (fun x _ y _=>ZTx x y) hl
 rw[kx (show CmpLaw IM from M7 Slt.num) l]at h
 exact h
def GQ(x y:Raw):Int:=BS x.num y.num
theorem ZSc(x y:Raw):MQ x y=some (GQ x y):=by
 dsimp only[MQ,de,wg,lr,cl]
 rw[Uo]
 rfl
theorem ZF6(l:List Raw)(hl:l.length≤4194304):FE l (fun z0 a=>MQ z0 a)=some (C2 GQ l):=by
 have h:=qo nq l (fun x _ y _=>ZSc x y) hl
 rw[kx (show CmpLaw GQ from M7 Raw.num) l]at h
 exact h
theorem wE(l:List Fld)(f:Fld→Option Bool)(p:Fld→Bool)(d:∀x∈l,f x=some (p x))(h:l.length≤1048576):U5 l f=some (l.any p):=by
 have e:=Ew (B:=Rt l f) (N:=Am) l p (fun i=>(i:Int)) () (fun i x hx=>by
  have a:=BI hx
  have g:=(Yd.1 hx).1
  have b:i+1<9223372036854775808:=by omega
  have c:=d x (Yk hx)
  dsimp only[Rt,Zl,br,ix,vs,AA,ln,Ah,cf,wa,br]
  simp only[a,b,c,hx,Yq,Yt,Ya]
  cases p x<;>simp) (by simp[Rt,Zl,br,ix,vs,AA,ln,Ah,cf,wa,br]) (A1 (by omega))
 dsimp only[U5,fj,lr,cs,j9,fJ,ge,eV,vz,lr,lc,An]
 rw[e,←Ow]
 cases l.findIdx? p with
 |none=>rfl
 |some i=>simp
theorem ZPe(g f:Fld)(v:Val)(h:v.slots.length≤4194304):PB g f v=some (!decide (g.num=f.num)&&BZ v.slots g.num):=by
 dsimp only[PB,eR,wg,lr,AO]
 rw[n19 v g.num (by omega)]
 cases decide (g.num=f.num)<;>simp
theorem ZPu(m:Msg)(f:Fld)(v:Val)(hm:m.fields.length≤1048576)(h:v.slots.length≤4194304):kj m f v=some (Ee m.fields f v.slots):=by
 dsimp only[kj,gi,wg,lr,cl,cs]
 unfold Ee
 by_cases c:f.union=⟨#[]⟩
 ·rw[c,ZVg,Ya,wE [] _ (fun _=>false) (fun x hx=>by cases hx) (by simp)]
  simp
 ·rw[m29 m f.union hm c,Ya,wE _ _ (fun g=>!decide (g.num=f.num)&&BZ v.slots g.num) (fun g _=>ZPe g f v h) (D4 (L9 _ _) hm)]
  rw[List.any_filter]
  simp[c,Bool.and_assoc]
theorem ZSJ(m:Msg)(a:List Slt)(b:Val)(hm:m.fields.length≤1048576)(d:a.length≤1048576)(c:b.slots.length≤4194304):Pq a (fun z0=>PC z0 m b)=some (a.filter fun x=>!Ee m.fields (Ba m.fields x.num) b.slots):=
 n41 a _ (fun x=>Ee m.fields (Ba m.fields x.num) b.slots) (fun x _=>by
  dsimp only[PC,bG,wg,lr,cl]
  rw[n43 m x.num hm,Ya,show(BV m.fields x.num).1=Ba m.fields x.num from rfl,ZPu m _ b hm c]
  rfl) (by omega)
theorem ZO8(x y:List Val)(hx:x.length≤1048576)(hy:y.length≤1048576):Vg [x,y]=some (x++y):=by
 have e:(Am:Nat)=(Am-3)+1+1+1:=by have:=A1 (n:=10) (by omega);omega
 have f:Ak (In [x,y]) Am (0,0)=some (.inl (x.length+y.length)):=by
  have d:x.length<9223372036854775808:=by omega
  have w2:x.length+y.length<9223372036854775808:=by omega
  have i:¬((x.length:Nat):Int)<0:=by omega
  have j:¬((x.length+y.length:Nat):Int)<0:=by omega
  have a:In [x,y] (0,0)=some (.nx (x.length,1)):=by dsimp only[In,RK,br,ix,vz,vs,v2,ln,Ah,wa,dd,An,br];simp[d]
  have b:In [x,y] (x.length,1)=some (.nx (x.length+y.length,2)):=by dsimp only[In,RK,br,ix,vz,vs,v2,ln,Ah,wa,dd,An,br];simp[w2];omega
  have c:In [x,y] (x.length+y.length,2)=some (.ex (x.length+y.length)):=by dsimp only[In,RK,br,ix,vz,vs,v2,ln,Ah,wa,dd,An,br];simp
  rw[e,Ak,a]
  dsimp only
  rw[Ak,b]
  dsimp only
  rw[Ak,c]
 have h:Ak (Ie [x,y]) Am ([],0)=some (.inl (x++y)):=by
  have d:x.length<549755813888:=by omega
  have w2:x.length+y.length<549755813888:=by omega
  have a:Ie [x,y] ([],0)=some (.nx (x,1)):=by dsimp only[Ie,RE,br,ix,vz,vs,ln,Ah,aq,wa,fl,br];simp[d]
  have b:Ie [x,y] (x,1)=some (.nx (x++y,2)):=by dsimp only[Ie,RE,br,ix,vz,vs,ln,Ah,aq,wa,fl,br];simp[w2]
  have c:Ie [x,y] (x++y,2)=some (.ex (x++y)):=by dsimp only[Ie,RE,br,ix,vz,vs,ln,Ah,aq,wa,fl,br];simp
  rw[e,Ak,a]
  dsimp only
  rw[Ak,b]
  dsimp only
  rw[Ak,c]
 have g:x.length+y.length<549755813888:=by omega
 dsimp only[Vg,fB,bx,bK,gM,b0,e9,vz,vw,lr,lc,mv,fl,An]
 rw[f,Ya]
 simp only[CG,kJ,g,Yt,Ya]
 rw[h]
 rfl
theorem ZN6(x y:List Pr)(hx:x.length≤1048576)(hy:y.length≤1048576):Vk [x,y]=some (x++y):=by
 have e:(Am:Nat)=(Am-3)+1+1+1:=by have:=A1 (n:=10) (by omega);omega
 have f:Ak (H4 [x,y]) Am (0,0)=some (.inl (x.length+y.length)):=by
  have d:x.length<9223372036854775808:=by omega
  have w2:x.length+y.length<9223372036854775808:=by omega
  have i:¬((x.length:Nat):Int)<0:=by omega
  have j:¬((x.length+y.length:Nat):Int)<0:=by omega
  have a:H4 [x,y] (0,0)=some (.nx (x.length,1)):=by dsimp only[H4,Rm,br,ix,vz,vs,v2,ln,Ah,wa,dd,An,br];simp[d]
  have b:H4 [x,y] (x.length,1)=some (.nx (x.length+y.length,2)):=by dsimp only[H4,Rm,br,ix,vz,vs,v2,ln,Ah,wa,dd,An,br];simp[w2];omega
  have c:H4 [x,y] (x.length+y.length,2)=some (.ex (x.length+y.length)):=by dsimp only[H4,Rm,br,ix,vz,vs,v2,ln,Ah,wa,dd,An,br];simp
  rw[e,Ak,a]
  dsimp only
  rw[Ak,b]
  dsimp only
  rw[Ak,c]
 have h:Ak (Il [x,y]) Am ([],0)=some (.inl (x++y)):=by
  have d:x.length<549755813888:=by omega
  have w2:x.length+y.length<549755813888:=by omega
  have a:Il [x,y] ([],0)=some (.nx (x,1)):=by dsimp only[Il,RR,br,ix,vz,vs,ln,Ah,aq,wa,fl,br];simp[d]
  have b:Il [x,y] (x,1)=some (.nx (x++y,2)):=by dsimp only[Il,RR,br,ix,vz,vs,ln,Ah,aq,wa,fl,br];simp[w2]
  have c:Il [x,y] (x++y,2)=some (.ex (x++y)):=by dsimp only[Il,RR,br,ix,vz,vs,ln,Ah,aq,wa,fl,br];simp
  rw[e,Ak,a]
  dsimp only
  rw[Ak,b]
  dsimp only
  rw[Ak,c]
 have g:x.length+y.length<549755813888:=by omega
 dsimp only[Vk,di,b5,fc,bR,gP,gf,vz,vw,lr,lc,mv,fl,An]
 rw[f,Ya]
 simp only[CG,kQ,g,Yt,Ya]
 rw[h]
 rfl
theorem ZNP(x y:List Raw)(hx:x.length≤1048576)(hy:y.length≤1048576):Vy [x,y]=some (x++y):=by
 have e:(Am:Nat)=(Am-3)+1+1+1:=by have:=A1 (n:=10) (by omega);omega
 have f:Ak (Ik [x,y]) Am (0,0)=some (.inl (x.length+y.length)):=by
  have d:x.length<9223372036854775808:=by omega
  have w2:x.length+y.length<9223372036854775808:=by omega
  have i:¬((x.length:Nat):Int)<0:=by omega
  have j:¬((x.length+y.length:Nat):Int)<0:=by omega
  have a:Ik [x,y] (0,0)=some (.nx (x.length,1)):=by dsimp only[Ik,RV,br,ix,vz,vs,v2,ln,Ah,wa,dd,An,br];simp[d]
  have b:Ik [x,y] (x.length,1)=some (.nx (x.length+y.length,2)):=by dsimp only[Ik,RV,br,ix,vz,vs,v2,ln,Ah,wa,dd,An,br];simp[w2];omega
  have c:Ik [x,y] (x.length+y.length,2)=some (.ex (x.length+y.length)):=by dsimp only[Ik,RV,br,ix,vz,vs,v2,ln,Ah,wa,dd,An,br];simp
  rw[e,Ak,a]
  dsimp only
  rw[Ak,b]
  dsimp only
  rw[Ak,c]
 have h:Ak (Ip [x,y]) Am ([],0)=some (.inl (x++y)):=by
  have d:x.length<549755813888:=by omega
  have w2:x.length+y.length<549755813888:=by omega
  have a:Ip [x,y] ([],0)=some (.nx (x,1)):=by dsimp only[Ip,RN,br,ix,vz,vs,ln,Ah,aq,wa,fl,br];simp[d]
  have b:Ip [x,y] (x,1)=some (.nx (x++y,2)):=by dsimp only[Ip,RN,br,ix,vz,vs,ln,Ah,aq,wa,fl,br];simp[w2]
  have c:Ip [x,y] (x++y,2)=some (.ex (x++y)):=by dsimp only[Ip,RN,br,ix,vz,vs,ln,Ah,aq,wa,fl,br];simp
  rw[e,Ak,a]
  dsimp only
  rw[Ak,b]
  dsimp only
  rw[Ak,c]
 have g:x.length+y.length<549755813888:=by omega
 dsimp only[Vy,a7,eK,dU,fI,cS,gp,vz,vw,lr,lc,mv,fl,An]
 rw[f,Ya]
 simp only[CG,kG,g,Yt,Ya]
 rw[h]
 rfl
theorem ZKY{a b:ByteArray}(h:a.toList=b.toList):a=b:=by
 rw[ByteArray.toList_eq,ByteArray.toList_eq]at h
 exact ByteArray.ext (Db h)
theorem Io{a b:ByteArray}:EQ a b<0↔a.toList<b.toList:=by
 have e:BL a b=true↔a.toList<b.toList:=by unfold BL;rw[Go.Proofs.bytesLess_eq,YE]
 rw[←e]
 unfold EQ
 cases h:BL a b with
 |true=>simp
 |false=>by_cases c:a=b<;>simp[c]
theorem ZG5{α:Type}(k:α→ByteArray):CmpLaw fun x y:α=>EQ (k x) (k y):=by
 constructor
 ·intro x y w a b
  exact Io.2 (List.lt_trans (Io.1 a) (Io.1 b))
 ·intro x y w a b e
  have c:=fun h=>a (Io.2 h)
  have d:=fun h=>b (Io.2 h)
  exact List.le_trans (Tb.1 d) (Tb.1 c) (Io.1 e)
 ·intro x h
  exact List.lt_irrefl _ (Io.1 h)
theorem ZRB{a b:ByteArray}:EQ a b=0↔¬EQ a b<0∧¬EQ b a<0:=by
 constructor
 ·intro h
  have e:a=b:=Y0 (by rw[←wv,h];rfl)
  subst e
  exact⟨by omega,by omega⟩
 ·rintro⟨c,d⟩
  have e:a=b:=ZKY (List.le_antisymm (Tb.1 fun h=>d (Io.2 h)) (Tb.1 fun h=>c (Io.2 h)))
  exact Y0 (by rw[wv];exact Yn e)
theorem bv{a b:Int}:BS a b=0↔¬BS a b<0∧¬BS b a<0:=by
 unfold BS
 grind
def IN(k:Int)(a b:Val):Int:=if k=7∨k=8 then EQ a.text b.text else if k=2∨k=3 then BS (IntKind.u64.wrap (a.bits+9223372036854775808)) (IntKind.u64.wrap (b.bits+9223372036854775808))else if k=6 then BS (GU a.bits.toNat) (GU b.bits.toNat)else BS a.bits b.bits
theorem lC(k:Int):CmpLaw (IN k):=by
 unfold IN
 split
 ·exact ZG5 Val.text
 ·split
  ·exact M7 fun v:Val=>IntKind.u64.wrap (v.bits+9223372036854775808)
  ·split
   ·exact M7 fun v:Val=>((GU v.bits.toNat:Nat):Int)
   ·exact M7 Val.bits
theorem ZRT(k:Int)(a b:Val):IN k a b=0↔¬IN k a b<0∧¬IN k b a<0:=by
 unfold IN
 split
 ·exact ZRB
 ·split
  ·exact bv
  ·split
   ·exact bv
   ·exact bv
theorem mM(a b:Val):Ca a b=if a.kind≠b.kind then BS a.kind b.kind else IN a.kind a b:=rfl
theorem Ic(a b:Val):Ca a b<0↔a.kind<b.kind∨(a.kind=b.kind∧IN a.kind a b<0):=by
 rw[mM]
 by_cases e:a.kind=b.kind
 ·simp[e]
 ·have h:BS a.kind b.kind<0↔a.kind<b.kind:=by unfold BS;grind
  simp[e,h]
theorem l0:CmpLaw Ca:=by
 constructor
 ·intro x y w
  rw[Ic,Ic,Ic]
  rintro(b|⟨a,b⟩) (c|⟨f,c⟩)
  ·exact .inl (by omega)
  ·exact .inl (by omega)
  ·exact .inl (by omega)
  ·exact .inr ⟨a.trans f,(lC _).tr x y w b (by rw[a];exact c)⟩
 ·intro x y w
  rw[Ic,Ic,Ic]
  intro b c d
  have a1:¬x.kind<y.kind:=fun h=>b (.inl h)
  have g:¬y.kind<w.kind:=fun h=>c (.inl h)
  rcases d with d|⟨e,d⟩
  ·omega
  ·have a:x.kind=y.kind:=by omega
   exact(lC _).ng x y w (fun h=>b (.inr ⟨a,h⟩)) (fun h=>c (.inr ⟨by omega,by rw[←a];exact h⟩)) d
 ·intro x
  rw[Ic]
  rintro(h|⟨_,h⟩)
  ·omega
  ·exact(lC _).ir x h
theorem ZTg(a b:Val):Ca a b=0↔¬Ca a b<0∧¬Ca b a<0:=by
 rw[Ic,Ic]
 by_cases e:a.kind=b.kind
 ·have f:Ca a b=IN a.kind a b:=by rw[mM];simp[e]
  rw[f,ZRT]
  rw[←e]
  constructor
  ·rintro⟨c,d⟩
   exact⟨fun h=>h.elim (by omega) fun h=>c h.2,fun h=>h.elim (by omega) fun h=>d h.2⟩
  ·rintro⟨c,d⟩
   exact⟨fun h=>c (.inr ⟨rfl,h⟩),fun h=>d (.inr ⟨rfl,h⟩)⟩
 ·have f:Ca a b=BS a.kind b.kind:=by rw[mM];simp[e]
  rw[f]
  constructor
  ·intro h
   exfalso
   unfold BS at h
   grind
  ·rintro⟨c,d⟩
   exfalso
   have a1:¬a.kind<b.kind:=fun h=>c (.inl h)
   have g:¬b.kind<a.kind:=fun h=>d (.inl h)
   omega
def Bt(x y:Pr):Int:=Ca x.key y.key
theorem Ha:CmpLaw Bt:=⟨fun x y w=>l0.tr x.key y.key w.key,fun x y w=>l0.ng x.key y.key w.key,fun x=>l0.ir x.key⟩
theorem Nx(x y:Pr):Bt x y=0↔¬Bt x y<0∧¬Bt y x<0:=ZTg x.key y.key
theorem ZAX{x y w:Pr}(a:Bt x y<0)(b:¬Bt w y<0):Bt x w<0:=Decidable.byContradiction fun h=>Ha.ng x w y h b a
theorem ZMg(x y:Pr)(a:Bt x y<0)(b:Bt y x<0):False:=Ha.ir x (Ha.tr x y x a b)
theorem ZIO{x y w:Pr}(a:Bt x y=0)(b:Bt y w=0):Bt x w=0:=by
 rw[Nx]at*
 exact⟨Ha.ng _ _ _ a.1 b.1,Ha.ng _ _ _ b.2 a.2⟩
def IA(l:List Pr):Prop:=l.Pairwise fun x y=>Bt x y<0
theorem ZzG{a b:List Pr}(c:IA a)(d:IA b)(h:∀x,x∈a↔x∈b):a=b:=by
 have f:∀{l:List Pr},IA l→l.Nodup:=fun hl=>hl.imp fun {x y} h e=>by subst e;exact Ha.ir _ h
 exact lm ZMg c d ((List.perm_ext_iff_of_nodup (f c) (f d)).2 h)
def ZV6(l:List Pr)(x:Pr):Prop:=∃j:Nat,l[j]?=some x∧∀(k:Nat) (y:Pr),l[k]?=some y→Bt x y=0→k≤j
theorem Zll(q:Pr)(out:List Pr)(p:Pr):F5 (q::out) p=if Bt q p<0 then q::F5 out p else p::q::out:=by
 unfold F5 IJ
 rw[Z7]
 by_cases h:Bt q p<0
 ·have a:Ca q.key p.key<0:=h
  rw[Yj h,Yn a]
  rfl
 ·have a:¬Ca q.key p.key<0:=h
  rw[Ym h,Ys a]
  rfl
theorem Zn7{out:List Pr}{p x:Pr}:x∈F5 out p↔x=p∨x∈out:=by
 induction out with
 |nil=>exact Yw
 |cons q out a=>
  rw[Zll]
  split
  ·rw[Yw,a,Yw]
   grind
  ·exact Yw
theorem Zy0{out:List Pr}{p:Pr}(h:IA out)(b:∀x∈out,¬Bt x p=0):IA (F5 out p):=by
 induction out with
 |nil=>exact OA _ _
 |cons q out g=>
  obtain⟨a,f⟩:=Y8.1 h
  rw[Zll]
  split
  ·rename_i c
   refine Y8.2 ⟨fun x hx=>?_,g f fun x hx=>b x (Yz _ hx)⟩
   rcases Zn7.1 hx with rfl|hx
   ·exact c
   ·exact a x hx
  ·rename_i c
   have d:Bt p q<0:=Decidable.byContradiction fun e=>b q YD ((Nx q p).2 ⟨c,e⟩)
   refine Y8.2 ⟨fun x hx=>?_,h⟩
   rcases Yw.1 hx with rfl|hx
   ·exact d
   ·exact Ha.tr p q x d (a x hx)
theorem kT(l:List Pr):∀i:Nat,IA (CC l i)∧∀x,x∈CC l i↔∃j:Nat,j<i∧l[j]?=some x∧∀(k:Nat) (y:Pr),l[k]?=some y→Bt x y=0→k≤j
 |0=>⟨.nil,fun x=>Iff.intro (fun h=>by cases h) fun⟨j,h,_⟩=>absurd h (Y1 j)⟩
 |i+1=>by
  obtain⟨o,g⟩:=kT l i
  unfold CC
  cases e:l[i]? with
  |none=>
   refine⟨o,fun x=>(g x).trans ?_⟩
   constructor
   ·rintro⟨j,a,b⟩
    exact⟨j,by omega,b⟩
   ·rintro⟨j,a,b⟩
    have:j≠i:=fun n=>by rw[n,e]at b;cases b.1
    exact⟨j,by omega,b⟩
  |some q=>
   have r:((l.drop (i+1)).any fun x=>decide (Ca q.key x.key=0))=true↔∃(k:Nat) (y:Pr),i<k∧l[k]?=some y∧Bt q y=0:=by
    rw[YU]
    constructor
    ·rintro⟨y,hy,a⟩
     obtain⟨k,m⟩:=YL.1 hy
     rw[YZ]at m
     exact⟨i+1+k,y,by omega,m,Y0 a⟩
    ·rintro⟨k,y,a,b,c⟩
     refine⟨y,YL.2 ⟨k-(i+1),?_⟩,Yn c⟩
     rw[YZ,show i+1+(k-(i+1))=k by omega]
     exact b
   dsimp only
   split
   ·rename_i c
    obtain⟨z,A,a0,s,t⟩:=r.1 c
    refine⟨o,fun x=>(g x).trans ?_⟩
    constructor
    ·rintro⟨j,a,b⟩
     exact⟨j,by omega,b⟩
    ·rintro⟨j,a,d,f⟩
     have:j≠i:=fun n=>by
      subst n
      rw[e]at d
      cases d
      have:=f z A s t
      omega
     exact⟨j,by omega,d,f⟩
   ·rename_i c
    have v:∀x∈CC l i,¬Bt x q=0:=fun x hx w=>by
     obtain⟨j,a,_,b⟩:=(g x).1 hx
     have:=b i q e w
     omega
    refine⟨Zy0 o v,fun x=>?_⟩
    rw[Zn7,g]
    constructor
    ·rintro(rfl|⟨j,a,b⟩)
     ·refine⟨i,YM _,e,fun k y m hy=>?_⟩
      exact Nat.le_of_not_lt fun p=>c (r.2 ⟨k,y,p,m,hy⟩)
     ·exact⟨j,by omega,b⟩
    ·rintro⟨j,a,d,f⟩
     by_cases u:j=i
     ·subst u
      rw[e]at d
      cases d
      exact .inl rfl
     ·exact .inr ⟨j,by omega,d,f⟩
theorem Zx1(l:List Pr):IA (IG l):=(kT l l.length).1
theorem ZBD{l:List Pr}{x:Pr}:x∈IG l↔ZV6 l x:=by
 refine((kT l l.length).2 x).trans ?_
 constructor
 ·rintro⟨j,_,b⟩
  exact⟨j,b⟩
 ·rintro⟨j,b⟩
  exact⟨j,(Yd.1 b.1).1,b⟩
def EH:List Pr→List Pr
 |[]=>[]
 |[p]=>[p]
 |p::q::l=>if Bt p q=0 then EH (q::l)else p::EH (q::l)
theorem zO:∀r:List (Pr×Nat),r.Pairwise (Ge Bt)→IA (EH (r.map (·.1)))∧∀x,x∈EH (r.map (·.1))↔∃j,(x,j)∈r∧∀y k,(y,k)∈r→Bt x y=0→k≤j
 |[],_=>⟨.nil,fun x=>Iff.intro (fun h=>by cases h) fun⟨j,h,_⟩=>by cases h⟩
 |[(p,i)],_=>by
  refine⟨OA _ _,fun x=>?_⟩
  show x∈[p]↔_
  rw[Y4]
  constructor
  ·rintro rfl
   refine⟨i,Y4.2 rfl,fun y k h _=>?_⟩
   cases Y4.1 h
   exact Yf _
  ·rintro⟨j,h,_⟩
   cases Y4.1 h
   rfl
 |(p,i)::(q,j)::r,h=>by
  obtain⟨t,o⟩:=Y8.1 h
  obtain⟨n,g⟩:=zO ((q,j)::r) o
  have m:=t (q,j) YD
  show IA (if Bt p q=0 then EH (((q,j)::r).map (·.1))else p::EH (((q,j)::r).map (·.1)))∧∀x,x∈(if Bt p q=0 then EH (((q,j)::r).map (·.1))else p::EH (((q,j)::r).map (·.1)))↔_
  by_cases c:Bt p q=0
  ·rw[Yj c]
   have u:i<j:=by
    rcases m with a|⟨_,a⟩
    ·exact absurd a ((Nx p q).1 c).1
    ·exact a
   refine⟨n,fun x=>(g x).trans ?_⟩
   constructor
   ·rintro⟨k,a,b⟩
    refine⟨k,Yz _ a,fun y l hy e=>?_⟩
    rcases Yw.1 hy with hy|hy
    ·cases hy
     have:=b q j YD (ZIO e c)
     omega
    ·exact b y l hy e
   ·rintro⟨k,a,b⟩
    rcases Yw.1 a with a|a
    ·cases a
     have:=b q j (Yz _ YD) c
     omega
    ·exact⟨k,a,fun y l hy e=>b y l (Yz _ hy) e⟩
  ·rw[Ym c]
   have f:Bt p q<0:=by
    rcases m with a|⟨a,_⟩
    ·exact a
    ·exact Decidable.byContradiction fun s=>c ((Nx p q).2 ⟨s,a⟩)
   have d:∀y k,(y,k)∈(q,j)::r→Bt p y<0:=fun y k hy=>by
    rcases Yw.1 hy with hy|hy
    ·cases hy
     exact f
    ·rcases(Y8.1 o).1 (y,k) hy with a|⟨a,_⟩
     ·exact Ha.tr _ _ _ f a
     ·exact ZAX f a
   refine⟨Y8.2 ⟨fun x hx=>?_,n⟩,fun x=>?_⟩
   ·obtain⟨k,a,_⟩:=(g x).1 hx
    exact d x k a
   ·rw[Yw,g]
    constructor
    ·rintro(rfl|⟨k,a,b⟩)
     ·refine⟨i,YD,fun y k hy e=>?_⟩
      rcases Yw.1 hy with hy|hy
      ·cases hy
       exact Yf _
      ·exact absurd (d y k hy) ((Nx _ _).1 e).1
     ·refine⟨k,Yz _ a,fun y l hy e=>?_⟩
      rcases Yw.1 hy with hy|hy
      ·cases hy
       exact absurd (d x k a) ((Nx _ _).1 e).2
      ·exact b y l hy e
    ·rintro⟨k,a,b⟩
     rcases Yw.1 a with a|a
     ·cases a
      exact .inl rfl
     ·exact .inr ⟨k,a,fun y l hy e=>b y l (Yz _ hy) e⟩
theorem Zqw(l:List Pr):EH (C2 Bt l)=IG l:=by
 obtain⟨r,c,d,e⟩:=VN Ha l 0 [] .nil (fun a f=>by cases f)
 obtain⟨s1,s2⟩:=zO r d
 have c:C2 Bt l=r.map (·.1):=c
 rw[c]
 refine ZzG s1 (Zx1 l) fun x=>(s2 x).trans (Iff.trans ?_ ZBD.symm)
 have hm:∀y k,(y,k)∈r↔l[k]?=some y:=fun y k=>by
  rw[e.mem_iff,Gi]
  exact List.mem_zipIdx_iff_getElem?
 constructor
 ·rintro⟨j,a,b⟩
  exact⟨j,(hm x j).1 a,fun k y g=>b y k ((hm y k).2 g)⟩
 ·rintro⟨j,a,b⟩
  exact⟨j,(hm x j).2 a,fun y k hy=>b k y ((hm y k).1 hy)⟩
end Go.Proofs.YtjbijbkdiijhaaaGreat
