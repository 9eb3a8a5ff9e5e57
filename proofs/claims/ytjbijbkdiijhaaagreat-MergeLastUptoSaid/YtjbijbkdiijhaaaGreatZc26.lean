import Derived.Test.YtjbijbkdiijhaaaGreatZc25
import Derived.Test.YtjbijbkdiijhaaaGreatZc24
import Derived.Test.YtjbijbkdiijhaaaGreatZc23
import Derived.Test.YtjbijbkdiijhaaaGreatZc00
namespace Go.Proofs.YtjbijbkdiijhaaaGreat
set_option linter.all false
open Go Go.Eng
section
variable {α:Type} [Rw α] [Tid α]
def AQ(pf:α→α→Option Int)(cmp:α→α→Int)(l:List α):Prop:=∀x∈l,∀y∈l,pf x y=some (cmp x y)
theorem AQ.perm{pf:α→α→Option Int}{cmp:α→α→Int}{l v:List α}(h:AQ pf cmp l)(p:v.Perm l):AQ pf cmp v:=fun x hx y hy=>h x (p.mem_iff.1 hx) y (p.mem_iff.1 hy)
theorem AQ.atI{pf:α→α→Option Int}{cmp:α→α→Int}{l:List α}(h:AQ pf cmp l){i j:Nat}(hi:i<l.length)(a:j<l.length):pf (l.getD i Rw.z) (l.getD j Rw.z)=some (cmp (l.getD i Rw.z) (l.getD j Rw.z)):=by
 have e:∀k (h:k<l.length),l.getD k Rw.z=l[k]:=fun k h=>by rw[Yg,Ye h,YT]
 rw[e i hi,e j a]
 exact h _ (Gi hi) _ (Gi a)
theorem ZNw(l:List α)(a b:Nat)(pf:α→α→Option Int)(cmp:α→α→Int)(A:AQ pf cmp l)(i:Int)(hl:l.length≤4194304):∀(j:Nat) (v:List α) (N c:Nat),j<N→j<c→j<l.length→v.Perm l→
  ∃o h,EX (Rw.z:α) a cmp c j v=.inl (o,h)∧Al (Fc l (a:Int) (b:Int) pf i) N ((j:Int),v)=some (.inl h)∧h.Perm l:=by
 intro j
 induction j with
 |zero=>
  intro v N c hN y z d
  have n:=d.length_eq
  obtain⟨N,rfl⟩:∃m,N=m+1:=⟨N-1,by omega⟩
  obtain⟨c,rfl⟩:∃m,c=m+1:=⟨c-1,by omega⟩
  have g:¬(a:Int)<((0:Nat):Int):=by omega
  refine⟨0,v,by rw[EX];simp only[g,YU,Et,cond_false],?_,d⟩
  have hB:Fc l (a:Int) (b:Int) pf i (((0:Nat):Int),v)=some (.ex v):=by
   dsimp only[Fc,JR,br,vz,vs,vg,ln,Ai,HB,wi,AH,ca,Fl,st,BY,fl,br,AH]
   grind
  rw[Al,hB]
 |succ j B=>
  intro v N c hN y z d
  have n:=d.length_eq
  obtain⟨N,rfl⟩:∃m,N=m+1:=⟨N-1,by omega⟩
  obtain⟨c,rfl⟩:∃m,c=m+1:=⟨c-1,by omega⟩
  by_cases g:(a:Int)<((j+1:Nat):Int)
  ·have r:((j+1:Nat):Int)-1=(j:Int):=by omega
   have x: -9223372036854775808≤(j:Int)∧(j:Int)<9223372036854775808:=by omega
   have u:(0:Int)≤((j+1:Nat):Int)∧((j+1:Nat):Int)<(l.length:Int):=by omega
   have w:(0:Int)≤(j:Int)∧(j:Int)<(l.length:Int):=by omega
   have e:j+1<v.length:=by omega
   have f:j<v.length:=by omega
   have p:v[j+1]?=some (v.getD (j+1) Rw.z):=by rw[Yg,Ye e];rfl
   have q:v[j]?=some (v.getD j Rw.z):=by rw[Yg,Ye f];rfl
   have s:j+1-1=j:=rfl
   have t:=(A.perm d).atI e f
   by_cases k:cmp (v.getD (j+1) Rw.z) (v.getD j Rw.z)<0
   ·obtain⟨o,h,C,D,E⟩:=B ((v.set (j+1) (v.getD j Rw.z)).set j (v.getD (j+1) Rw.z)) N c (by omega) (by omega) (by omega) ((K7 v (j+1) j e f).trans d)
    refine⟨o,h,by rw[EX];simp only[g,s,k,Yr,Ou,cond_true];exact C,?_,E⟩
    have hB:Fc l (a:Int) (b:Int) pf i (((j+1:Nat):Int),v)=some (.nx ((j:Int),(v.set (j+1) (v.getD j Rw.z)).set j (v.getD (j+1) Rw.z))):=by
     dsimp only[Fc,JR,br,vz,vs,vg,ln,Ai,HB,wi,AH,ca,Fl,st,BY,fl,br,AH]
     simp only[g,r,x,u,w,e,f,p,q,t,k,Yr,forall_const,Ck,Ou,Yv,YV,Gn,YT,Ya,OG]
    rw[Al,hB]
    exact D
   ·refine⟨j+1,v,by rw[EX];simp only[g,s,k,Yr,YU,L6,cond_false],?_,d⟩
    have hB:Fc l (a:Int) (b:Int) pf i (((j+1:Nat):Int),v)=some (.ex v):=by
     dsimp only[Fc,JR,br,vz,vs,vg,ln,Ai,HB,wi,AH,ca,Fl,st,BY,fl,br,AH]
     simp only[g,r,x,u,w,e,f,t,k,Yr,YU,forall_const,Ck,L6,Yo,Yv,YN,YV,Gn,YT]
    rw[Al,hB]
  ·refine⟨j+1,v,by rw[EX];simp only[g,YU,Et,cond_false],?_,d⟩
   have hB:Fc l (a:Int) (b:Int) pf i (((j+1:Nat):Int),v)=some (.ex v):=by
    dsimp only[Fc,JR,br,vz,vs,vg,ln,Ai,HB,wi,AH,ca,Fl,st,BY,fl,br,AH]
    simp only[g,YU,Yo,Ov,Et,Yv,YN]
   rw[Al,hB]
theorem o3(l:List α)(a b:Nat)(pf:α→α→Option Int)(cmp:α→α→Int)(k:AQ pf cmp l)(hl:l.length≤4194304)(n:b≤l.length):∀(d i:Nat) (v:List α) (N c:Nat),b-i≤d→d<N→b-i<c→v.Perm l→
  ∃j e,Gs (Rw.z:α) a b cmp c i v=.inl (j,e)∧(i<4611686018427387904→Al (Ig l (a:Int) (b:Int) pf) N ((i:Int),v)=some (.inl e))∧e.Perm l
 |d,i,v,N,c,t,hN,u,h=>by
  have o:=h.length_eq
  obtain⟨N,rfl⟩:∃m,N=m+1:=⟨N-1,by omega⟩
  obtain⟨c,rfl⟩:∃m,c=m+1:=⟨c-1,by omega⟩
  by_cases g:i<b
  ·obtain⟨d,rfl⟩:∃m,d=m+1:=⟨d-1,by omega⟩
   have f:(i:Int)<(b:Int):=by omega
   obtain⟨x,w,p,y,q⟩:=ZNw l a b pf cmp k (i:Int) hl i v Am (i+1) (A1 (by omega)) (by omega) (by omega) h
   obtain⟨j,e,r,z,s⟩:=o3 l a b pf cmp k hl n d (i+1) w N c (by omega) (by omega) (by omega) q
   refine⟨j,e,by rw[Gs];simp only[f,Yr,cond_true,p,CJ];exact r,fun hi=>?_,s⟩
   have A: -9223372036854775808≤(i:Int)+1∧(i:Int)+1<9223372036854775808:=by omega
   have hB:Ig l (a:Int) (b:Int) pf ((i:Int),v)=some (.nx ((i:Int)+1,w)):=by
    dsimp only[Ig,NR,Nw,NQ,br,vz,vs,ln,Ai,lc,wi,fl,br]
    grind
   rw[Al,hB]
   grind
  ·have f:¬(i:Int)<(b:Int):=by omega
   refine⟨i,v,by rw[Gs];simp only[f,YU,cond_false],fun _=>?_,h⟩
   have hB:Ig l (a:Int) (b:Int) pf ((i:Int),v)=some (.ex v):=by
    dsimp only[Ig,NR,Nw,NQ,br,vz,vs,ln,Ai,lc,wi,fl,br]
    grind
   rw[Al,hB]
theorem ye(l:List α)(a b:Nat)(pf:α→α→Option Int)(cmp:α→α→Int)(d:AQ pf cmp l)(hl:l.length≤4194304)(h:a≤4194304)(c:b≤l.length):Jw l (a:Int) (b:Int) pf=some (Dw Rw.z l a b cmp):=by
 obtain⟨i,k,e,f,j⟩:=o3 l a b pf cmp d hl c (b-(a+1)) (a+1) l Am (b-(a+1)+1) (Yf _) (A1 (by omega)) (by omega) (.refl _)
 have m: -9223372036854775808≤(a:Int)+1∧(a:Int)+1<9223372036854775808:=by omega
 have g:=f (by omega)
 rw[show((a+1:Nat):Int)=(a:Int)+1 from by omega]at g
 unfold Jw Dw
 rw[e]
 dsimp only[Jw,RN,RW,vz,vs,lr,lc,wi,fl]
 grind
theorem rG(l:List α)(a b:Nat)(cmp:α→α→Int)(hl:l.length≤4194304)(c:b≤l.length):(Dw (Rw.z:α) l a b cmp).Perm l:=by
 obtain⟨f,g,d,_,e⟩:=o3 l a b (fun x y=>some (cmp x y)) cmp (fun _ _ _ _=>rfl) hl c (b-(a+1)) (a+1) l (b-(a+1)+1) (b-(a+1)+1) (Yf _) (by omega) (by omega) (.refl _)
 unfold Dw
 rw[d]
 exact e
end
end Go.Proofs.YtjbijbkdiijhaaaGreat
namespace Go.Proofs.YtjbijbkdiijhaaaGreat
set_option linter.all false
open Go Go.Eng
section
variable {α:Type} [Rw α] [Tid α]
def Ue(pf:α→α→Option Int)(cmp:α→α→Int):Prop:=∀(c:Nat) (l:List α) (a m b:Nat),AQ pf cmp l→l.length≤4194304→b-a<c→a<m→m<b→b≤l.length→De c l (a:Int) (m:Int) (b:Int) pf=some (A9 Rw.z c l a m b cmp)∧(A9 (Rw.z:α) c l a m b cmp).Perm l
section
variable {pf:α→α→Option Int} {cmp:α→α→Int}
theorem uZ(l:List α)(j:AQ pf cmp l)(hl:l.length≤4194304):∀(d x y:Nat) (v:List α) (N a:Nat),l.length+1-y≤d→d<N→l.length+1-y<a→x≤l.length→v.Perm l→
  ∃x' h c,G7 (Rw.z:α) l.length cmp a x y v=.inl (x',h,c)∧Al (Iu l (l.length:Int) pf) N (x,y,v)=some (.inl (x',c))∧c.Perm l∧x'≤l.length
 |d,x,y,v,N,a,q,hN,r,hx,e=>by
  have k:=e.length_eq
  obtain⟨N,rfl⟩:∃m,N=m+1:=⟨N-1,by omega⟩
  obtain⟨a,rfl⟩:∃m,a=m+1:=⟨a-1,by omega⟩
  by_cases g:y≤l.length
  ·obtain⟨d,rfl⟩:∃m,d=m+1:=⟨d-1,by omega⟩
   have f:(y:Int)≤(l.length:Int):=by omega
   have hs:=ye v x y pf cmp (j.perm e) (by omega) (by omega) (by omega)
   have b:=(rG v x y cmp (by omega) (by omega)).trans e
   have i:=b.length_eq
   obtain⟨x',h,c,n,o,p⟩:=uZ l j hl d y (y+20) (Dw Rw.z v x y cmp) N a (by omega) (by omega) (by omega) g b
   refine⟨x',h,c,by rw[G7,Yn f,cond_true];exact n,?_,p⟩
   have s:y+20<9223372036854775808:=by omega
   have hB:Iu l (l.length:Int) pf (x,y,v)=some (.nx (y,y+20,Dw Rw.z v x y cmp)):=by
    dsimp only[Iu,NO,Nz,Nk,Np,br,vz,vs,v2,ln,Ai,lc,wa,fl,br,wm]
    grind
   rw[Al,hB]
   exact o
  ·have f:¬(y:Int)≤(l.length:Int):=by omega
   refine⟨x,y,v,by rw[G7,Yq f,cond_false],?_,e,hx⟩
   have hB:Iu l (l.length:Int) pf (x,y,v)=some (.ex (x,v)):=by
    dsimp only[Iu,NO,Nz,Nk,Np,br,vz,vs,v2,ln,Ai,lc,wa,fl,br,wm]
    grind
   rw[Al,hB]
theorem vt(k:Ue pf cmp)(l:List α)(n:AQ pf cmp l)(hl:l.length≤4194304)(s:Nat)(h:0<s)(i:s≤l.length):∀(d x y:Nat) (v:List α) (N a:Nat),l.length+1-y≤d→d<N→l.length+1-y<a→x≤l.length→y=x+2*s→v.Perm l→
  ∃x' j b,G6 (Rw.z:α) l.length cmp s a x y v=.inl (x',j,b)∧Al (Im l (l.length:Int) pf s) N (x,y,v)=some (.inl (x',b))∧b.Perm l∧x'≤l.length
 |d,x,y,v,N,a,u,hN,w,hx,hy,c=>by
  have o:=c.length_eq
  obtain⟨N,rfl⟩:∃m,N=m+1:=⟨N-1,by omega⟩
  obtain⟨a,rfl⟩:∃m,a=m+1:=⟨a-1,by omega⟩
  by_cases g:y≤l.length
  ·obtain⟨d,rfl⟩:∃m,d=m+1:=⟨d-1,by omega⟩
   have e:(y:Int)≤(l.length:Int):=by omega
   obtain⟨hs,f⟩:=k (y-x+1) v x (x+s) y (n.perm c) (by omega) (by omega) (by omega) (by omega) (by omega)
   obtain⟨x',j,b,p,q,r⟩:=vt k l n hl s h i d y (y+2*s) (A9 Rw.z (y-x+1) v x (x+s) y cmp) N a (by omega) (by omega) (by omega) g rfl (f.trans c)
   refine⟨x',j,b,by rw[G6,Yn e,cond_true];exact p,?_,r⟩
   have z:y+2*s<9223372036854775808:=by omega
   have w2:2*s<9223372036854775808:=by omega
   have A:x+s<9223372036854775808:=by omega
   have t:((y:Int)-(x:Int)+1).toNat=y-x+1:=by omega
   have hB:Im l (l.length:Int) pf s (x,y,v)=some (.nx (y,y+2*s,A9 Rw.z (y-x+1) v x (x+s) y cmp)):=by
    dsimp only[Im,Ng,NH,NC,NM,br,vz,vs,ln,Ai,lc,wa,fl,br,wm]
    grind
   rw[Al,hB]
   exact q
  ·have e:¬(y:Int)≤(l.length:Int):=by omega
   refine⟨x,y,v,by rw[G6,Yq e,cond_false],?_,c,hx⟩
   have hB:Im l (l.length:Int) pf s (x,y,v)=some (.ex (x,v)):=by
    dsimp only[Im,Ng,NH,NC,NM,br,vz,vs,ln,Ai,lc,wa,fl,br,wm]
    grind
   rw[Al,hB]
theorem eL(f:Ue pf cmp)(l:List α)(h:AQ pf cmp l)(hl:l.length≤4194304):∀(d s:Nat) (v:List α) (N a:Nat),0<s→l.length-s≤d→d<N→l.length-s<a→v.Perm l→
  ∃s' c,FF (Rw.z:α) l.length cmp a s v=.inl (s',c)∧Al (GC l (l.length:Int) pf) N (s,v)=some (.inl c)∧c.Perm l
 |d,s,v,N,a,k,B,hN,C,n=>by
  have u:=n.length_eq
  obtain⟨N,rfl⟩:∃m,N=m+1:=⟨N-1,by omega⟩
  obtain⟨a,rfl⟩:∃m,a=m+1:=⟨a-1,by omega⟩
  by_cases g:s<l.length
  ·obtain⟨d,rfl⟩:∃m,d=m+1:=⟨d-1,by omega⟩
   have e:(s:Int)<(l.length:Int):=by omega
   obtain⟨x,y,w,r,D,i,E⟩:=vt f l h hl s k (by omega) (l.length+1-2*s) 0 (2*s) v Am (l.length+1-2*s+1) (Yf _) (A1 (by omega)) (by omega) (by omega) (by omega) n
   have z:=i.length_eq
   have F:s*2<9223372036854775808:=by omega
   have w2:2*s<9223372036854775808:=by omega
   have G:x+s<9223372036854775808:=by omega
   by_cases t:x+s<l.length
   ·have b:((x+s:Nat):Int)<(l.length:Int):=by omega
    obtain⟨hs,j⟩:=f (l.length-x+1) w x (x+s) l.length (h.perm i) (by omega) (by omega) (by omega) t (by omega)
    obtain⟨s',c,o,p,q⟩:=eL f l h hl d (s*2) (A9 Rw.z (l.length-x+1) w x (x+s) l.length cmp) N a (by omega) (by omega) (by omega) (by omega) (j.trans i)
    refine⟨s',c,by rw[FF,Yn e,cond_true,r];simp only[CJ,Yn b,cond_true];exact o,?_,q⟩
    have A:((l.length:Int)-(x:Int)+1).toNat=l.length-x+1:=by omega
    have hB:GC l (l.length:Int) pf (s,v)=some (.nx (s*2,A9 Rw.z (l.length-x+1) w x (x+s) l.length cmp)):=by
     dsimp only[GC,Lp,Lj,Ll,Lt,Lq,La,Lh,LF,br,vz,vs,ln,Ai,lc,wa,fl,br,wm]
     grind
    rw[Al,hB]
    exact p
   ·have b:¬((x+s:Nat):Int)<(l.length:Int):=by omega
    obtain⟨s',c,o,p,q⟩:=eL f l h hl d (s*2) w N a (by omega) (by omega) (by omega) (by omega) i
    refine⟨s',c,by rw[FF,Yn e,cond_true,r];simp only[CJ,Yq b,cond_false];exact o,?_,q⟩
    have hB:GC l (l.length:Int) pf (s,v)=some (.nx (s*2,w)):=by
     dsimp only[GC,Lp,Lj,Ll,Lt,Lq,La,Lh,LF,br,vz,vs,ln,Ai,lc,wa,fl,br,wm]
     grind
    rw[Al,hB]
    exact p
  ·have e:¬(s:Int)<(l.length:Int):=by omega
   refine⟨s,v,by rw[FF,Yq e,cond_false],?_,n⟩
   have hB:GC l (l.length:Int) pf (s,v)=some (.ex v):=by
    dsimp only[GC,Lp,Lj,Ll,Lt,Lq,La,Lh,LF,br,vz,vs,ln,Ai,lc,wa,fl,br,wm]
    grind
   rw[Al,hB]
theorem p6(d:Ue pf cmp)(l:List α)(a:AQ pf cmp l)(hl:l.length≤4194304):FD l pf=some (Gt Rw.z l cmp):=by
 obtain⟨x,y,w,f,g,c,h⟩:=uZ l a hl (l.length+1-20) 0 20 l Am (l.length+1-20+1) (Yf _) (A1 (by omega)) (by omega) (by omega) (.refl _)
 have e:=c.length_eq
 have hs:=ye w x l.length pf cmp (a.perm c) (by omega) (by omega) (by omega)
 have b:=(rG w x l.length cmp (by omega) (by omega)).trans c
 obtain⟨s',m,i,j,k⟩:=eL d l a hl (l.length-20) 20 (Dw Rw.z w x l.length cmp) Am (l.length-20+1) (by omega) (Yf _) (A1 (by omega)) (by omega) b
 unfold FD Gt Vs
 rw[f]
 dsimp only[FD,RB,Rm,RF,vz,lr,lc,fl,BF,MF,QO,Qi,Qo,QL,vz,lr,lc,fl,MF,wm]
 grind
end
end
theorem ZQ9{n:Nat}(h:n<9223372036854775808):IntKind.u64.wrap (n:Int)=(n:Int):=by
 simp only[IntKind.wrap,IntKind.bits,IntKind.signed]
 simp
 omega
theorem ZRb{n:Nat}(h:n<9223372036854775808):IntKind.i64.wrap (n:Int)=(n:Int):=by
 simp only[IntKind.wrap,IntKind.bits,IntKind.signed]
 simp
 omega
theorem Je{x y:Nat}(h:x+y<9223372036854775808):IntKind.i64.wrap (Ak .u64 (IntKind.u64.wrap ((x:Int)+(y:Int))) 1)=(((x+y)/2:Nat):Int):=by
 rw[show(x:Int)+(y:Int)=((x+y:Nat):Int)from by omega,ZQ9 h]
 have:Ak .u64 ((x+y:Nat):Int) 1=(((x+y)/2:Nat):Int):=by
  unfold Ak
  have e:(2:Int)^(min (1:Int).toNat IntKind.u64.bits)=2:=by decide
  rw[e,Int.fdiv_eq_ediv_of_nonneg _ (by decide)]
  omega
 rw[this]
 exact ZRb (by omega)
section
variable {α:Type} [Rw α] [Tid α]
theorem ny(l:List α)(R:List α→Int→Int→Int→(α→α→Option Int)→Option (List α))(a:Nat)(pf:α→α→Option Int)(cmp:α→α→Int)(n:AQ pf cmp l)(hl:l.length≤4194304)(h:a<l.length):∀(d i j N b:Nat),j-i≤d→d<N→j-i<b→i≤j→j≤l.length→
  ∃c e,EW (Rw.z:α) l a cmp b i j=.inl (c,e)∧Al (GB l (a:Int) pf R) N ((i:Int),(j:Int))=some (.inl (c:Int))∧i≤c∧c≤j
 |d,i,j,N,b,z,hN,A,k,B=>by
  obtain⟨N,rfl⟩:∃m,N=m+1:=⟨N-1,by omega⟩
  obtain⟨b,rfl⟩:∃m,b=m+1:=⟨b-1,by omega⟩
  by_cases g:i<j
  ·obtain⟨d,rfl⟩:∃m,d=m+1:=⟨d-1,by omega⟩
   have f:(i:Int)<(j:Int):=by omega
   have s:i≤(i+j)/2:=by omega
   have t:(i+j)/2<j:=by omega
   have u:=Je (x:=i) (y:=j) (by omega)
   have D: -9223372036854775808≤(i:Int)+(j:Int)∧(i:Int)+(j:Int)<9223372036854775808:=by omega
   have r:(0:Int)≤1:=by decide
   have C:=n.atI (i:=(i+j)/2) (j:=a) (by omega) h
   by_cases q:cmp (l.getD ((i+j)/2) Rw.z) (l.getD a Rw.z)<0
   ·obtain⟨c,e,o,p,v,w⟩:=ny l R a pf cmp n hl h d ((i+j)/2+1) j N b (by omega) (by omega) (by omega) (by omega) (by omega)
    refine⟨c,e,by rw[EW,Yn f,cond_true,Yn q];exact o,?_,by omega,by omega⟩
    have hB:GB l (a:Int) pf R ((i:Int),(j:Int))=some (.nx (((((i+j)/2:Nat):Int)+1),(j:Int))):=by
     dsimp only[GB,JQ,br,vz,vs,v2,ln,Ai,cf,wi,AH,ca,fl,br,AH,wk,shr]
     grind
    rw[Al,hB]
    exact p
   ·obtain⟨c,e,o,p,v,w⟩:=ny l R a pf cmp n hl h d i ((i+j)/2) N b (by omega) (by omega) (by omega) (by omega) (by omega)
    refine⟨c,e,by rw[EW,Yn f,cond_true,Yq q];exact o,?_,by omega,by omega⟩
    have hB:GB l (a:Int) pf R ((i:Int),(j:Int))=some (.nx ((i:Int),(((i+j)/2:Nat):Int))):=by
     dsimp only[GB,JQ,br,vz,vs,v2,ln,Ai,cf,wi,AH,ca,fl,br,AH,wk,shr]
     grind
    rw[Al,hB]
    exact p
  ·have f:¬(i:Int)<(j:Int):=by omega
   refine⟨i,j,by rw[EW,Yq f,cond_false],?_,Yf _,k⟩
   have hB:GB l (a:Int) pf R ((i:Int),(j:Int))=some (.ex (i:Int)):=by
    dsimp only[GB,JQ,br,vz,vs,v2,ln,Ai,cf,wi,AH,ca,fl,br,AH,wk,shr]
    grind
   rw[Al,hB]
theorem mA(l:List α)(R:List α→Int→Int→Int→(α→α→Option Int)→Option (List α))(a:Nat)(pf:α→α→Option Int)(cmp:α→α→Int)(n:AQ pf cmp l)(hl:l.length≤4194304)(h:a<l.length):∀(d i j N b:Nat),j-i≤d→d<N→j-i<b→i≤j→j≤l.length→
  ∃c e,EY (Rw.z:α) l a cmp b i j=.inl (c,e)∧Al (GF l (a:Int) pf R) N ((i:Int),(j:Int))=some (.inl (c:Int))∧i≤c∧c≤j
 |d,i,j,N,b,z,hN,A,k,B=>by
  obtain⟨N,rfl⟩:∃m,N=m+1:=⟨N-1,by omega⟩
  obtain⟨b,rfl⟩:∃m,b=m+1:=⟨b-1,by omega⟩
  by_cases g:i<j
  ·obtain⟨d,rfl⟩:∃m,d=m+1:=⟨d-1,by omega⟩
   have f:(i:Int)<(j:Int):=by omega
   have s:i≤(i+j)/2:=by omega
   have t:(i+j)/2<j:=by omega
   have u:=Je (x:=i) (y:=j) (by omega)
   have D: -9223372036854775808≤(i:Int)+(j:Int)∧(i:Int)+(j:Int)<9223372036854775808:=by omega
   have r:(0:Int)≤1:=by decide
   have C:=n.atI (i:=a) (j:=(i+j)/2) h (by omega)
   by_cases q:cmp (l.getD a Rw.z) (l.getD ((i+j)/2) Rw.z)<0
   ·obtain⟨c,e,o,p,v,w⟩:=mA l R a pf cmp n hl h d i ((i+j)/2) N b (by omega) (by omega) (by omega) (by omega) (by omega)
    refine⟨c,e,by rw[EY,Yn f,cond_true,Yn q];exact o,?_,by omega,by omega⟩
    have hB:GF l (a:Int) pf R ((i:Int),(j:Int))=some (.nx ((i:Int),(((i+j)/2:Nat):Int))):=by
     dsimp only[GF,JL,br,vz,vs,ln,Ai,cf,wi,AH,ca,fl,br,AH,wk,shr]
     grind
    rw[Al,hB]
    exact p
   ·obtain⟨c,e,o,p,v,w⟩:=mA l R a pf cmp n hl h d ((i+j)/2+1) j N b (by omega) (by omega) (by omega) (by omega) (by omega)
    refine⟨c,e,by rw[EY,Yn f,cond_true,Yq q];exact o,?_,by omega,by omega⟩
    have hB:GF l (a:Int) pf R ((i:Int),(j:Int))=some (.nx (((((i+j)/2:Nat):Int)+1),(j:Int))):=by
     dsimp only[GF,JL,br,vz,vs,ln,Ai,cf,wi,AH,ca,fl,br,AH,wk,shr]
     grind
    rw[Al,hB]
    exact p
  ·have f:¬(i:Int)<(j:Int):=by omega
   refine⟨i,j,by rw[EY,Yq f,cond_false],?_,Yf _,k⟩
   have hB:GF l (a:Int) pf R ((i:Int),(j:Int))=some (.ex (i:Int)):=by
    dsimp only[GF,JL,br,vz,vs,ln,Ai,cf,wi,AH,ca,fl,br,AH,wk,shr]
    grind
   rw[Al,hB]
end
section
variable {α:Type} [Rw α] [Tid α]
theorem sZ(l:List α)(R:List α→Int→Int→Int→(α→α→Option Int)→Option (List α))(pf:α→α→Option Int)(a0:Nat×Nat)(hl:l.length≤4194304)(h:1≤a0.1)(j:a0.1≤l.length):∀(d i:Nat) (v:List α) (N a:Nat),a0.1-1-i≤d→d<N→a0.1-1-i<a→v.Perm l→i≤l.length→
  ∃f b,Gq (Rw.z:α) a0 a i v=.inl (f,b)∧Al (Ik l pf R (a0.1:Int)) N ((i:Int),v)=some (.inl b)∧b.Perm l
 |d,i,v,N,a,u,hN,w,e,hi=>by
  have k:=e.length_eq
  obtain⟨N,rfl⟩:∃m,N=m+1:=⟨N-1,by omega⟩
  obtain⟨a,rfl⟩:∃m,a=m+1:=⟨a-1,by omega⟩
  have t:(a0.1:Int)-1=((a0.1-1:Nat):Int):=by omega
  have B: -9223372036854775808≤((a0.1-1:Nat):Int)∧((a0.1-1:Nat):Int)<9223372036854775808:=by omega
  by_cases g:i<a0.1-1
  ·obtain⟨d,rfl⟩:∃m,d=m+1:=⟨d-1,by omega⟩
   have c:(i:Int)<((a0.1-1:Nat):Int):=by omega
   obtain⟨f,b,p,q,r⟩:=sZ l R pf a0 hl h j d (i+1) ((v.set i (v.getD (i+1) Rw.z)).set (i+1) (v.getD i Rw.z)) N a (by omega) (by omega) (by omega) ((K7 v i (i+1) (by omega) (by omega)).trans e) (by omega)
   refine⟨f,b,by rw[Gq,Yn c,cond_true];exact p,?_,r⟩
   have s:(i:Int)+1=((i+1:Nat):Int):=by omega
   have A: -9223372036854775808≤((i+1:Nat):Int)∧((i+1:Nat):Int)<9223372036854775808:=by omega
   have x:(0:Int)≤(i:Int)∧(i:Int)<(l.length:Int):=by omega
   have y:(0:Int)≤((i+1:Nat):Int)∧((i+1:Nat):Int)<(l.length:Int):=by omega
   have n:i<v.length:=by omega
   have o:i+1<v.length:=by omega
   have z:v[i]?=some (v.getD i Rw.z):=by rw[Yg,Ye n];rfl
   have v2:v[i+1]?=some (v.getD (i+1) Rw.z):=by rw[Yg,Ye o];rfl
   have hB:Ik l pf R (a0.1:Int) ((i:Int),v)=some (.nx (((i+1:Nat):Int),(v.set i (v.getD (i+1) Rw.z)).set (i+1) (v.getD i Rw.z))):=by
    dsimp only[Ik,LB,br,vz,vs,ln,Ai,wi,AH,ca,st,BY,fl,br,AH,wk,shr]
    grind
   rw[Al,hB]
   exact q
  ·have c:¬(i:Int)<((a0.1-1:Nat):Int):=by omega
   refine⟨i,v,by rw[Gq,Yq c,cond_false],?_,e⟩
   have hB:Ik l pf R (a0.1:Int) ((i:Int),v)=some (.ex v):=by
    dsimp only[Ik,LB,br,vz,vs,ln,Ai,wi,AH,ca,st,BY,fl,br,AH,wk,shr]
    grind
   rw[Al,hB]
theorem ZN0(l:List α)(R:List α→Int→Int→Int→(α→α→Option Int)→Option (List α))(pf:α→α→Option Int)(b:Nat×Nat)(hl:l.length≤4194304):∀(i:Nat) (v:List α) (N a:Nat),i<N→i<a→v.Perm l→i<l.length→
  ∃g e,FA (Rw.z:α) b a i v=.inl (g,e)∧Al (GG l pf R (b.1:Int)) N ((i:Int),v)=some (.inl e)∧e.Perm l:=by
 intro i
 induction i with
 |zero=>
  intro v N a hN n d hi
  have f:=d.length_eq
  obtain⟨N,rfl⟩:∃m,N=m+1:=⟨N-1,by omega⟩
  obtain⟨a,rfl⟩:∃m,a=m+1:=⟨a-1,by omega⟩
  have c:¬(b.1:Int)<((0:Nat):Int):=by omega
  refine⟨0,v,by rw[FA,Yq c,cond_false],?_,d⟩
  have hB:GG l pf R (b.1:Int) (((0:Nat):Int),v)=some (.ex v):=by
   dsimp only[GG,JZ,br,vz,vs,ln,Ai,wi,AH,ca,st,BY,fl,br,AH,wk,shr]
   grind
  rw[Al,hB]
 |succ i o=>
  intro v N a hN n d hi
  have f:=d.length_eq
  obtain⟨N,rfl⟩:∃m,N=m+1:=⟨N-1,by omega⟩
  obtain⟨a,rfl⟩:∃m,a=m+1:=⟨a-1,by omega⟩
  by_cases c:(b.1:Int)<((i+1:Nat):Int)
  ·obtain⟨g,e,p,q,r⟩:=o ((v.set (i+1) (v.getD i Rw.z)).set i (v.getD (i+1) Rw.z)) N a (by omega) (by omega) ((K7 v (i+1) i (by omega) (by omega)).trans d) (by omega)
   refine⟨g,e,by rw[FA,Yn c,cond_true];exact p,?_,r⟩
   have k:((i+1:Nat):Int)-1=(i:Int):=by omega
   have w: -9223372036854775808≤(i:Int)∧(i:Int)<9223372036854775808:=by omega
   have s:(0:Int)≤(i:Int)∧(i:Int)<(l.length:Int):=by omega
   have t:(0:Int)≤((i+1:Nat):Int)∧((i+1:Nat):Int)<(l.length:Int):=by omega
   have h:i<v.length:=by omega
   have j:i+1<v.length:=by omega
   have u:v[i]?=some (v.getD i Rw.z):=by rw[Yg,Ye h];rfl
   have v2:v[i+1]?=some (v.getD (i+1) Rw.z):=by rw[Yg,Ye j];rfl
   have hB:GG l pf R (b.1:Int) (((i+1:Nat):Int),v)=some (.nx ((i:Int),(v.set (i+1) (v.getD i Rw.z)).set i (v.getD (i+1) Rw.z))):=by
    dsimp only[GG,JZ,br,vz,vs,ln,Ai,wi,AH,ca,st,BY,fl,br,AH,wk,shr]
    simp only[c,k,w,s,t,h,j,u,v2,Yr,Yv,Ck,YV,Ya,OG]
   rw[Al,hB]
   exact q
  ·refine⟨i+1,v,by rw[FA,Yq c,cond_false],?_,d⟩
   have hB:GG l pf R (b.1:Int) (((i+1:Nat):Int),v)=some (.ex v):=by
    dsimp only[GG,JZ,br,vz,vs,ln,Ai,wi,AH,ca,st,BY,fl,br,AH,wk,shr]
    simp only[c,YU,Yo,YN]
   rw[Al,hB]
end
section
variable {α:Type} [Rw α] [Tid α]
theorem lx(l:List α)(R:List α→Int→Int→Int→(α→α→Option Int)→Option (List α))(a m b:Nat)(pf:α→α→Option Int)(cmp:α→α→Int)(p:AQ pf cmp l)(hl:l.length≤4194304)(s:a<m)(t:m<b)(u:b≤l.length):∀(d i j N c:Nat),j-i≤d→d<N→j-i<c→i≤j→j≤(a+b)/2+m∧j≤l.length→(a+b)/2+m≤l.length+i→
  ∃e f,Fy (Rw.z:α) l a m b cmp c i j=.inl (e,f)∧Al (Dq l (a:Int) (m:Int) (b:Int) pf R) N ((i:Int),(j:Int))=some (.inl (e:Int))∧i≤e∧e≤j
 |d,i,j,N,c,D,hN,E,o,F,hi=>by
  obtain⟨N,rfl⟩:∃m,N=m+1:=⟨N-1,by omega⟩
  obtain⟨c,rfl⟩:∃m,c=m+1:=⟨c-1,by omega⟩
  by_cases g:i<j
  ·obtain⟨d,rfl⟩:∃m,d=m+1:=⟨d-1,by omega⟩
   have n:(i:Int)<(j:Int):=by omega
   have z:i≤(i+j)/2:=by omega
   have A:(i+j)/2<j:=by omega
   have k:=Je (x:=i) (y:=j) (by omega)
   have h:=Je (x:=a) (y:=b) (by omega)
   have e0:(((a+b)/2:Nat):Int)+(m:Int)-1=(((a+b)/2+m-1:Nat):Int):=by omega
   have H: -9223372036854775808≤(i:Int)+(j:Int)∧(i:Int)+(j:Int)<9223372036854775808:=by omega
   have w:(0:Int)≤1:=by decide
   have G:=p.atI (i:=(a+b)/2+m-1-(i+j)/2) (j:=(i+j)/2) (by omega) (by omega)
   by_cases v:cmp (l.getD ((a+b)/2+m-1-(i+j)/2) Rw.z) (l.getD ((i+j)/2) Rw.z)<0
   ·obtain⟨e,f,q,r,B,C⟩:=lx l R a m b pf cmp p hl s t u d i ((i+j)/2) N c (by omega) (by omega) (by omega) (by omega) (by omega) (by omega)
    refine⟨e,f,by rw[Fy,Yn n,cond_true,Yn v];exact q,?_,by omega,by omega⟩
    have hB:Dq l (a:Int) (m:Int) (b:Int) pf R ((i:Int),(j:Int))=some (.nx ((i:Int),(((i+j)/2:Nat):Int))):=by
     dsimp only[Dq,GA,br,vz,vs,ln,Ai,cf,wi,AH,ca,fl,br,AH,wk,shr]
     rw[k,h,e0]
     grind
    rw[Al,hB]
    exact r
   ·obtain⟨e,f,q,r,B,C⟩:=lx l R a m b pf cmp p hl s t u d ((i+j)/2+1) j N c (by omega) (by omega) (by omega) (by omega) (by omega) (by omega)
    refine⟨e,f,by rw[Fy,Yn n,cond_true,Yq v];exact q,?_,by omega,by omega⟩
    have hB:Dq l (a:Int) (m:Int) (b:Int) pf R ((i:Int),(j:Int))=some (.nx (((((i+j)/2:Nat):Int)+1),(j:Int))):=by
     dsimp only[Dq,GA,br,vz,vs,ln,Ai,cf,wi,AH,ca,fl,br,AH,wk,shr]
     rw[k,h,e0]
     grind
    rw[Al,hB]
    exact r
  ·have n:¬(i:Int)<(j:Int):=by omega
   refine⟨i,j,by rw[Fy,Yq n,cond_false],?_,Yf _,o⟩
   have hB:Dq l (a:Int) (m:Int) (b:Int) pf R ((i:Int),(j:Int))=some (.ex (i:Int)):=by
    dsimp only[Dq,GA,br,vz,vs,ln,Ai,cf,wi,AH,ca,fl,br,AH,wk,shr]
    grind
   rw[Al,hB]
theorem ll(l:List α)(R:List α→Int→Int→Int→(α→α→Option Int)→Option (List α))(a m b:Nat)(pf:α→α→Option Int)(cmp:α→α→Int)(p:AQ pf cmp l)(hl:l.length≤4194304)(s:a<m)(t:m<b)(u:b≤l.length):∀(d i j N c:Nat),j-i≤d→d<N→j-i<c→i≤j→j≤(a+b)/2+m∧j≤l.length→(a+b)/2+m≤l.length+i→
  ∃e f,FC (Rw.z:α) l a m b cmp c i j=.inl (e,f)∧Al (Dq l (a:Int) (m:Int) (b:Int) pf R) N ((i:Int),(j:Int))=some (.inl (e:Int))∧i≤e∧e≤j
 |d,i,j,N,c,D,hN,E,o,F,hi=>by
  obtain⟨N,rfl⟩:∃m,N=m+1:=⟨N-1,by omega⟩
  obtain⟨c,rfl⟩:∃m,c=m+1:=⟨c-1,by omega⟩
  by_cases g:i<j
  ·obtain⟨d,rfl⟩:∃m,d=m+1:=⟨d-1,by omega⟩
   have n:(i:Int)<(j:Int):=by omega
   have z:i≤(i+j)/2:=by omega
   have A:(i+j)/2<j:=by omega
   have k:=Je (x:=i) (y:=j) (by omega)
   have h:=Je (x:=a) (y:=b) (by omega)
   have e0:(((a+b)/2:Nat):Int)+(m:Int)-1=(((a+b)/2+m-1:Nat):Int):=by omega
   have H: -9223372036854775808≤(i:Int)+(j:Int)∧(i:Int)+(j:Int)<9223372036854775808:=by omega
   have w:(0:Int)≤1:=by decide
   have G:=p.atI (i:=(a+b)/2+m-1-(i+j)/2) (j:=(i+j)/2) (by omega) (by omega)
   by_cases v:cmp (l.getD ((a+b)/2+m-1-(i+j)/2) Rw.z) (l.getD ((i+j)/2) Rw.z)<0
   ·obtain⟨e,f,q,r,B,C⟩:=ll l R a m b pf cmp p hl s t u d i ((i+j)/2) N c (by omega) (by omega) (by omega) (by omega) (by omega) (by omega)
    refine⟨e,f,by rw[FC,Yn n,cond_true,Yn v];exact q,?_,by omega,by omega⟩
    have hB:Dq l (a:Int) (m:Int) (b:Int) pf R ((i:Int),(j:Int))=some (.nx ((i:Int),(((i+j)/2:Nat):Int))):=by
     dsimp only[Dq,GA,br,vz,vs,ln,Ai,cf,wi,AH,ca,fl,br,AH,wk,shr]
     rw[k,h,e0]
     grind
    rw[Al,hB]
    exact r
   ·obtain⟨e,f,q,r,B,C⟩:=ll l R a m b pf cmp p hl s t u d ((i+j)/2+1) j N c (by omega) (by omega) (by omega) (by omega) (by omega) (by omega)
    refine⟨e,f,by rw[FC,Yn n,cond_true,Yq v];exact q,?_,by omega,by omega⟩
    have hB:Dq l (a:Int) (m:Int) (b:Int) pf R ((i:Int),(j:Int))=some (.nx (((((i+j)/2:Nat):Int)+1),(j:Int))):=by
     dsimp only[Dq,GA,br,vz,vs,ln,Ai,cf,wi,AH,ca,fl,br,AH,wk,shr]
     rw[k,h,e0]
     grind
    rw[Al,hB]
    exact r
  ·have n:¬(i:Int)<(j:Int):=by omega
   refine⟨i,j,by rw[FC,Yq n,cond_false],?_,Yf _,o⟩
   have hB:Dq l (a:Int) (m:Int) (b:Int) pf R ((i:Int),(j:Int))=some (.ex (i:Int)):=by
    dsimp only[Dq,GA,br,vz,vs,ln,Ai,cf,wi,AH,ca,fl,br,AH,wk,shr]
    grind
   rw[Al,hB]
end
theorem uP{α:Type}(z:α)(c:Nat)(l:List α)(a m b:Nat)(cf:α→α→Int)(s:Nat):
  (cond ((decide (((s:Nat):Int)<((m:Nat):Int))&&decide (((m:Nat):Int)<(((((a+b)/2)+m)-s:Nat):Int)))) (cond ((decide (((a:Nat):Int)<((s:Nat):Int))&&decide (((s:Nat):Int)<(((a+b)/2:Nat):Int)))) (cond ((decide ((((a+b)/2:Nat):Int)<(((((a+b)/2)+m)-s:Nat):Int))&&decide ((((((a+b)/2)+m)-s:Nat):Int)<((b:Nat):Int)))) ((A9 z c (A9 z c (Cg z l s m ((((a+b)/2)+m)-s) cf) a s ((a+b)/2) cf) ((a+b)/2) ((((a+b)/2)+m)-s) b cf)) ((A9 z c (Cg z l s m ((((a+b)/2)+m)-s) cf) a s ((a+b)/2) cf))) (cond ((decide ((((a+b)/2:Nat):Int)<(((((a+b)/2)+m)-s:Nat):Int))&&decide ((((((a+b)/2)+m)-s:Nat):Int)<((b:Nat):Int)))) ((A9 z c (Cg z l s m ((((a+b)/2)+m)-s) cf) ((a+b)/2) ((((a+b)/2)+m)-s) b cf)) ((Cg z l s m ((((a+b)/2)+m)-s) cf)))) (cond ((decide (((a:Nat):Int)<((s:Nat):Int))&&decide (((s:Nat):Int)<(((a+b)/2:Nat):Int)))) (cond ((decide ((((a+b)/2:Nat):Int)<(((((a+b)/2)+m)-s:Nat):Int))&&decide ((((((a+b)/2)+m)-s:Nat):Int)<((b:Nat):Int)))) ((A9 z c (A9 z c l a s ((a+b)/2) cf) ((a+b)/2) ((((a+b)/2)+m)-s) b cf)) ((A9 z c l a s ((a+b)/2) cf))) (cond ((decide ((((a+b)/2:Nat):Int)<(((((a+b)/2)+m)-s:Nat):Int))&&decide ((((((a+b)/2)+m)-s:Nat):Int)<((b:Nat):Int)))) ((A9 z c l ((a+b)/2) ((((a+b)/2)+m)-s) b cf)) (l))))=FO z c l a m b cf s:=by
 unfold FO
 grind
section
variable {α:Type} [Rw α] [Tid α]
theorem sP(R:List α→Int→Int→Int→(α→α→Option Int)→Option (List α))(pf:α→α→Option Int)(cmp:α→α→Int)(n:Nat)
  (p:∀(l:List α) (a m b:Nat),AQ pf cmp l→l.length≤4194304→b-a<n→a<m→m<b→b≤l.length→R l (a:Int) (m:Int) (b:Int) pf=some (A9 Rw.z n l a m b cmp)∧(A9 (Rw.z:α) n l a m b cmp).Perm l)
  (l:List α) (o:AQ pf cmp l) (a m b s:Nat) (hl:l.length≤4194304) (J:b-a<n+1) (D:a<m) (E:m<b) (F:b≤l.length) (G:4≤b-a) (H:s≤(a+b)/2) (I:(a+b)/2+m≤b+s):
  (Nf l (a:Int) (m:Int) (b:Int) pf R (s:Int)).m=some (FO (Rw.z:α) n l a m b cmp s)∧(FO (Rw.z:α) n l a m b cmp s).Perm l:=by
 have u:=Je (x:=a) (y:=b) (by omega)
 have v:(((a+b)/2:Nat):Int)+(m:Int)-(s:Int)=(((a+b)/2+m-s:Nat):Int):=by omega
 have w: -9223372036854775808≤(((a+b)/2+m-s:Nat):Int)∧(((a+b)/2+m-s:Nat):Int)<9223372036854775808:=by omega
 have A:a<(a+b)/2:=by omega
 have B:(a+b)/2<b:=by omega
 unfold FO
 dsimp only[JQ,LB,NU,Nm,NK,JL,JZ,Nx,Ns,M6,GA,Qv,Q3,QH,Qj,Qx,QM,Qn,Ql,Q9,QY,Q6,Q8,QD,QS,Qz,Q4,QV,Qq,Qk,QW,Ra,Qr,Rb,QK,QZ,Re,Qy,QU,Qs,Qw,Q0,QE,Nf,Jz,Lk,Le,JI,JG,Hf,br,vz,vg,vs,v2,wi,wk,shr,AH,ca,Fl,cf,HB,lc,ln,lf,Ai,fl,st,BY,lr,wg]
 simp only[u,v]
 generalize (a+b)/2=h at*
 generalize h+m-s=e at*
 simp only[w,Ck,Yv]
 have C:e≤b:=by omega
 by_cases c:s<m∧m<e<;>by_cases g:a<s∧s<h<;>by_cases i:h<e∧e<b
 ·
   have q:=TR l s m e cmp hl c.1 c.2 (by omega)
   have f:=(Qe (z:=(Rw.z:α)) l s m e cmp c.1 c.2 (by omega)).2.1
   have k:=f.length_eq
   obtain⟨r,d⟩:=p (Cg (Rw.z:α) l s m e cmp) a s h (o.perm f) (by omega) (by omega) g.1 g.2 (by omega)
   obtain⟨t,j⟩:=p (A9 (Rw.z:α) n (Cg (Rw.z:α) l s m e cmp) a s h cmp) h e b (o.perm (d.trans f)) (by have:=d.length_eq;omega) (by omega) i.1 i.2 (by have:=d.length_eq;omega)
   simp only[D7 c,D7 g,D7 i,q,k,r,d.length_eq,t,j.length_eq,Yv,Ya,cond_true]
   first|exact⟨trivial,j.trans (d.trans f)⟩|exact⟨rfl,j.trans (d.trans f)⟩
 ·
   have q:=TR l s m e cmp hl c.1 c.2 (by omega)
   have f:=(Qe (z:=(Rw.z:α)) l s m e cmp c.1 c.2 (by omega)).2.1
   have k:=f.length_eq
   obtain⟨r,d⟩:=p (Cg (Rw.z:α) l s m e cmp) a s h (o.perm f) (by omega) (by omega) g.1 g.2 (by omega)
   simp only[D7 c,D7 g,D6 i,q,k,r,d.length_eq,Yo,Yv,YN,Ya,cond_true,cond_false]
   first|exact⟨trivial,d.trans f⟩|exact⟨rfl,d.trans f⟩
 ·
   have q:=TR l s m e cmp hl c.1 c.2 (by omega)
   have f:=(Qe (z:=(Rw.z:α)) l s m e cmp c.1 c.2 (by omega)).2.1
   have k:=f.length_eq
   obtain⟨t,j⟩:=p (Cg (Rw.z:α) l s m e cmp) h e b (o.perm f) (by omega) (by omega) i.1 i.2 (by omega)
   simp only[D7 c,D6 g,D7 i,q,k,t,j.length_eq,Yo,Yv,YN,Ya,cond_true,cond_false]
   first|exact⟨trivial,j.trans f⟩|exact⟨rfl,j.trans f⟩
 ·
   have q:=TR l s m e cmp hl c.1 c.2 (by omega)
   have f:=(Qe (z:=(Rw.z:α)) l s m e cmp c.1 c.2 (by omega)).2.1
   have k:=f.length_eq
   simp only[D7 c,D6 g,D6 i,q,k,Yo,Yv,YN,Ya,cond_true,cond_false]
   first|exact⟨trivial,f⟩|exact⟨rfl,f⟩
 ·
   obtain⟨r,d⟩:=p l a s h o (by omega) (by omega) g.1 g.2 (by omega)
   obtain⟨t,j⟩:=p (A9 (Rw.z:α) n l a s h cmp) h e b (o.perm d) (by have:=d.length_eq;omega) (by omega) i.1 i.2 (by have:=d.length_eq;omega)
   simp only[D6 c,D7 g,D7 i,r,d.length_eq,t,j.length_eq,Yo,Yv,YN,Ya,cond_true,cond_false]
   first|exact⟨trivial,j.trans d⟩|exact⟨rfl,j.trans d⟩
 ·
   obtain⟨r,d⟩:=p l a s h o (by omega) (by omega) g.1 g.2 (by omega)
   simp only[D6 c,D7 g,D6 i,r,d.length_eq,Yo,Yv,YN,Ya,cond_true,cond_false]
   first|exact⟨trivial,d⟩|exact⟨rfl,d⟩
 ·
   obtain⟨t,j⟩:=p l h e b o (by omega) (by omega) i.1 i.2 (by omega)
   simp only[D6 c,D6 g,D7 i,t,j.length_eq,Yo,Yv,YN,Ya,cond_true,cond_false]
   first|exact⟨trivial,j⟩|exact⟨rfl,j⟩
 simp only[D6 c,D6 g,D6 i,Yo,YN,cond_false]
 first|exact⟨trivial,.refl _⟩|exact⟨rfl,.refl _⟩
theorem nB{pf:α→α→Option Int}{cmp:α→α→Int}:Ue pf cmp:=by
 intro c
 induction c with
 |zero=>intro l a m b _ _ h;omega
 |succ c w=>
  intro l a m b d hl t f g e
  rw[A9]
  show(Hf l (a:Int) (m:Int) (b:Int) pf (De c)).m=_∧_
  have wa: -9223372036854775808≤((m-a:Nat):Int)∧((m-a:Nat):Int)<9223372036854775808:=by omega
  have P: -9223372036854775808≤((b-m:Nat):Int)∧((b-m:Nat):Int)<9223372036854775808:=by omega
  have H:(m:Int)-(a:Int)=((m-a:Nat):Int):=by omega
  have I:(b:Int)-(m:Int)=((b-m:Nat):Int):=by omega
  by_cases J:m-a=1
  ·have k:((m-a:Nat):Int)=1:=by omega
   obtain⟨i,j,p,q,r,s⟩:=ny l (De c) a pf cmp d hl (by omega) (b-m) m b Am (b-m+1) (Yf _) (A1 (by omega)) (YO _) (by omega) e
   obtain⟨z,v,B,C,D⟩:=sZ l (De c) pf (i,j) hl (show 1≤i by omega) (show i≤l.length by omega) (i-1-a) a l Am (i-a+1) (Yf _) (A1 (by omega)) (by dsimp only;omega) (.refl _) (by omega)
   dsimp only[Hf,NK,Nm,NU,br,vz,vg,vs,v2,wi,wk,shr,AH,ca,Fl,cf,HB,lc,ln,lf,Ai,fl,st,BY,lr,wg]
   grind
  ·have k:¬((m-a:Nat):Int)=1:=by omega
   by_cases K:b-m=1
   ·have n:((b-m:Nat):Int)=1:=by omega
    obtain⟨i,j,p,q,r,s⟩:=mA l (De c) m pf cmp d hl (by omega) (m-a) a m Am (m-a+1) (Yf _) (A1 (by omega)) (YO _) (by omega) (by omega)
    obtain⟨z,v,B,C,D⟩:=ZN0 l (De c) pf (i,j) hl m l Am (m+1) (A1 (by omega)) (YO _) (.refl _) (by omega)
    dsimp only[Hf,JG,JI,M6,Ns,Nx,br,vz,vg,vs,v2,wi,wk,shr,AH,ca,Fl,cf,HB,lc,ln,lf,Ai,fl,st,BY,lr,wg]
    grind
   ·have n:¬((b-m:Nat):Int)=1:=by omega
    have A:=Je (x:=a) (y:=b) (by omega)
    have M: -9223372036854775808≤(a:Int)+(b:Int)∧(a:Int)+(b:Int)<9223372036854775808:=by omega
    have F:(((a+b)/2:Nat):Int)+(m:Int)=(((a+b)/2+m:Nat):Int):=by omega
    have w2: -9223372036854775808≤(((a+b)/2+m:Nat):Int)∧(((a+b)/2+m:Nat):Int)<9223372036854775808:=by omega
    have N: -9223372036854775808≤(((a+b)/2+m:Nat):Int)-1∧(((a+b)/2+m:Nat):Int)-1<9223372036854775808:=by omega
    have u:(0:Int)≤1:=by decide
    by_cases L:(a+b)/2<m
    ·have o:(((a+b)/2:Nat):Int)<(m:Int):=by omega
     have G:(((a+b)/2+m:Nat):Int)-(b:Int)=(((a+b)/2+m-b:Nat):Int):=by omega
     have O: -9223372036854775808≤(((a+b)/2+m-b:Nat):Int)∧(((a+b)/2+m-b:Nat):Int)<9223372036854775808:=by omega
     obtain⟨i,j,p,q,r,s⟩:=lx l (De c) a m b pf cmp d hl f g e ((a+b)/2-((a+b)/2+m-b)) ((a+b)/2+m-b) ((a+b)/2) Am ((a+b)/2-((a+b)/2+m-b)+1) (Yf _) (A1 (by omega)) (YO _) (by omega) (by omega) (by omega)
     obtain⟨t1,t2⟩:=sP (De c) pf cmp c w l d a m b i hl t f g e (by omega) (by omega) (by omega)
     have E:=uP (Rw.z:α) c l a m b cmp i
     dsimp only[Hf,JG,JI,Le,Lk,Jz,br,vz,vg,vs,v2,wi,wk,shr,AH,ca,Fl,cf,HB,lc,ln,lf,Ai,fl,st,BY,lr,wg]
     grind
    ·have o:¬(((a+b)/2:Nat):Int)<(m:Int):=by omega
     obtain⟨i,j,p,q,r,s⟩:=ll l (De c) a m b pf cmp d hl f g e (m-a) a m Am (m-a+1) (Yf _) (A1 (by omega)) (YO _) (by omega) (by omega) (by omega)
     obtain⟨t1,t2⟩:=sP (De c) pf cmp c w l d a m b i hl t f g e (by omega) (by omega) (by omega)
     have E:=uP (Rw.z:α) c l a m b cmp i
     dsimp only[Hf,JG,JI,Le,Lk,Jz,br,vz,vg,vs,v2,wi,wk,shr,AH,ca,Fl,cf,HB,lc,ln,lf,Ai,fl,st,BY,lr,wg]
     grind
end
theorem ZUD:yR=some true:=by kernel_rfl
def IP(x y:Slt):Int:=BS x.num y.num
theorem ZSE(x y:Slt):ME x y=some (IP x y):=by
 dsimp only[ME,gc,wg,lr,cl]
 rw[UN]
 rfl
theorem MX{α:Type}(k:α→Int):CmpLaw fun x y:α=>BS (k x) (k y):=by
 constructor<;>(intros;unfold BS at*;grind)
theorem ZDK(l:List Slt)(hl:l.length≤4194304):FD l (fun z0 a=>ME z0 a)=some (C4 IP l):=by
 have h:=p6 nB l (fun x _ y _=>ZSE x y) hl
 rw[jL (show CmpLaw IP from MX Slt.num) l]at h
 exact h
def GR(x y:Raw):Int:=BS x.num y.num
theorem ZR8(x y:Raw):MK x y=some (GR x y):=by
 dsimp only[MK,aE,wg,lr,cl]
 rw[UN]
 rfl
theorem ZIl(l:List Raw)(hl:l.length≤4194304):FD l (fun z0 a=>MK z0 a)=some (C4 GR l):=by
 have h:=p6 nB l (fun x _ y _=>ZR8 x y) hl
 rw[jL (show CmpLaw GR from MX Raw.num) l]at h
 exact h
theorem vW(l:List Fld)(f:Fld→Option Bool)(p:Fld→Bool)(d:∀x∈l,f x=some (p x))(h:l.length≤1048576):US l f=some (l.any p):=by
 have e:=Eu (B:=Rn l f) (N:=Am) l p (fun i=>(i:Int)) () (fun i x hx=>by
  have a:=BM hx
  have g:=(Yb.1 hx).1
  have b:i+1<9223372036854775808:=by omega
  have c:=d x (Yi hx)
  dsimp only[Rn,XU,br,ix,vs,Ay,ln,Ai,cf,wa,br]
  simp only[a,b,c,hx,Yr,Yv,Ya]
  cases p x<;>simp) (by simp[Rn,XU,br,ix,vs,Ay,ln,Ai,cf,wa,br]) (A1 (by omega))
 dsimp only[US,bE,lr,cs,jK,bG,bu,e9,vz,lr,lc,An]
 rw[e,←Ol]
 cases l.findIdx? p with
 |none=>rfl
 |some i=>simp
theorem ZMO(g f:Fld)(v:Val)(h:v.slots.length≤4194304):Pw g f v=some (!decide (g.num=f.num)&&Ca v.slots g.num):=by
 dsimp only[Pw,eZ,wg,lr,AO]
 rw[n19 v g.num (by omega)]
 cases decide (g.num=f.num)<;>simp
theorem ZNI(m:Msg)(f:Fld)(v:Val)(hm:m.fields.length≤1048576)(h:v.slots.length≤4194304):jS m f v=some (CW m.fields f v.slots):=by
 dsimp only[jS,dO,wg,lr,cl,cs]
 unfold CW
 by_cases c:f.union=⟨#[]⟩
 ·rw[c,ZUX,Ya,vW [] _ (fun _=>false) (fun x hx=>by cases hx) (by simp)]
  simp
 ·rw[m29 m f.union hm c,Ya,vW _ _ (fun g=>!decide (g.num=f.num)&&Ca v.slots g.num) (fun g _=>ZMO g f v h) (D3 (Kg _ _) hm)]
  rw[List.any_filter]
  simp[c,Bool.and_assoc]
theorem ZSB(m:Msg)(a:List Slt)(b:Val)(hm:m.fields.length≤1048576)(d:a.length≤1048576)(c:b.slots.length≤4194304):Py a (fun z0=>Px z0 m b)=some (a.filter fun x=>!CW m.fields (A7 m.fields x.num) b.slots):=
 n41 a _ (fun x=>CW m.fields (A7 m.fields x.num) b.slots) (fun x _=>by
  dsimp only[Px,cZ,wg,lr,cl]
  rw[n43 m x.num hm,Ya,show(BR m.fields x.num).1=A7 m.fields x.num from rfl,ZNI m _ b hm c]
  rfl) (by omega)
theorem ZPw(x y:List Val)(hx:x.length≤1048576)(hy:y.length≤1048576):U2 [x,y]=some (x++y):=by
 have e:(Am:Nat)=(Am-3)+1+1+1:=by have:=A1 (n:=10) (by omega);omega
 have f:Al (Il [x,y]) Am (0,0)=some (.inl (x.length+y.length)):=by
  have d:x.length<9223372036854775808:=by omega
  have w2:x.length+y.length<9223372036854775808:=by omega
  have i:¬((x.length:Nat):Int)<0:=by omega
  have j:¬((x.length+y.length:Nat):Int)<0:=by omega
  have a:Il [x,y] (0,0)=some (.nx (x.length,1)):=by dsimp only[Il,Ro,br,ix,vz,vs,v2,ln,Ai,wa,dd,An,br];simp[d]
  have b:Il [x,y] (x.length,1)=some (.nx (x.length+y.length,2)):=by dsimp only[Il,Ro,br,ix,vz,vs,v2,ln,Ai,wa,dd,An,br];simp[w2];omega
  have c:Il [x,y] (x.length+y.length,2)=some (.ex (x.length+y.length)):=by dsimp only[Il,Ro,br,ix,vz,vs,v2,ln,Ai,wa,dd,An,br];simp
  rw[e,Al,a]
  dsimp only
  rw[Al,b]
  dsimp only
  rw[Al,c]
 have h:Al (If [x,y]) Am ([],0)=some (.inl (x++y)):=by
  have d:x.length<549755813888:=by omega
  have w2:x.length+y.length<549755813888:=by omega
  have a:If [x,y] ([],0)=some (.nx (x,1)):=by dsimp only[If,RP,br,ix,vz,vs,ln,Ai,aq,wa,fl,br];simp[d]
  have b:If [x,y] (x,1)=some (.nx (x++y,2)):=by dsimp only[If,RP,br,ix,vz,vs,ln,Ai,aq,wa,fl,br];simp[w2]
  have c:If [x,y] (x++y,2)=some (.ex (x++y)):=by dsimp only[If,RP,br,ix,vz,vs,ln,Ai,aq,wa,fl,br];simp
  rw[e,Al,a]
  dsimp only
  rw[Al,b]
  dsimp only
  rw[Al,c]
 have g:x.length+y.length<549755813888:=by omega
 dsimp only[U2,bD,cq,fF,fq,cg,fQ,vz,vw,lr,lc,mv,fl,An]
 rw[f,Ya]
 simp only[CJ,kf,g,Yv,Ya]
 rw[h]
 rfl
theorem ZPJ(x y:List Pr)(hx:x.length≤1048576)(hy:y.length≤1048576):U6 [x,y]=some (x++y):=by
 have e:(Am:Nat)=(Am-3)+1+1+1:=by have:=A1 (n:=10) (by omega);omega
 have f:Al (Ir [x,y]) Am (0,0)=some (.inl (x.length+y.length)):=by
  have d:x.length<9223372036854775808:=by omega
  have w2:x.length+y.length<9223372036854775808:=by omega
  have i:¬((x.length:Nat):Int)<0:=by omega
  have j:¬((x.length+y.length:Nat):Int)<0:=by omega
  have a:Ir [x,y] (0,0)=some (.nx (x.length,1)):=by dsimp only[Ir,RC,br,ix,vz,vs,v2,ln,Ai,wa,dd,An,br];simp[d]
  have b:Ir [x,y] (x.length,1)=some (.nx (x.length+y.length,2)):=by dsimp only[Ir,RC,br,ix,vz,vs,v2,ln,Ai,wa,dd,An,br];simp[w2];omega
  have c:Ir [x,y] (x.length+y.length,2)=some (.ex (x.length+y.length)):=by dsimp only[Ir,RC,br,ix,vz,vs,v2,ln,Ai,wa,dd,An,br];simp
  rw[e,Al,a]
  dsimp only
  rw[Al,b]
  dsimp only
  rw[Al,c]
 have h:Al (Ic [x,y]) Am ([],0)=some (.inl (x++y)):=by
  have d:x.length<549755813888:=by omega
  have w2:x.length+y.length<549755813888:=by omega
  have a:Ic [x,y] ([],0)=some (.nx (x,1)):=by dsimp only[Ic,RM,br,ix,vz,vs,ln,Ai,aq,wa,fl,br];simp[d]
  have b:Ic [x,y] (x,1)=some (.nx (x++y,2)):=by dsimp only[Ic,RM,br,ix,vz,vs,ln,Ai,aq,wa,fl,br];simp[w2]
  have c:Ic [x,y] (x++y,2)=some (.ex (x++y)):=by dsimp only[Ic,RM,br,ix,vz,vs,ln,Ai,aq,wa,fl,br];simp
  rw[e,Al,a]
  dsimp only
  rw[Al,b]
  dsimp only
  rw[Al,c]
 have g:x.length+y.length<549755813888:=by omega
 dsimp only[U6,eD,bA,ei,fT,cP,dF,vz,vw,lr,lc,mv,fl,An]
 rw[f,Ya]
 simp only[CJ,ko,g,Yv,Ya]
 rw[h]
 rfl
theorem ZOC(x y:List Raw)(hx:x.length≤1048576)(hy:y.length≤1048576):UY [x,y]=some (x++y):=by
 have e:(Am:Nat)=(Am-3)+1+1+1:=by have:=A1 (n:=10) (by omega);omega
 have f:Al (Iq [x,y]) Am (0,0)=some (.inl (x.length+y.length)):=by
  have d:x.length<9223372036854775808:=by omega
  have w2:x.length+y.length<9223372036854775808:=by omega
  have i:¬((x.length:Nat):Int)<0:=by omega
  have j:¬((x.length+y.length:Nat):Int)<0:=by omega
  have a:Iq [x,y] (0,0)=some (.nx (x.length,1)):=by dsimp only[Iq,RE,br,ix,vz,vs,v2,ln,Ai,wa,dd,An,br];simp[d]
  have b:Iq [x,y] (x.length,1)=some (.nx (x.length+y.length,2)):=by dsimp only[Iq,RE,br,ix,vz,vs,v2,ln,Ai,wa,dd,An,br];simp[w2];omega
  have c:Iq [x,y] (x.length+y.length,2)=some (.ex (x.length+y.length)):=by dsimp only[Iq,RE,br,ix,vz,vs,v2,ln,Ai,wa,dd,An,br];simp
  rw[e,Al,a]
  dsimp only
  rw[Al,b]
  dsimp only
  rw[Al,c]
 have h:Al (Ie [x,y]) Am ([],0)=some (.inl (x++y)):=by
  have d:x.length<549755813888:=by omega
  have w2:x.length+y.length<549755813888:=by omega
  have a:Ie [x,y] ([],0)=some (.nx (x,1)):=by dsimp only[Ie,RT,br,ix,vz,vs,ln,Ai,aq,wa,fl,br];simp[d]
  have b:Ie [x,y] (x,1)=some (.nx (x++y,2)):=by dsimp only[Ie,RT,br,ix,vz,vs,ln,Ai,aq,wa,fl,br];simp[w2]
  have c:Ie [x,y] (x++y,2)=some (.ex (x++y)):=by dsimp only[Ie,RT,br,ix,vz,vs,ln,Ai,aq,wa,fl,br];simp
  rw[e,Al,a]
  dsimp only
  rw[Al,b]
  dsimp only
  rw[Al,c]
 have g:x.length+y.length<549755813888:=by omega
 dsimp only[UY,cT,eh,eF,fX,gt,eH,vz,vw,lr,lc,mv,fl,An]
 rw[f,Ya]
 simp only[CJ,j9,g,Yv,Ya]
 rw[h]
 rfl
theorem ZEs{a b:ByteArray}(h:a.toList=b.toList):a=b:=by
 rw[ByteArray.toList_eq,ByteArray.toList_eq]at h
 exact ByteArray.ext (Dc h)
theorem Ip{a b:ByteArray}:EO a b<0↔a.toList<b.toList:=by
 have e:BJ a b=true↔a.toList<b.toList:=by unfold BJ;rw[Go.Proofs.bytesLess_eq,YB]
 rw[←e]
 unfold EO
 cases h:BJ a b with
 |true=>simp
 |false=>by_cases c:a=b<;>simp[c]
theorem ZFr{α:Type}(k:α→ByteArray):CmpLaw fun x y:α=>EO (k x) (k y):=by
 constructor
 ·intro x y w a b
  exact Ip.2 (List.lt_trans (Ip.1 a) (Ip.1 b))
 ·intro x y w a b e
  have c:=fun h=>a (Ip.2 h)
  have d:=fun h=>b (Ip.2 h)
  exact List.le_trans (S3.1 d) (S3.1 c) (Ip.1 e)
 ·intro x h
  exact List.lt_irrefl _ (Ip.1 h)
theorem ZSO{a b:ByteArray}:EO a b=0↔¬EO a b<0∧¬EO b a<0:=by
 constructor
 ·intro h
  have e:a=b:=Y3 (by rw[←vM,h];rfl)
  subst e
  exact⟨by omega,by omega⟩
 ·rintro⟨c,d⟩
  have e:a=b:=ZEs (List.le_antisymm (S3.1 fun h=>d (Ip.2 h)) (S3.1 fun h=>c (Ip.2 h)))
  exact Y3 (by rw[vM];exact Yn e)
theorem fU{a b:Int}:BS a b=0↔¬BS a b<0∧¬BS b a<0:=by
 unfold BS
 grind
def IQ(k:Int)(a b:Val):Int:=if k=7∨k=8 then EO a.text b.text else if k=2∨k=3 then BS (IntKind.u64.wrap (a.bits+9223372036854775808)) (IntKind.u64.wrap (b.bits+9223372036854775808))else if k=6 then BS (GW a.bits.toNat) (GW b.bits.toNat)else BS a.bits b.bits
theorem lF(k:Int):CmpLaw (IQ k):=by
 unfold IQ
 split
 ·exact ZFr Val.text
 ·split
  ·exact MX fun v:Val=>IntKind.u64.wrap (v.bits+9223372036854775808)
  ·split
   ·exact MX fun v:Val=>((GW v.bits.toNat:Nat):Int)
   ·exact MX Val.bits
theorem ZST(k:Int)(a b:Val):IQ k a b=0↔¬IQ k a b<0∧¬IQ k b a<0:=by
 unfold IQ
 split
 ·exact ZSO
 ·split
  ·exact fU
  ·split
   ·exact fU
   ·exact fU
theorem nZ(a b:Val):Cd a b=if a.kind≠b.kind then BS a.kind b.kind else IQ a.kind a b:=rfl
theorem It(a b:Val):Cd a b<0↔a.kind<b.kind∨(a.kind=b.kind∧IQ a.kind a b<0):=by
 rw[nZ]
 by_cases e:a.kind=b.kind
 ·simp[e]
 ·have h:BS a.kind b.kind<0↔a.kind<b.kind:=by unfold BS;grind
  simp[e,h]
theorem kY:CmpLaw Cd:=by
 constructor
 ·intro x y w
  rw[It,It,It]
  rintro(b|⟨a,b⟩) (c|⟨f,c⟩)
  ·exact .inl (by omega)
  ·exact .inl (by omega)
  ·exact .inl (by omega)
  ·exact .inr ⟨a.trans f,(lF _).tr x y w b (by rw[a];exact c)⟩
 ·intro x y w
  rw[It,It,It]
  intro b c d
  have a1:¬x.kind<y.kind:=fun h=>b (.inl h)
  have g:¬y.kind<w.kind:=fun h=>c (.inl h)
  rcases d with d|⟨e,d⟩
  ·omega
  ·have a:x.kind=y.kind:=by omega
   exact(lF _).ng x y w (fun h=>b (.inr ⟨a,h⟩)) (fun h=>c (.inr ⟨by omega,by rw[←a];exact h⟩)) d
 ·intro x
  rw[It]
  rintro(h|⟨_,h⟩)
  ·omega
  ·exact(lF _).ir x h
theorem ZRW(a b:Val):Cd a b=0↔¬Cd a b<0∧¬Cd b a<0:=by
 rw[It,It]
 by_cases e:a.kind=b.kind
 ·have f:Cd a b=IQ a.kind a b:=by rw[nZ];simp[e]
  rw[f,ZST]
  rw[←e]
  constructor
  ·rintro⟨c,d⟩
   exact⟨fun h=>h.elim (by omega) fun h=>c h.2,fun h=>h.elim (by omega) fun h=>d h.2⟩
  ·rintro⟨c,d⟩
   exact⟨fun h=>c (.inr ⟨rfl,h⟩),fun h=>d (.inr ⟨rfl,h⟩)⟩
 ·have f:Cd a b=BS a.kind b.kind:=by rw[nZ];simp[e]
  rw[f]
  constructor
  ·intro h
   exfalso
   unfold BS at h
   grind
  ·rintro⟨c,d⟩
   exfalso
   have a1:¬a.kind<b.kind:=fun h=>c (.inl h)
   have g:¬b.kind<a.kind:=fun h=>d (.inl h)
   omega
def Bk(x y:Pr):Int:=Cd x.key y.key
theorem Fa:CmpLaw Bk:=⟨fun x y w=>kY.tr x.key y.key w.key,fun x y w=>kY.ng x.key y.key w.key,fun x=>kY.ir x.key⟩
theorem JM(x y:Pr):Bk x y=0↔¬Bk x y<0∧¬Bk y x<0:=ZRW x.key y.key
theorem Zy4{x y w:Pr}(a:Bk x y<0)(b:¬Bk w y<0):Bk x w<0:=Decidable.byContradiction fun h=>Fa.ng x w y h b a
theorem ZO4(x y:Pr)(a:Bk x y<0)(b:Bk y x<0):False:=Fa.ir x (Fa.tr x y x a b)
theorem ZDA{x y w:Pr}(a:Bk x y=0)(b:Bk y w=0):Bk x w=0:=by
 rw[JM]at*
 exact⟨Fa.ng _ _ _ a.1 b.1,Fa.ng _ _ _ b.2 a.2⟩
def Fj(l:List Pr):Prop:=l.Pairwise fun x y=>Bk x y<0
theorem Zzk{a b:List Pr}(c:Fj a)(d:Fj b)(h:∀x,x∈a↔x∈b):a=b:=by
 have f:∀{l:List Pr},Fj l→l.Nodup:=fun hl=>hl.imp fun {x y} h e=>by subst e;exact Fa.ir _ h
 exact kS ZO4 c d ((qX (f c) (f d)).2 h)
def Pd(l:List Pr)(x:Pr):Prop:=∃j:Nat,l[j]?=some x∧∀(k:Nat) (y:Pr),l[k]?=some y→Bk x y=0→k≤j
theorem z2(q:Pr)(out:List Pr)(p:Pr):F1 (q::out) p=if Bk q p<0 then q::F1 out p else p::q::out:=by
 unfold F1 IL
 rw[ZY]
 by_cases h:Bk q p<0
 ·have a:Cd q.key p.key<0:=h
  rw[Yk h,Yn a]
  rfl
 ·have a:¬Cd q.key p.key<0:=h
  rw[Ym h,Yq a]
  rfl
theorem Zo5{out:List Pr}{p x:Pr}:x∈F1 out p↔x=p∨x∈out:=by
 induction out with
 |nil=>exact Yx
 |cons q out a=>
  rw[z2]
  split
  ·rw[Yx,a,Yx]
   grind
  ·exact Yx
theorem Zz7{out:List Pr}{p:Pr}(h:Fj out)(b:∀x∈out,¬Bk x p=0):Fj (F1 out p):=by
 induction out with
 |nil=>exact L5 _ _
 |cons q out g=>
  obtain⟨a,f⟩:=Y2.1 h
  rw[z2]
  split
  ·rename_i c
   refine Y2.2 ⟨fun x hx=>?_,g f fun x hx=>b x (Yz _ hx)⟩
   rcases Zo5.1 hx with rfl|hx
   ·exact c
   ·exact a x hx
  ·rename_i c
   have d:Bk p q<0:=Decidable.byContradiction fun e=>b q YE ((JM q p).2 ⟨c,e⟩)
   refine Y2.2 ⟨fun x hx=>?_,h⟩
   rcases Yx.1 hx with rfl|hx
   ·exact d
   ·exact Fa.tr p q x d (a x hx)
theorem kn(l:List Pr):∀i:Nat,Fj (CH l i)∧∀x,x∈CH l i↔∃j:Nat,j<i∧l[j]?=some x∧∀(k:Nat) (y:Pr),l[k]?=some y→Bk x y=0→k≤j
 |0=>⟨.nil,fun x=>Iff.intro (fun h=>by cases h) fun⟨j,h,_⟩=>absurd h (Y4 j)⟩
 |i+1=>by
  obtain⟨o,g⟩:=kn l i
  unfold CH
  cases e:l[i]? with
  |none=>
   refine⟨o,fun x=>(g x).trans ?_⟩
   constructor
   ·rintro⟨j,a,b⟩
    exact⟨j,by omega,b⟩
   ·rintro⟨j,a,b⟩
    have:j≠i:=fun n=>by rw[n,e]at b;cases b.1
    exact⟨j,by omega,b⟩
  |some q=>
   have r:((l.drop (i+1)).any fun x=>decide (Cd q.key x.key=0))=true↔∃(k:Nat) (y:Pr),i<k∧l[k]?=some y∧Bk q y=0:=by
    rw[YQ]
    constructor
    ·rintro⟨y,hy,a⟩
     obtain⟨k,m⟩:=YK.1 hy
     rw[Y0]at m
     exact⟨i+1+k,y,by omega,m,Y3 a⟩
    ·rintro⟨k,y,a,b,c⟩
     refine⟨y,YK.2 ⟨k-(i+1),?_⟩,Yn c⟩
     rw[Y0,show i+1+(k-(i+1))=k by omega]
     exact b
   dsimp only
   split
   ·rename_i c
    obtain⟨z,A,a0,s,t⟩:=r.1 c
    refine⟨o,fun x=>(g x).trans ?_⟩
    constructor
    ·rintro⟨j,a,b⟩
     exact⟨j,by omega,b⟩
    ·rintro⟨j,a,d,f⟩
     have:j≠i:=fun n=>by
      subst n
      rw[e]at d
      cases d
      have:=f z A s t
      omega
     exact⟨j,by omega,d,f⟩
   ·rename_i c
    have v:∀x∈CH l i,¬Bk x q=0:=fun x hx w=>by
     obtain⟨j,a,_,b⟩:=(g x).1 hx
     have:=b i q e w
     omega
    refine⟨Zz7 o v,fun x=>?_⟩
    rw[Zo5,g]
    constructor
    ·rintro(rfl|⟨j,a,b⟩)
     ·refine⟨i,YO _,e,fun k y m hy=>?_⟩
      exact Nat.le_of_not_lt fun p=>c (r.2 ⟨k,y,p,m,hy⟩)
     ·exact⟨j,by omega,b⟩
    ·rintro⟨j,a,d,f⟩
     by_cases u:j=i
     ·subst u
      rw[e]at d
      cases d
      exact .inl rfl
     ·exact .inr ⟨j,by omega,d,f⟩
theorem kR(l:List Pr):Fj (F9 l):=(kn l l.length).1
theorem Zpm{l:List Pr}{x:Pr}:x∈F9 l↔Pd l x:=by
 refine((kn l l.length).2 x).trans ?_
 constructor
 ·rintro⟨j,_,b⟩
  exact⟨j,b⟩
 ·rintro⟨j,b⟩
  exact⟨j,(Yb.1 b.1).1,b⟩
def EF:List Pr→List Pr
 |[]=>[]
 |[p]=>[p]
 |p::q::l=>if Bk p q=0 then EF (q::l)else p::EF (q::l)
theorem zN:∀r:List (Pr×Nat),r.Pairwise (Gf Bk)→Fj (EF (r.map (·.1)))∧∀x,x∈EF (r.map (·.1))↔∃j,(x,j)∈r∧∀y k,(y,k)∈r→Bk x y=0→k≤j
 |[],_=>⟨.nil,fun x=>Iff.intro (fun h=>by cases h) fun⟨j,h,_⟩=>by cases h⟩
 |[(p,i)],_=>by
  refine⟨L5 _ _,fun x=>?_⟩
  show x∈[p]↔_
  rw[Y1]
  constructor
  ·rintro rfl
   refine⟨i,Y1.2 rfl,fun y k h _=>?_⟩
   cases Y1.1 h
   exact Yf _
  ·rintro⟨j,h,_⟩
   cases Y1.1 h
   rfl
 |(p,i)::(q,j)::r,h=>by
  obtain⟨t,o⟩:=Y2.1 h
  obtain⟨n,g⟩:=zN ((q,j)::r) o
  have m:=t (q,j) YE
  show Fj (if Bk p q=0 then EF (((q,j)::r).map (·.1))else p::EF (((q,j)::r).map (·.1)))∧∀x,x∈(if Bk p q=0 then EF (((q,j)::r).map (·.1))else p::EF (((q,j)::r).map (·.1)))↔_
  by_cases c:Bk p q=0
  ·rw[Yk c]
   have u:i<j:=by
    rcases m with a|⟨_,a⟩
    ·exact absurd a ((JM p q).1 c).1
    ·exact a
   refine⟨n,fun x=>(g x).trans ?_⟩
   constructor
   ·rintro⟨k,a,b⟩
    refine⟨k,Yz _ a,fun y l hy e=>?_⟩
    rcases Yx.1 hy with hy|hy
    ·cases hy
     have:=b q j YE (ZDA e c)
     omega
    ·exact b y l hy e
   ·rintro⟨k,a,b⟩
    rcases Yx.1 a with a|a
    ·cases a
     have:=b q j (Yz _ YE) c
     omega
    ·exact⟨k,a,fun y l hy e=>b y l (Yz _ hy) e⟩
  ·rw[Ym c]
   have f:Bk p q<0:=by
    rcases m with a|⟨a,_⟩
    ·exact a
    ·exact Decidable.byContradiction fun s=>c ((JM p q).2 ⟨s,a⟩)
   have d:∀y k,(y,k)∈(q,j)::r→Bk p y<0:=fun y k hy=>by
    rcases Yx.1 hy with hy|hy
    ·cases hy
     exact f
    ·rcases(Y2.1 o).1 (y,k) hy with a|⟨a,_⟩
     ·exact Fa.tr _ _ _ f a
     ·exact Zy4 f a
   refine⟨Y2.2 ⟨fun x hx=>?_,n⟩,fun x=>?_⟩
   ·obtain⟨k,a,_⟩:=(g x).1 hx
    exact d x k a
   ·rw[Yx,g]
    constructor
    ·rintro(rfl|⟨k,a,b⟩)
     ·refine⟨i,YE,fun y k hy e=>?_⟩
      rcases Yx.1 hy with hy|hy
      ·cases hy
       exact Yf _
      ·exact absurd (d y k hy) ((JM _ _).1 e).1
     ·refine⟨k,Yz _ a,fun y l hy e=>?_⟩
      rcases Yx.1 hy with hy|hy
      ·cases hy
       exact absurd (d x k a) ((JM _ _).1 e).2
      ·exact b y l hy e
    ·rintro⟨k,a,b⟩
     rcases Yx.1 a with a|a
     ·cases a
      exact .inl rfl
     ·exact .inr ⟨k,a,fun y l hy e=>b y l (Yz _ hy) e⟩
theorem Zqf(l:List Pr):EF (C4 Bk l)=F9 l:=by
 obtain⟨r,c,d,e⟩:=VA Fa l 0 [] .nil (fun a f=>by cases f)
 obtain⟨s1,s2⟩:=zN r d
 have c:C4 Bk l=r.map (·.1):=c
 rw[c]
 refine Zzk s1 (kR l) fun x=>(s2 x).trans (Iff.trans ?_ Zpm.symm)
 have hm:∀y k,(y,k)∈r↔l[k]?=some y:=fun y k=>by
  rw[e.mem_iff,Gj]
  exact List.mem_zipIdx_iff_getElem?
 constructor
 ·rintro⟨j,a,b⟩
  exact⟨j,(hm x j).1 a,fun k y g=>b y k ((hm y k).2 g)⟩
 ·rintro⟨j,a,b⟩
  exact⟨j,(hm x j).2 a,fun y k hy=>b k y ((hm y k).1 hy)⟩
end Go.Proofs.YtjbijbkdiijhaaaGreat
