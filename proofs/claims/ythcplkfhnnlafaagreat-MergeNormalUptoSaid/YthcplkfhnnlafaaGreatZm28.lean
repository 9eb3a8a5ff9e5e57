import Derived.Test.YthcplkfhnnlafaaGreatZm27
import Derived.Test.YthcplkfhnnlafaaGreatZm26
import Derived.Test.YthcplkfhnnlafaaGreatZm24
import Derived.Test.YthcplkfhnnlafaaGreatZm00
namespace Go.Proofs.YthcplkfhnnlafaaGreat
set_option linter.all false
open Go Go.Eng
section
variable {α:Type} [Rw α] [Tid α]
def AQ(pf:α->α->Option Int)(cmp:α->α->Int)(l:List α):Prop:=∀x∈l,∀y∈l,pf x y=some (cmp x y)
theorem AQ.perm{pf:α->α->Option Int}{cmp:α->α->Int}{l v:List α}(h:AQ pf cmp l)(p:v.Perm l):AQ pf cmp v:=λx hx y hy=>h x (p.mem_iff.1 hx) y (p.mem_iff.1 hy)
theorem AQ.atI{pf:α->α->Option Int}{cmp:α->α->Int}{l:List α}(h:AQ pf cmp l){i j:Nat}(hi:i<l.length)(a:j<l.length):pf (l.getD i Rw.z) (l.getD j Rw.z)=some (cmp (l.getD i Rw.z) (l.getD j Rw.z)):=by
 have e:∀k (h:k<l.length),l.getD k Rw.z=l[k]:=λk h=>by rw[Yj,Ye h,YK]
 rw[e i hi,e j a];exact h _ (G3 hi) _ (G3 a)
theorem ZL1(l:List α)(a b:Nat)(pf:α->α->Option Int)(cmp:α->α->Int)(B:AQ pf cmp l)(k:Int)(hl:l.length<=4194304):∀(j:Nat) (v:List α) (N c:Nat),j<N->j<c->j<l.length->v.Perm l->
  ∃p i,FE (Rw.z:α) a cmp c j v=.inl (p,i)/\Aj (FN l (a:Int) (b:Int) pf k) N ((j:Int),v)=some (.inl i)/\i.Perm l:=by
 intro j
 induction j with
 |zero=>
  intro v N c hN z A d;have o:=d.length_eq;obtain⟨N,rfl⟩:∃m,N=m+1:=⟨N-1,ae⟩;obtain⟨c,rfl⟩:∃m,c=m+1:=⟨c-1,ae⟩;have g:¬(a:Int)<((0:Nat):Int):=ae
  refine⟨0,v,by rw[FE];simp only[g,YC,CJ,cond_false],?_,d⟩;have e:FN l (a:Int) (b:Int) pf k (((0:Nat):Int),v)=some (.ex v):=by dsimp only[FN,br,vz,vs,vg,ln,Af,Iq,wi,AD,ca,F4,st,B3,fl,br,AD];grind
  rw[Aj,e]
 |succ j C=>
  intro v N c hN z A d;have o:=d.length_eq;obtain⟨N,rfl⟩:∃m,N=m+1:=⟨N-1,ae⟩;obtain⟨c,rfl⟩:∃m,c=m+1:=⟨c-1,ae⟩;by_cases g:(a:Int)<((j+1:Nat):Int)
  ·have s:((j+1:Nat):Int)-1=(j:Int):=ae;have y: -9223372036854775808<=(j:Int)/\(j:Int)<9223372036854775808:=ae;have w:(0:Int)<=((j+1:Nat):Int)/\((j+1:Nat):Int)<(l.length:Int):=ae;have x:(0:Int)<=(j:Int)/\(j:Int)<(l.length:Int):=ae;have f:j+1<v.length:=ae;have h:j<v.length:=ae;have q:v[j+1]?=some (v.getD (j+1) Rw.z):=(by rw[Yj,Ye f];rfl);have r:v[j]?=some (v.getD j Rw.z):=(by rw[Yj,Ye h];rfl);have t:j+1-1=j:=rfl;have u:=(B.perm d).atI f h;by_cases n:cmp (v.getD (j+1) Rw.z) (v.getD j Rw.z)<0
   ·obtain⟨p,i,D,E,F⟩:=C ((v.set (j+1) (v.getD j Rw.z)).set j (v.getD (j+1) Rw.z)) N c ae ae ae ((Mq v (j+1) j f h).trans d);refine⟨p,i,by rw[FE];simp only[g,t,n,Yn,Iz,cond_true];exact D,?_,F⟩;have e:FN l (a:Int) (b:Int) pf k (((j+1:Nat):Int),v)=some (.nx ((j:Int),(v.set (j+1) (v.getD j Rw.z)).set j (v.getD (j+1) Rw.z))):=(by dsimp only[FN,br,vz,vs,vg,ln,Af,Iq,wi,AD,ca,F4,st,B3,fl,br,AD];simp only[g,s,y,w,x,f,h,q,r,u,n,Yn,forall_const,BZ,Iz,Yq,YW,Y6,YK,Ya,PQ]);rw[Aj,e];exact E
   ·refine⟨j+1,v,by rw[FE];simp only[g,t,n,Yn,YC,Gf,cond_false],?_,d⟩;have e:FN l (a:Int) (b:Int) pf k (((j+1:Nat):Int),v)=some (.ex v):=(by dsimp only[FN,br,vz,vs,vg,ln,Af,Iq,wi,AD,ca,F4,st,B3,fl,br,AD];simp only[g,s,y,w,x,f,h,u,n,Yn,YC,forall_const,BZ,Gf,Yk,Yq,YE,YW,Y6,YK]);rw[Aj,e]
  ·refine⟨j+1,v,by rw[FE];simp only[g,YC,CJ,cond_false],?_,d⟩;have e:FN l (a:Int) (b:Int) pf k (((j+1:Nat):Int),v)=some (.ex v):=(by dsimp only[FN,br,vz,vs,vg,ln,Af,Iq,wi,AD,ca,F4,st,B3,fl,br,AD];simp only[g,YC,Yk,IA,CJ,Yq,YE]);rw[Aj,e]
theorem jL(l:List α)(a b:Nat)(pf:α->α->Option Int)(cmp:α->α->Int)(n:AQ pf cmp l)(hl:l.length<=4194304)(o:b<=l.length):∀(d i:Nat) (v:List α) (N c:Nat),b-i<=d->d<N->b-i<c->v.Perm l->
  ∃k e,Hd (Rw.z:α) a b cmp c i v=.inl (k,e)/\(i<4611686018427387904->Aj (IU l (a:Int) (b:Int) pf) N ((i:Int),v)=some (.inl e))/\e.Perm l
 |d,i,v,N,c,u,hN,x,j=>by
  have p:=j.length_eq;obtain⟨N,rfl⟩:∃m,N=m+1:=⟨N-1,ae⟩;obtain⟨c,rfl⟩:∃m,c=m+1:=⟨c-1,ae⟩;by_cases g:i<b
  ·obtain⟨d,rfl⟩:∃m,d=m+1:=⟨d-1,ae⟩;have f:(i:Int)<(b:Int):=ae;obtain⟨y,w,q,z,r⟩:=ZL1 l a b pf cmp n (i:Int) hl i v Ag (i+1) (AM ae) ae ae j;obtain⟨k,e,s,A,t⟩:=jL l a b pf cmp n hl o d (i+1) w N c ae ae ae r;refine⟨k,e,by rw[Hd];simp only[f,Yn,cond_true,q,Cr];exact s,λhi=>?_,t⟩;have B: -9223372036854775808<=(i:Int)+1/\(i:Int)+1<9223372036854775808:=ae;have h:IU l (a:Int) (b:Int) pf ((i:Int),v)=some (.nx ((i:Int)+1,w)):=(by dsimp only[IU,br,vz,vs,ln,Af,lc,wi,fl,br];grind);rw[Aj,h];grind
  ·have f:¬(i:Int)<(b:Int):=ae;refine⟨i,v,by rw[Hd];simp only[f,YC,cond_false],λ_=>?_,j⟩;have h:IU l (a:Int) (b:Int) pf ((i:Int),v)=some (.ex v):=(by dsimp only[IU,br,vz,vs,ln,Af,lc,wi,fl,br];grind);rw[Aj,h]
theorem uv(l:List α)(a b:Nat)(pf:α->α->Option Int)(cmp:α->α->Int)(d:AQ pf cmp l)(hl:l.length<=4194304)(h:a<=4194304)(c:b<=l.length):KI l (a:Int) (b:Int) pf=some (D2 Rw.z l a b cmp):=by
 obtain⟨i,k,e,f,j⟩:=jL l a b pf cmp d hl c (b-(a+1)) (a+1) l Ag (b-(a+1)+1) (Yf _) (AM ae) ae (.refl _);have m: -9223372036854775808<=(a:Int)+1/\(a:Int)+1<9223372036854775808:=ae
 have g:=f ae;rw[show((a+1:Nat):Int)=(a:Int)+1 from by omega]at g;unfold KI D2;rw[e];dsimp only[KI,RZ,vz,vs,lr,lc,wi,fl];grind
theorem lT(l:List α)(a b:Nat)(cmp:α->α->Int)(hl:l.length<=4194304)(c:b<=l.length):(D2 (Rw.z:α) l a b cmp).Perm l:=by obtain⟨f,g,d,_,e⟩:=jL l a b (λx y=>some (cmp x y)) cmp (λ_ _ _ _=>rfl) hl c (b-(a+1)) (a+1) l (b-(a+1)+1) (b-(a+1)+1) (Yf _) ae ae (.refl _);unfold D2;rw[d];exact e
end
end Go.Proofs.YthcplkfhnnlafaaGreat
namespace Go.Proofs.YthcplkfhnnlafaaGreat
set_option linter.all false
open Go Go.Eng
section
variable {α:Type} [Rw α] [Tid α]
def U6(pf:α->α->Option Int)(cmp:α->α->Int):Prop:=∀(c:Nat) (l:List α) (a m b:Nat),AQ pf cmp l->l.length<=4194304->b-a<c->a<m->m<b->b<=l.length->DE c l (a:Int) (m:Int) (b:Int) pf=some (A6 Rw.z c l a m b cmp)/\(A6 (Rw.z:α) c l a m b cmp).Perm l
section
variable {pf:α->α->Option Int} {cmp:α->α->Int}
theorem qr(l:List α)(k:AQ pf cmp l)(hl:l.length<=4194304):∀(d x y:Nat) (v:List α) (N a:Nat),l.length+1-y<=d->d<N->l.length+1-y<a->x<=l.length->v.Perm l->
  ∃x' i c,HU (Rw.z:α) l.length cmp a x y v=.inl (x',i,c)/\Aj (Ji l (l.length:Int) pf) N (x,y,v)=some (.inl (x',c))/\c.Perm l/\x'<=l.length
 |d,x,y,v,N,a,r,hN,s,hx,e=>by
  have n:=e.length_eq;obtain⟨N,rfl⟩:∃m,N=m+1:=⟨N-1,ae⟩;obtain⟨a,rfl⟩:∃m,a=m+1:=⟨a-1,ae⟩;by_cases g:y<=l.length
  ·obtain⟨d,rfl⟩:∃m,d=m+1:=⟨d-1,ae⟩;have f:(y:Int)<=(l.length:Int):=ae;have hs:=uv v x y pf cmp (k.perm e) ae ae ae;have b:=(lT v x y cmp ae ae).trans e;have j:=b.length_eq;obtain⟨x',i,c,o,p,q⟩:=qr l k hl d y (y+20) (D2 Rw.z v x y cmp) N a ae ae ae g b;refine⟨x',i,c,by rw[HU,Yp f,cond_true];exact o,?_,q⟩;have t:y+20<9223372036854775808:=ae;have h:Ji l (l.length:Int) pf (x,y,v)=some (.nx (y,y+20,D2 Rw.z v x y cmp)):=(by dsimp only[Ji,br,vz,vs,v2,ln,Af,lc,wa,fl,br,wm];grind);rw[Aj,h];exact p
  ·have f:¬(y:Int)<=(l.length:Int):=ae;refine⟨x,y,v,by rw[HU,Yu f,cond_false],?_,e,hx⟩;have h:Ji l (l.length:Int) pf (x,y,v)=some (.ex (x,v)):=(by dsimp only[Ji,br,vz,vs,v2,ln,Af,lc,wa,fl,br,wm];grind);rw[Aj,h]
theorem qq(n:U6 pf cmp)(l:List α)(o:AQ pf cmp l)(hl:l.length<=4194304)(s:Nat)(i:0<s)(j:s<=l.length):∀(d x y:Nat) (v:List α) (N a:Nat),l.length+1-y<=d->d<N->l.length+1-y<a->x<=l.length->y=x+2*s->v.Perm l->
  ∃x' k b,HT (Rw.z:α) l.length cmp s a x y v=.inl (x',k,b)/\Aj (I9 l (l.length:Int) pf s) N (x,y,v)=some (.inl (x',b))/\b.Perm l/\x'<=l.length
 |d,x,y,v,N,a,w,hN,z,hx,hy,c=>by
  have p:=c.length_eq;obtain⟨N,rfl⟩:∃m,N=m+1:=⟨N-1,ae⟩;obtain⟨a,rfl⟩:∃m,a=m+1:=⟨a-1,ae⟩;by_cases g:y<=l.length
  ·obtain⟨d,rfl⟩:∃m,d=m+1:=⟨d-1,ae⟩;have e:(y:Int)<=(l.length:Int):=ae;obtain⟨hs,h⟩:=n (y-x+1) v x (x+s) y (o.perm c) ae ae ae ae ae;obtain⟨x',k,b,q,r,t⟩:=qq n l o hl s i j d y (y+2*s) (A6 Rw.z (y-x+1) v x (x+s) y cmp) N a ae ae ae g rfl (h.trans c);refine⟨x',k,b,by rw[HT,Yp e,cond_true];exact q,?_,t⟩;have A:y+2*s<9223372036854775808:=ae;have w2:2*s<9223372036854775808:=ae;have B:x+s<9223372036854775808:=ae;have u:((y:Int)-(x:Int)+1).toNat=y-x+1:=ae;have f:I9 l (l.length:Int) pf s (x,y,v)=some (.nx (y,y+2*s,A6 Rw.z (y-x+1) v x (x+s) y cmp)):=(by dsimp only[I9,br,vz,vs,ln,Af,lc,wa,fl,br,wm];grind);rw[Aj,f];exact r
  ·have e:¬(y:Int)<=(l.length:Int):=ae;refine⟨x,y,v,by rw[HT,Yu e,cond_false],?_,c,hx⟩;have f:I9 l (l.length:Int) pf s (x,y,v)=some (.ex (x,v)):=(by dsimp only[I9,br,vz,vs,ln,Af,lc,wa,fl,br,wm];grind);rw[Aj,f]
theorem a5(h:U6 pf cmp)(l:List α)(i:AQ pf cmp l)(hl:l.length<=4194304):∀(d s:Nat) (v:List α) (N a:Nat),0<s->l.length-s<=d->d<N->l.length-s<a->v.Perm l->
  ∃s' c,Gn (Rw.z:α) l.length cmp a s v=.inl (s',c)/\Aj (Hv l (l.length:Int) pf) N (s,v)=some (.inl c)/\c.Perm l
 |d,s,v,N,a,n,C,hN,D,o=>by
  have z:=o.length_eq;obtain⟨N,rfl⟩:∃m,N=m+1:=⟨N-1,ae⟩;obtain⟨a,rfl⟩:∃m,a=m+1:=⟨a-1,ae⟩;by_cases g:s<l.length
  ·obtain⟨d,rfl⟩:∃m,d=m+1:=⟨d-1,ae⟩;have f:(s:Int)<(l.length:Int):=ae;obtain⟨x,y,w,t,E,j,F⟩:=qq h l i hl s n ae (l.length+1-2*s) 0 (2*s) v Ag (l.length+1-2*s+1) (Yf _) (AM ae) ae ae ae o;have A:=j.length_eq;have G:s*2<9223372036854775808:=ae;have w2:2*s<9223372036854775808:=ae;have H:x+s<9223372036854775808:=ae;by_cases u:x+s<l.length
   ·have b:((x+s:Nat):Int)<(l.length:Int):=ae;obtain⟨hs,k⟩:=h (l.length-x+1) w x (x+s) l.length (i.perm j) ae ae ae u ae;obtain⟨s',c,p,q,r⟩:=a5 h l i hl d (s*2) (A6 Rw.z (l.length-x+1) w x (x+s) l.length cmp) N a ae ae ae ae (k.trans j);refine⟨s',c,by rw[Gn,Yp f,cond_true,t];simp only[Cr,Yp b,cond_true];exact p,?_,r⟩;have B:((l.length:Int)-(x:Int)+1).toNat=l.length-x+1:=ae;have e:Hv l (l.length:Int) pf (s,v)=some (.nx (s*2,A6 Rw.z (l.length-x+1) w x (x+s) l.length cmp)):=(by dsimp only[Hv,br,vz,vs,ln,Af,lc,wa,fl,br,wm];grind);rw[Aj,e];exact q
   ·have b:¬((x+s:Nat):Int)<(l.length:Int):=ae;obtain⟨s',c,p,q,r⟩:=a5 h l i hl d (s*2) w N a ae ae ae ae j;refine⟨s',c,by rw[Gn,Yp f,cond_true,t];simp only[Cr,Yu b,cond_false];exact p,?_,r⟩;have e:Hv l (l.length:Int) pf (s,v)=some (.nx (s*2,w)):=(by dsimp only[Hv,br,vz,vs,ln,Af,lc,wa,fl,br,wm];grind);rw[Aj,e];exact q
  ·have f:¬(s:Int)<(l.length:Int):=ae;refine⟨s,v,by rw[Gn,Yu f,cond_false],?_,o⟩;have e:Hv l (l.length:Int) pf (s,v)=some (.ex v):=(by dsimp only[Hv,br,vz,vs,ln,Af,lc,wa,fl,br,wm];grind);rw[Aj,e]
theorem S4(d:U6 pf cmp)(l:List α)(a:AQ pf cmp l)(hl:l.length<=4194304):Eo l pf=some (Hc Rw.z l cmp):=by obtain⟨x,y,w,f,g,c,h⟩:=qr l a hl (l.length+1-20) 0 20 l Ag (l.length+1-20+1) (Yf _) (AM ae) ae ae (.refl _);have e:=c.length_eq;have hs:=uv w x l.length pf cmp (a.perm c) ae ae ae;have b:=(lT w x l.length cmp ae ae).trans c;obtain⟨s',m,i,j,k⟩:=a5 d l a hl (l.length-20) 20 (D2 Rw.z w x l.length cmp) Ag (l.length-20+1) ae (Yf _) (AM ae) ae b;unfold Eo Hc Wp;rw[f];dsimp only[Eo,SQ,vz,lr,lc,fl,A3,N3,RQ,vz,lr,lc,fl,N3,wm];grind
end
end
theorem ZP0{n:Nat}(h:n<9223372036854775808):IntKind.u64.wrap (n:Int)=(n:Int):=by simp only[IntKind.wrap,IntKind.bits,IntKind.signed];simp;omega
theorem ZPG{n:Nat}(h:n<9223372036854775808):IntKind.i64.wrap (n:Int)=(n:Int):=by simp only[IntKind.wrap,IntKind.bits,IntKind.signed];simp;omega
theorem Kk{x y:Nat}(h:x+y<9223372036854775808):IntKind.i64.wrap (Ao .u64 (IntKind.u64.wrap ((x:Int)+(y:Int))) 1)=(((x+y)/2:Nat):Int):=by
 rw[show(x:Int)+(y:Int)=((x+y:Nat):Int)from by omega,ZP0 h];have:Ao .u64 ((x+y:Nat):Int) 1=(((x+y)/2:Nat):Int):=by
  unfold Ao;have e:(2:Int)^(min (1:Int).toNat IntKind.u64.bits)=2:=by decide
  rw[e,Int.fdiv_eq_ediv_of_nonneg _ (by decide)];omega
 rw[this];exact ZPG ae
section
variable {α:Type} [Rw α] [Tid α]
theorem iV(l:List α)(R:List α->Int->Int->Int->(α->α->Option Int)->Option (List α))(a:Nat)(pf:α->α->Option Int)(cmp:α->α->Int)(o:AQ pf cmp l)(hl:l.length<=4194304)(k:a<l.length):∀(d i j N b:Nat),j-i<=d->d<N->j-i<b->i<=j->j<=l.length->
  ∃c f,FG (Rw.z:α) l a cmp b i j=.inl (c,f)/\Aj (Hl l (a:Int) pf R) N ((i:Int),(j:Int))=some (.inl (c:Int))/\i<=c/\c<=j
 |d,i,j,N,b,A,hN,B,n,C=>by
  obtain⟨N,rfl⟩:∃m,N=m+1:=⟨N-1,ae⟩;obtain⟨b,rfl⟩:∃m,b=m+1:=⟨b-1,ae⟩;by_cases g:i<j
  ·obtain⟨d,rfl⟩:∃m,d=m+1:=⟨d-1,ae⟩;have h:(i:Int)<(j:Int):=ae;have t:i<=(i+j)/2:=ae;have u:(i+j)/2<j:=ae;have v:=Kk (x:=i) (y:=j) ae;have E: -9223372036854775808<=(i:Int)+(j:Int)/\(i:Int)+(j:Int)<9223372036854775808:=ae;have s:(0:Int)<=1:=(by decide);have D:=o.atI (i:=(i+j)/2) (j:=a) ae k;by_cases r:cmp (l.getD ((i+j)/2) Rw.z) (l.getD a Rw.z)<0
   ·obtain⟨c,f,p,q,w,z⟩:=iV l R a pf cmp o hl k d ((i+j)/2+1) j N b ae ae ae ae ae;refine⟨c,f,by rw[FG,Yp h,cond_true,Yp r];exact p,?_,ae,ae⟩;have e:Hl l (a:Int) pf R ((i:Int),(j:Int))=some (.nx (((((i+j)/2:Nat):Int)+1),(j:Int))):=(by dsimp only[Hl,RO,br,vz,vs,v2,ln,Af,cf,wi,AD,ca,fl,br,AD,wk,shr];grind);rw[Aj,e];exact q
   ·obtain⟨c,f,p,q,w,z⟩:=iV l R a pf cmp o hl k d i ((i+j)/2) N b ae ae ae ae ae;refine⟨c,f,by rw[FG,Yp h,cond_true,Yu r];exact p,?_,ae,ae⟩;have e:Hl l (a:Int) pf R ((i:Int),(j:Int))=some (.nx ((i:Int),(((i+j)/2:Nat):Int))):=(by dsimp only[Hl,RO,br,vz,vs,v2,ln,Af,cf,wi,AD,ca,fl,br,AD,wk,shr];grind);rw[Aj,e];exact q
  ·have h:¬(i:Int)<(j:Int):=ae;refine⟨i,j,by rw[FG,Yu h,cond_false],?_,Yf _,n⟩;have e:Hl l (a:Int) pf R ((i:Int),(j:Int))=some (.ex (i:Int)):=(by dsimp only[Hl,RO,br,vz,vs,v2,ln,Af,cf,wi,AD,ca,fl,br,AD,wk,shr];grind);rw[Aj,e]
theorem i7(l:List α)(R:List α->Int->Int->Int->(α->α->Option Int)->Option (List α))(a:Nat)(pf:α->α->Option Int)(cmp:α->α->Int)(o:AQ pf cmp l)(hl:l.length<=4194304)(k:a<l.length):∀(d i j N b:Nat),j-i<=d->d<N->j-i<b->i<=j->j<=l.length->
  ∃c f,FF (Rw.z:α) l a cmp b i j=.inl (c,f)/\Aj (Hn l (a:Int) pf R) N ((i:Int),(j:Int))=some (.inl (c:Int))/\i<=c/\c<=j
 |d,i,j,N,b,A,hN,B,n,C=>by
  obtain⟨N,rfl⟩:∃m,N=m+1:=⟨N-1,ae⟩;obtain⟨b,rfl⟩:∃m,b=m+1:=⟨b-1,ae⟩;by_cases g:i<j
  ·obtain⟨d,rfl⟩:∃m,d=m+1:=⟨d-1,ae⟩;have h:(i:Int)<(j:Int):=ae;have t:i<=(i+j)/2:=ae;have u:(i+j)/2<j:=ae;have v:=Kk (x:=i) (y:=j) ae;have E: -9223372036854775808<=(i:Int)+(j:Int)/\(i:Int)+(j:Int)<9223372036854775808:=ae;have s:(0:Int)<=1:=(by decide);have D:=o.atI (i:=a) (j:=(i+j)/2) k ae;by_cases r:cmp (l.getD a Rw.z) (l.getD ((i+j)/2) Rw.z)<0
   ·obtain⟨c,f,p,q,w,z⟩:=i7 l R a pf cmp o hl k d i ((i+j)/2) N b ae ae ae ae ae;refine⟨c,f,by rw[FF,Yp h,cond_true,Yp r];exact p,?_,ae,ae⟩;have e:Hn l (a:Int) pf R ((i:Int),(j:Int))=some (.nx ((i:Int),(((i+j)/2:Nat):Int))):=(by dsimp only[Hn,R1,br,vz,vs,ln,Af,cf,wi,AD,ca,fl,br,AD,wk,shr];grind);rw[Aj,e];exact q
   ·obtain⟨c,f,p,q,w,z⟩:=i7 l R a pf cmp o hl k d ((i+j)/2+1) j N b ae ae ae ae ae;refine⟨c,f,by rw[FF,Yp h,cond_true,Yu r];exact p,?_,ae,ae⟩;have e:Hn l (a:Int) pf R ((i:Int),(j:Int))=some (.nx (((((i+j)/2:Nat):Int)+1),(j:Int))):=(by dsimp only[Hn,R1,br,vz,vs,ln,Af,cf,wi,AD,ca,fl,br,AD,wk,shr];grind);rw[Aj,e];exact q
  ·have h:¬(i:Int)<(j:Int):=ae;refine⟨i,j,by rw[FF,Yu h,cond_false],?_,Yf _,n⟩;have e:Hn l (a:Int) pf R ((i:Int),(j:Int))=some (.ex (i:Int)):=(by dsimp only[Hn,R1,br,vz,vs,ln,Af,cf,wi,AD,ca,fl,br,AD,wk,shr];grind);rw[Aj,e]
end
section
variable {α:Type} [Rw α] [Tid α]
theorem n6(l:List α)(R:List α->Int->Int->Int->(α->α->Option Int)->Option (List α))(pf:α->α->Option Int)(a0:Nat×Nat)(hl:l.length<=4194304)(j:1<=a0.1)(k:a0.1<=l.length):∀(d i:Nat) (v:List α) (N a:Nat),a0.1-1-i<=d->d<N->a0.1-1-i<a->v.Perm l->i<=l.length->
  ∃h b,Hb (Rw.z:α) a0 a i v=.inl (h,b)/\Aj (IV l pf R (a0.1:Int)) N ((i:Int),v)=some (.inl b)/\b.Perm l
 |d,i,v,N,a,w,hN,x,f,hi=>by
  have n:=f.length_eq;obtain⟨N,rfl⟩:∃m,N=m+1:=⟨N-1,ae⟩;obtain⟨a,rfl⟩:∃m,a=m+1:=⟨a-1,ae⟩;have u:(a0.1:Int)-1=((a0.1-1:Nat):Int):=ae
  have C: -9223372036854775808<=((a0.1-1:Nat):Int)/\((a0.1-1:Nat):Int)<9223372036854775808:=ae
  by_cases g:i<a0.1-1
  ·obtain⟨d,rfl⟩:∃m,d=m+1:=⟨d-1,ae⟩;have c:(i:Int)<((a0.1-1:Nat):Int):=ae;obtain⟨h,b,q,r,s⟩:=n6 l R pf a0 hl j k d (i+1) ((v.set i (v.getD (i+1) Rw.z)).set (i+1) (v.getD i Rw.z)) N a ae ae ae ((Mq v i (i+1) ae ae).trans f) ae;refine⟨h,b,by rw[Hb,Yp c,cond_true];exact q,?_,s⟩;have t:(i:Int)+1=((i+1:Nat):Int):=ae;have B: -9223372036854775808<=((i+1:Nat):Int)/\((i+1:Nat):Int)<9223372036854775808:=ae;have y:(0:Int)<=(i:Int)/\(i:Int)<(l.length:Int):=ae;have z:(0:Int)<=((i+1:Nat):Int)/\((i+1:Nat):Int)<(l.length:Int):=ae;have o:i<v.length:=ae;have p:i+1<v.length:=ae;have A:v[i]?=some (v.getD i Rw.z):=(by rw[Yj,Ye o];rfl);have v2:v[i+1]?=some (v.getD (i+1) Rw.z):=(by rw[Yj,Ye p];rfl);have e:IV l pf R (a0.1:Int) ((i:Int),v)=some (.nx (((i+1:Nat):Int),(v.set i (v.getD (i+1) Rw.z)).set (i+1) (v.getD i Rw.z))):=(by dsimp only[IV,W7,br,vz,vs,ln,Af,wi,AD,ca,st,B3,fl,br,AD,wk,shr];grind);rw[Aj,e];exact r
  ·have c:¬(i:Int)<((a0.1-1:Nat):Int):=ae;refine⟨i,v,by rw[Hb,Yu c,cond_false],?_,f⟩;have e:IV l pf R (a0.1:Int) ((i:Int),v)=some (.ex v):=(by dsimp only[IV,W7,br,vz,vs,ln,Af,wi,AD,ca,st,B3,fl,br,AD,wk,shr];grind);rw[Aj,e]
theorem ZJ2(l:List α)(R:List α->Int->Int->Int->(α->α->Option Int)->Option (List α))(pf:α->α->Option Int)(b:Nat×Nat)(hl:l.length<=4194304):∀(i:Nat) (v:List α) (N a:Nat),i<N->i<a->v.Perm l->i<l.length->
  ∃h f,Gm (Rw.z:α) b a i v=.inl (h,f)/\Aj (Hq l pf R (b.1:Int)) N ((i:Int),v)=some (.inl f)/\f.Perm l:=by
 intro i
 induction i with
 |zero=>
  intro v N a hN o d hi;have g:=d.length_eq;obtain⟨N,rfl⟩:∃m,N=m+1:=⟨N-1,ae⟩;obtain⟨a,rfl⟩:∃m,a=m+1:=⟨a-1,ae⟩;have c:¬(b.1:Int)<((0:Nat):Int):=ae
  refine⟨0,v,by rw[Gm,Yu c,cond_false],?_,d⟩;have e:Hq l pf R (b.1:Int) (((0:Nat):Int),v)=some (.ex v):=by dsimp only[Hq,RB,br,vz,vs,ln,Af,wi,AD,ca,st,B3,fl,br,AD,wk,shr];grind
  rw[Aj,e]
 |succ i p=>
  intro v N a hN o d hi;have g:=d.length_eq;obtain⟨N,rfl⟩:∃m,N=m+1:=⟨N-1,ae⟩;obtain⟨a,rfl⟩:∃m,a=m+1:=⟨a-1,ae⟩;by_cases c:(b.1:Int)<((i+1:Nat):Int)
  ·obtain⟨h,f,q,r,s⟩:=p ((v.set (i+1) (v.getD i Rw.z)).set i (v.getD (i+1) Rw.z)) N a ae ae ((Mq v (i+1) i ae ae).trans d) ae;refine⟨h,f,by rw[Gm,Yp c,cond_true];exact q,?_,s⟩;have n:((i+1:Nat):Int)-1=(i:Int):=ae;have x: -9223372036854775808<=(i:Int)/\(i:Int)<9223372036854775808:=ae;have t:(0:Int)<=(i:Int)/\(i:Int)<(l.length:Int):=ae;have u:(0:Int)<=((i+1:Nat):Int)/\((i+1:Nat):Int)<(l.length:Int):=ae;have j:i<v.length:=ae;have k:i+1<v.length:=ae;have w:v[i]?=some (v.getD i Rw.z):=(by rw[Yj,Ye j];rfl);have v2:v[i+1]?=some (v.getD (i+1) Rw.z):=(by rw[Yj,Ye k];rfl);have e:Hq l pf R (b.1:Int) (((i+1:Nat):Int),v)=some (.nx ((i:Int),(v.set (i+1) (v.getD i Rw.z)).set i (v.getD (i+1) Rw.z))):=(by dsimp only[Hq,RB,br,vz,vs,ln,Af,wi,AD,ca,st,B3,fl,br,AD,wk,shr];simp only[c,n,x,t,u,j,k,w,v2,Yn,Yq,BZ,YW,Ya,PQ]);rw[Aj,e];exact r
  ·refine⟨i+1,v,by rw[Gm,Yu c,cond_false],?_,d⟩;have e:Hq l pf R (b.1:Int) (((i+1:Nat):Int),v)=some (.ex v):=(by dsimp only[Hq,RB,br,vz,vs,ln,Af,wi,AD,ca,st,B3,fl,br,AD,wk,shr];simp only[c,YC,Yk,YE]);rw[Aj,e]
end
section
variable {α:Type} [Rw α] [Tid α]
theorem iG(l:List α)(R:List α->Int->Int->Int->(α->α->Option Int)->Option (List α))(a m b:Nat)(pf:α->α->Option Int)(cmp:α->α->Int)(q:AQ pf cmp l)(hl:l.length<=4194304)(t:a<m)(u:m<b)(v:b<=l.length):∀(d i j N c:Nat),j-i<=d->d<N->j-i<c->i<=j->j<=(a+b)/2+m/\j<=l.length->(a+b)/2+m<=l.length+i->
  ∃e h,Gl (Rw.z:α) l a m b cmp c i j=.inl (e,h)/\Aj (DW l (a:Int) (m:Int) (b:Int) pf R) N ((i:Int),(j:Int))=some (.inl (e:Int))/\i<=e/\e<=j
 |d,i,j,N,c,E,hN,F,p,G,hi=>by
  obtain⟨N,rfl⟩:∃m,N=m+1:=⟨N-1,ae⟩;obtain⟨c,rfl⟩:∃m,c=m+1:=⟨c-1,ae⟩;by_cases g:i<j
  ·obtain⟨d,rfl⟩:∃m,d=m+1:=⟨d-1,ae⟩;have o:(i:Int)<(j:Int):=ae;have A:i<=(i+j)/2:=ae;have B:(i+j)/2<j:=ae;have n:=Kk (x:=i) (y:=j) ae;have k:=Kk (x:=a) (y:=b) ae;have e0:(((a+b)/2:Nat):Int)+(m:Int)-1=(((a+b)/2+m-1:Nat):Int):=ae;have I: -9223372036854775808<=(i:Int)+(j:Int)/\(i:Int)+(j:Int)<9223372036854775808:=ae;have z:(0:Int)<=1:=(by decide);have H:=q.atI (i:=(a+b)/2+m-1-(i+j)/2) (j:=(i+j)/2) ae ae;by_cases w:cmp (l.getD ((a+b)/2+m-1-(i+j)/2) Rw.z) (l.getD ((i+j)/2) Rw.z)<0
   ·obtain⟨e,h,r,s,C,D⟩:=iG l R a m b pf cmp q hl t u v d i ((i+j)/2) N c ae ae ae ae ae ae;refine⟨e,h,by rw[Gl,Yp o,cond_true,Yp w];exact r,?_,ae,ae⟩;have f:DW l (a:Int) (m:Int) (b:Int) pf R ((i:Int),(j:Int))=some (.nx ((i:Int),(((i+j)/2:Nat):Int))):=(by dsimp only[DW,KZ,br,vz,vs,ln,Af,cf,wi,AD,ca,fl,br,AD,wk,shr];rw[n,k,e0];grind);rw[Aj,f];exact s
   ·obtain⟨e,h,r,s,C,D⟩:=iG l R a m b pf cmp q hl t u v d ((i+j)/2+1) j N c ae ae ae ae ae ae;refine⟨e,h,by rw[Gl,Yp o,cond_true,Yu w];exact r,?_,ae,ae⟩;have f:DW l (a:Int) (m:Int) (b:Int) pf R ((i:Int),(j:Int))=some (.nx (((((i+j)/2:Nat):Int)+1),(j:Int))):=(by dsimp only[DW,KZ,br,vz,vs,ln,Af,cf,wi,AD,ca,fl,br,AD,wk,shr];rw[n,k,e0];grind);rw[Aj,f];exact s
  ·have o:¬(i:Int)<(j:Int):=ae;refine⟨i,j,by rw[Gl,Yu o,cond_false],?_,Yf _,p⟩;have f:DW l (a:Int) (m:Int) (b:Int) pf R ((i:Int),(j:Int))=some (.ex (i:Int)):=(by dsimp only[DW,KZ,br,vz,vs,ln,Af,cf,wi,AD,ca,fl,br,AD,wk,shr];grind);rw[Aj,f]
theorem iq(l:List α)(R:List α->Int->Int->Int->(α->α->Option Int)->Option (List α))(a m b:Nat)(pf:α->α->Option Int)(cmp:α->α->Int)(q:AQ pf cmp l)(hl:l.length<=4194304)(t:a<m)(u:m<b)(v:b<=l.length):∀(d i j N c:Nat),j-i<=d->d<N->j-i<c->i<=j->j<=(a+b)/2+m/\j<=l.length->(a+b)/2+m<=l.length+i->
  ∃e h,Gk (Rw.z:α) l a m b cmp c i j=.inl (e,h)/\Aj (DW l (a:Int) (m:Int) (b:Int) pf R) N ((i:Int),(j:Int))=some (.inl (e:Int))/\i<=e/\e<=j
 |d,i,j,N,c,E,hN,F,p,G,hi=>by
  obtain⟨N,rfl⟩:∃m,N=m+1:=⟨N-1,ae⟩;obtain⟨c,rfl⟩:∃m,c=m+1:=⟨c-1,ae⟩;by_cases g:i<j
  ·obtain⟨d,rfl⟩:∃m,d=m+1:=⟨d-1,ae⟩;have o:(i:Int)<(j:Int):=ae;have A:i<=(i+j)/2:=ae;have B:(i+j)/2<j:=ae;have n:=Kk (x:=i) (y:=j) ae;have k:=Kk (x:=a) (y:=b) ae;have e0:(((a+b)/2:Nat):Int)+(m:Int)-1=(((a+b)/2+m-1:Nat):Int):=ae;have I: -9223372036854775808<=(i:Int)+(j:Int)/\(i:Int)+(j:Int)<9223372036854775808:=ae;have z:(0:Int)<=1:=(by decide);have H:=q.atI (i:=(a+b)/2+m-1-(i+j)/2) (j:=(i+j)/2) ae ae;by_cases w:cmp (l.getD ((a+b)/2+m-1-(i+j)/2) Rw.z) (l.getD ((i+j)/2) Rw.z)<0
   ·obtain⟨e,h,r,s,C,D⟩:=iq l R a m b pf cmp q hl t u v d i ((i+j)/2) N c ae ae ae ae ae ae;refine⟨e,h,by rw[Gk,Yp o,cond_true,Yp w];exact r,?_,ae,ae⟩;have f:DW l (a:Int) (m:Int) (b:Int) pf R ((i:Int),(j:Int))=some (.nx ((i:Int),(((i+j)/2:Nat):Int))):=(by dsimp only[DW,KZ,br,vz,vs,ln,Af,cf,wi,AD,ca,fl,br,AD,wk,shr];rw[n,k,e0];grind);rw[Aj,f];exact s
   ·obtain⟨e,h,r,s,C,D⟩:=iq l R a m b pf cmp q hl t u v d ((i+j)/2+1) j N c ae ae ae ae ae ae;refine⟨e,h,by rw[Gk,Yp o,cond_true,Yu w];exact r,?_,ae,ae⟩;have f:DW l (a:Int) (m:Int) (b:Int) pf R ((i:Int),(j:Int))=some (.nx (((((i+j)/2:Nat):Int)+1),(j:Int))):=(by dsimp only[DW,KZ,br,vz,vs,ln,Af,cf,wi,AD,ca,fl,br,AD,wk,shr];rw[n,k,e0];grind);rw[Aj,f];exact s
  ·have o:¬(i:Int)<(j:Int):=ae;refine⟨i,j,by rw[Gk,Yu o,cond_false],?_,Yf _,p⟩;have f:DW l (a:Int) (m:Int) (b:Int) pf R ((i:Int),(j:Int))=some (.ex (i:Int)):=(by dsimp only[DW,KZ,br,vz,vs,ln,Af,cf,wi,AD,ca,fl,br,AD,wk,shr];grind);rw[Aj,f]
end
theorem ph{α:Type}(z:α)(c:Nat)(l:List α)(a m b:Nat)(cf:α->α->Int)(s:Nat):
  (cond ((decide (((s:Nat):Int)<((m:Nat):Int))&&decide (((m:Nat):Int)<(((((a+b)/2)+m)-s:Nat):Int)))) (cond ((decide (((a:Nat):Int)<((s:Nat):Int))&&decide (((s:Nat):Int)<(((a+b)/2:Nat):Int)))) (cond ((decide ((((a+b)/2:Nat):Int)<(((((a+b)/2)+m)-s:Nat):Int))&&decide ((((((a+b)/2)+m)-s:Nat):Int)<((b:Nat):Int)))) ((A6 z c (A6 z c (Cs z l s m ((((a+b)/2)+m)-s) cf) a s ((a+b)/2) cf) ((a+b)/2) ((((a+b)/2)+m)-s) b cf)) ((A6 z c (Cs z l s m ((((a+b)/2)+m)-s) cf) a s ((a+b)/2) cf))) (cond ((decide ((((a+b)/2:Nat):Int)<(((((a+b)/2)+m)-s:Nat):Int))&&decide ((((((a+b)/2)+m)-s:Nat):Int)<((b:Nat):Int)))) ((A6 z c (Cs z l s m ((((a+b)/2)+m)-s) cf) ((a+b)/2) ((((a+b)/2)+m)-s) b cf)) ((Cs z l s m ((((a+b)/2)+m)-s) cf)))) (cond ((decide (((a:Nat):Int)<((s:Nat):Int))&&decide (((s:Nat):Int)<(((a+b)/2:Nat):Int)))) (cond ((decide ((((a+b)/2:Nat):Int)<(((((a+b)/2)+m)-s:Nat):Int))&&decide ((((((a+b)/2)+m)-s:Nat):Int)<((b:Nat):Int)))) ((A6 z c (A6 z c l a s ((a+b)/2) cf) ((a+b)/2) ((((a+b)/2)+m)-s) b cf)) ((A6 z c l a s ((a+b)/2) cf))) (cond ((decide ((((a+b)/2:Nat):Int)<(((((a+b)/2)+m)-s:Nat):Int))&&decide ((((((a+b)/2)+m)-s:Nat):Int)<((b:Nat):Int)))) ((A6 z c l ((a+b)/2) ((((a+b)/2)+m)-s) b cf)) (l))))=Gw z c l a m b cf s:=by
 unfold Gw;grind
section
variable {α:Type} [Rw α] [Tid α]
theorem nL(R:List α->Int->Int->Int->(α->α->Option Int)->Option (List α))(pf:α->α->Option Int)(cmp:α->α->Int)(n:Nat)
  (p:∀(l:List α) (a m b:Nat),AQ pf cmp l->l.length<=4194304->b-a<n->a<m->m<b->b<=l.length->R l (a:Int) (m:Int) (b:Int) pf=some (A6 Rw.z n l a m b cmp)/\(A6 (Rw.z:α) n l a m b cmp).Perm l)
  (l:List α) (o:AQ pf cmp l) (a m b s:Nat) (hl:l.length<=4194304) (J:b-a<n+1) (D:a<m) (E:m<b) (F:b<=l.length) (G:4<=b-a) (H:s<=(a+b)/2) (I:(a+b)/2+m<=b+s):
  (is l (a:Int) (m:Int) (b:Int) pf R (s:Int)).m=some (Gw (Rw.z:α) n l a m b cmp s)/\(Gw (Rw.z:α) n l a m b cmp s).Perm l:=by
 have u:=Kk (x:=a) (y:=b) ae;have v:(((a+b)/2:Nat):Int)+(m:Int)-(s:Int)=(((a+b)/2+m-s:Nat):Int):=ae
 have w: -9223372036854775808<=(((a+b)/2+m-s:Nat):Int)/\(((a+b)/2+m-s:Nat):Int)<9223372036854775808:=ae
 have A:a<(a+b)/2:=ae
 have B:(a+b)/2<b:=ae
 unfold Gw;dsimp only[RO,W7,jK,jP,ji,R1,RB,je,jN,iD,KZ,Rv,xW,yt,yW,xX,y5,xZ,Rq,yl,yB,zq,yV,yk,yn,yK,yE,Rz,yz,yi,yP,yx,zc,yS,Rl,zt,x8,zl,zg,yU,yb,yw,yL,is,KV,Mp,WJ,Ry,Ro,Mr,br,vz,vg,vs,v2,wi,wk,shr,AD,ca,F4,cf,Iq,lc,ln,lf,Af,fl,st,B3,lr,wg];simp only[u,v];generalize (a+b)/2=h at*;generalize h+m-s=e at*;simp only[w,BZ,Yq];have C:e<=b:=ae
 by_cases c:s<m/\m<e<;>by_cases g:a<s/\s<h<;>by_cases i:h<e/\e<b
 ·
   have q:=Ue l s m e cmp hl c.1 c.2 ae;have f:=(Rt (z:=(Rw.z:α)) l s m e cmp c.1 c.2 ae).2.1;have k:=f.length_eq;obtain⟨r,d⟩:=p (Cs (Rw.z:α) l s m e cmp) a s h (o.perm f) ae ae g.1 g.2 ae;obtain⟨t,j⟩:=p (A6 (Rw.z:α) n (Cs (Rw.z:α) l s m e cmp) a s h cmp) h e b (o.perm (d.trans f)) (by have:=d.length_eq;omega) ae i.1 i.2 (by have:=d.length_eq;omega);simp only[EL c,EL g,EL i,q,k,r,d.length_eq,t,j.length_eq,Yq,Ya,cond_true]
   first|exact⟨trivial,j.trans (d.trans f)⟩|exact⟨rfl,j.trans (d.trans f)⟩
 ·
   have q:=Ue l s m e cmp hl c.1 c.2 ae;have f:=(Rt (z:=(Rw.z:α)) l s m e cmp c.1 c.2 ae).2.1;have k:=f.length_eq;obtain⟨r,d⟩:=p (Cs (Rw.z:α) l s m e cmp) a s h (o.perm f) ae ae g.1 g.2 ae;simp only[EL c,EL g,EJ i,q,k,r,d.length_eq,Yk,Yq,YE,Ya,cond_true,cond_false]
   first|exact⟨trivial,d.trans f⟩|exact⟨rfl,d.trans f⟩
 ·
   have q:=Ue l s m e cmp hl c.1 c.2 ae;have f:=(Rt (z:=(Rw.z:α)) l s m e cmp c.1 c.2 ae).2.1;have k:=f.length_eq;obtain⟨t,j⟩:=p (Cs (Rw.z:α) l s m e cmp) h e b (o.perm f) ae ae i.1 i.2 ae;simp only[EL c,EJ g,EL i,q,k,t,j.length_eq,Yk,Yq,YE,Ya,cond_true,cond_false]
   first|exact⟨trivial,j.trans f⟩|exact⟨rfl,j.trans f⟩
 ·
   have q:=Ue l s m e cmp hl c.1 c.2 ae;have f:=(Rt (z:=(Rw.z:α)) l s m e cmp c.1 c.2 ae).2.1;have k:=f.length_eq;simp only[EL c,EJ g,EJ i,q,k,Yk,Yq,YE,Ya,cond_true,cond_false]
   first|exact⟨trivial,f⟩|exact⟨rfl,f⟩
 ·
   obtain⟨r,d⟩:=p l a s h o ae ae g.1 g.2 ae;obtain⟨t,j⟩:=p (A6 (Rw.z:α) n l a s h cmp) h e b (o.perm d) (by have:=d.length_eq;omega) ae i.1 i.2 (by have:=d.length_eq;omega);simp only[EJ c,EL g,EL i,r,d.length_eq,t,j.length_eq,Yk,Yq,YE,Ya,cond_true,cond_false]
   first|exact⟨trivial,j.trans d⟩|exact⟨rfl,j.trans d⟩
 ·
   obtain⟨r,d⟩:=p l a s h o ae ae g.1 g.2 ae;simp only[EJ c,EL g,EJ i,r,d.length_eq,Yk,Yq,YE,Ya,cond_true,cond_false]
   first|exact⟨trivial,d⟩|exact⟨rfl,d⟩
 ·
   obtain⟨t,j⟩:=p l h e b o ae ae i.1 i.2 ae;simp only[EJ c,EJ g,EL i,t,j.length_eq,Yk,Yq,YE,Ya,cond_true,cond_false]
   first|exact⟨trivial,j⟩|exact⟨rfl,j⟩
 simp only[EJ c,EJ g,EJ i,Yk,YE,cond_false]
 first|exact⟨trivial,.refl _⟩|exact⟨rfl,.refl _⟩
theorem RW{pf:α->α->Option Int}{cmp:α->α->Int}:U6 pf cmp:=by
 intro c
 induction c with
 |zero=>intro l a m b _ _ h;omega
 |succ c w=>
  intro l a m b d hl t f g e;rw[A6];show(Mr l (a:Int) (m:Int) (b:Int) pf (DE c)).m=_/\_;have wa: -9223372036854775808<=((m-a:Nat):Int)/\((m-a:Nat):Int)<9223372036854775808:=ae
  have P: -9223372036854775808<=((b-m:Nat):Int)/\((b-m:Nat):Int)<9223372036854775808:=ae
  have H:(m:Int)-(a:Int)=((m-a:Nat):Int):=ae
  have I:(b:Int)-(m:Int)=((b-m:Nat):Int):=ae
  by_cases J:m-a=1
  ·have k:((m-a:Nat):Int)=1:=ae;obtain⟨i,j,p,q,r,s⟩:=iV l (DE c) a pf cmp d hl ae (b-m) m b Ag (b-m+1) (Yf _) (AM ae) (YT _) ae e;obtain⟨z,v,B,C,D⟩:=n6 l (DE c) pf (i,j) hl (show 1<=i by omega) (show i<=l.length by omega) (i-1-a) a l Ag (i-a+1) (Yf _) (AM ae) (by dsimp only;omega) (.refl _) ae;dsimp only[Mr,ji,jP,jK,br,vz,vg,vs,v2,wi,wk,shr,AD,ca,F4,cf,Iq,lc,ln,lf,Af,fl,st,B3,lr,wg];grind
  ·have k:¬((m-a:Nat):Int)=1:=ae;by_cases K:b-m=1
   ·have n:((b-m:Nat):Int)=1:=ae;obtain⟨i,j,p,q,r,s⟩:=i7 l (DE c) m pf cmp d hl ae (m-a) a m Ag (m-a+1) (Yf _) (AM ae) (YT _) ae ae;obtain⟨z,v,B,C,D⟩:=ZJ2 l (DE c) pf (i,j) hl m l Ag (m+1) (AM ae) (YT _) (.refl _) ae;dsimp only[Mr,Ro,Ry,iD,jN,je,br,vz,vg,vs,v2,wi,wk,shr,AD,ca,F4,cf,Iq,lc,ln,lf,Af,fl,st,B3,lr,wg];grind
   ·have n:¬((b-m:Nat):Int)=1:=ae;have A:=Kk (x:=a) (y:=b) ae;have M: -9223372036854775808<=(a:Int)+(b:Int)/\(a:Int)+(b:Int)<9223372036854775808:=ae;have F:(((a+b)/2:Nat):Int)+(m:Int)=(((a+b)/2+m:Nat):Int):=ae;have w2: -9223372036854775808<=(((a+b)/2+m:Nat):Int)/\(((a+b)/2+m:Nat):Int)<9223372036854775808:=ae;have N: -9223372036854775808<=(((a+b)/2+m:Nat):Int)-1/\(((a+b)/2+m:Nat):Int)-1<9223372036854775808:=ae;have u:(0:Int)<=1:=(by decide);by_cases L:(a+b)/2<m
    ·have o:(((a+b)/2:Nat):Int)<(m:Int):=ae;have G:(((a+b)/2+m:Nat):Int)-(b:Int)=(((a+b)/2+m-b:Nat):Int):=ae;have O: -9223372036854775808<=(((a+b)/2+m-b:Nat):Int)/\(((a+b)/2+m-b:Nat):Int)<9223372036854775808:=ae;obtain⟨i,j,p,q,r,s⟩:=iG l (DE c) a m b pf cmp d hl f g e ((a+b)/2-((a+b)/2+m-b)) ((a+b)/2+m-b) ((a+b)/2) Ag ((a+b)/2-((a+b)/2+m-b)+1) (Yf _) (AM ae) (YT _) ae ae ae;obtain⟨t1,t2⟩:=nL (DE c) pf cmp c w l d a m b i hl t f g e ae ae ae;have E:=ph (Rw.z:α) c l a m b cmp i;dsimp only[Mr,Ro,Ry,WJ,Mp,KV,br,vz,vg,vs,v2,wi,wk,shr,AD,ca,F4,cf,Iq,lc,ln,lf,Af,fl,st,B3,lr,wg];grind
    ·have o:¬(((a+b)/2:Nat):Int)<(m:Int):=ae;obtain⟨i,j,p,q,r,s⟩:=iq l (DE c) a m b pf cmp d hl f g e (m-a) a m Ag (m-a+1) (Yf _) (AM ae) (YT _) ae ae ae;obtain⟨t1,t2⟩:=nL (DE c) pf cmp c w l d a m b i hl t f g e ae ae ae;have E:=ph (Rw.z:α) c l a m b cmp i;dsimp only[Mr,Ro,Ry,WJ,Mp,KV,br,vz,vg,vs,v2,wi,wk,shr,AD,ca,F4,cf,Iq,lc,ln,lf,Af,fl,st,B3,lr,wg];grind
end
theorem ZTP:vd=some true:=aC
def DP(x y:Slt):Int:=Bv x.num y.num
theorem ZOs(x y:Slt):N4 x y=some (DP x y):=by dsimp only[N4,wg,lr,cl];rw[Ky];rfl
theorem IS{α:Type}(k:α->Int):CmpLaw λx y:α=>Bv (k x) (k y):=by constructor<;>(intros;unfold Bv at*;grind)
theorem ZFz(l:List Slt)(hl:l.length<=4194304):Eo l (λz0 a=>N4 z0 a)=some (Ce DP l):=by have h:=S4 RW l (λx _ y _=>ZOs x y) hl;rw[Q0 (show CmpLaw DP from IS Slt.num) l]at h;exact h
def Db(x y:Raw):Int:=Bv x.num y.num
theorem ZOt(x y:Raw):N0 x y=some (Db x y):=by dsimp only[N0,wg,lr,cl];rw[Ky];rfl
theorem ZEy(l:List Raw)(hl:l.length<=4194304):Eo l (λz0 a=>N0 z0 a)=some (Ce Db l):=by have h:=S4 RW l (λx _ y _=>ZOt x y) hl;rw[Q0 (show CmpLaw Db from IS Raw.num) l]at h;exact h
theorem qx(l:List Fld)(f:Fld->Option Bool)(p:Fld->Bool)(d:∀x∈l,f x=some (p x))(h:l.length<=1048576):Vl l f=some (l.any p):=by
 have e:=Ep (B:=R6 l f) (N:=Ag) l p (λi=>(i:Int)) () (λi x hx=>by
  have a:=A5 hx;have g:=(Yb.1 hx).1;have b:i+1<9223372036854775808:=ae
  have c:=d x (Yg hx);dsimp only[R6,br,ix,vs,Ar,ln,Af,cf,wa,br];simp only[a,b,c,hx,Yn,Yq,Ya];cases p x<;>simp) (by simp[R6,br,ix,vs,Ar,ln,Af,cf,wa,br]) (AM ae)
 dsimp only[Vl,lr,cs,fa,vz,lr,lc,Ah];rw[e,<-LB];cases l.findIdx? p with
 |none=>rfl
 |some i=>simp
theorem ZIQ(g f:Fld)(v:Val)(h:v.slots.length<=4194304):QS g f v=some (!decide (g.num=f.num)&&Bt v.slots g.num):=by dsimp only[QS,wg,lr,Az];rw[n19 v g.num ae];cases decide (g.num=f.num)<;>simp
theorem ZH1(m:Msg)(f:Fld)(v:Val)(hm:m.fields.length<=1048576)(h:v.slots.length<=4194304):fJ m f v=some (Dl m.fields f v.slots):=by
 dsimp only[fJ,wg,lr,cl,cs];unfold Dl;by_cases c:f.union=⟨#[]⟩
 ·rw[c,ZTo,Ya,qx [] _ (λ_=>false) (λx hx=>by cases hx) (by simp)];simp
 ·rw[m29 m f.union hm c,Ya,qx _ _ (λg=>!decide (g.num=f.num)&&Bt v.slots g.num) (λg _=>ZIQ g f v h) (EF (ID _ _) hm)];rw[List.any_filter];simp[c,Bool.and_assoc]
theorem ZPL(m:Msg)(a:List Slt)(b:Val)(hm:m.fields.length<=1048576)(d:a.length<=1048576)(c:b.slots.length<=4194304):QT a (λz0=>QP z0 m b)=some (a.filter λx=>!Dl m.fields (AC m.fields x.num) b.slots):=
 n41 a _ (λx=>Dl m.fields (AC m.fields x.num) b.slots) (λx _=>by dsimp only[QP,wg,lr,cl];rw[S5 m x.num hm,Ya,show(Bh m.fields x.num).1=AC m.fields x.num from rfl,ZH1 m _ b hm c];rfl) ae
theorem ZLL(x y:List Val)(hx:x.length<=1048576)(hy:y.length<=1048576):VT [x,y]=some (x++y):=by
 have e:(Ag:Nat)=(Ag-3)+1+1+1:=by have:=AM (n:=10) ae;omega
 have f:Aj (I5 [x,y]) Ag (0,0)=some (.inl (x.length+y.length)):=by
  have d:x.length<9223372036854775808:=ae
  have w2:x.length+y.length<9223372036854775808:=ae
  have i:¬((x.length:Nat):Int)<0:=ae
  have j:¬((x.length+y.length:Nat):Int)<0:=ae
  have a:I5 [x,y] (0,0)=some (.nx (x.length,1)):=by dsimp only[I5,br,ix,vz,vs,v2,ln,Af,wa,dd,Ah,br];simp[d]
  have b:I5 [x,y] (x.length,1)=some (.nx (x.length+y.length,2)):=by dsimp only[I5,br,ix,vz,vs,v2,ln,Af,wa,dd,Ah,br];simp[w2];omega
  have c:I5 [x,y] (x.length+y.length,2)=some (.ex (x.length+y.length)):=by dsimp only[I5,br,ix,vz,vs,v2,ln,Af,wa,dd,Ah,br];simp
  rw[e,Aj,a];dsimp only;rw[Aj,b];dsimp only;rw[Aj,c]
 have h:Aj (I3 [x,y]) Ag ([],0)=some (.inl (x++y)):=by
  have d:x.length<549755813888:=ae
  have w2:x.length+y.length<549755813888:=ae
  have a:I3 [x,y] ([],0)=some (.nx (x,1)):=by dsimp only[I3,br,ix,vz,vs,ln,Af,aq,wa,fl,br];simp[d]
  have b:I3 [x,y] (x,1)=some (.nx (x++y,2)):=by dsimp only[I3,br,ix,vz,vs,ln,Af,aq,wa,fl,br];simp[w2]
  have c:I3 [x,y] (x++y,2)=some (.ex (x++y)):=by dsimp only[I3,br,ix,vz,vs,ln,Af,aq,wa,fl,br];simp
  rw[e,Aj,a];dsimp only;rw[Aj,b];dsimp only;rw[Aj,c]
 have g:x.length+y.length<549755813888:=ae
 dsimp only[VT,vz,vw,lr,lc,mv,fl,Ah];rw[f,Ya];simp only[Cr,fS,g,Yq,Ya];rw[h];rfl
theorem ZJe(x y:List Pr)(hx:x.length<=1048576)(hy:y.length<=1048576):VX [x,y]=some (x++y):=by
 have e:(Ag:Nat)=(Ag-3)+1+1+1:=by have:=AM (n:=10) ae;omega
 have f:Aj (I6 [x,y]) Ag (0,0)=some (.inl (x.length+y.length)):=by
  have d:x.length<9223372036854775808:=ae
  have w2:x.length+y.length<9223372036854775808:=ae
  have i:¬((x.length:Nat):Int)<0:=ae
  have j:¬((x.length+y.length:Nat):Int)<0:=ae
  have a:I6 [x,y] (0,0)=some (.nx (x.length,1)):=by dsimp only[I6,br,ix,vz,vs,v2,ln,Af,wa,dd,Ah,br];simp[d]
  have b:I6 [x,y] (x.length,1)=some (.nx (x.length+y.length,2)):=by dsimp only[I6,br,ix,vz,vs,v2,ln,Af,wa,dd,Ah,br];simp[w2];omega
  have c:I6 [x,y] (x.length+y.length,2)=some (.ex (x.length+y.length)):=by dsimp only[I6,br,ix,vz,vs,v2,ln,Af,wa,dd,Ah,br];simp
  rw[e,Aj,a];dsimp only;rw[Aj,b];dsimp only;rw[Aj,c]
 have h:Aj (Jh [x,y]) Ag ([],0)=some (.inl (x++y)):=by
  have d:x.length<549755813888:=ae
  have w2:x.length+y.length<549755813888:=ae
  have a:Jh [x,y] ([],0)=some (.nx (x,1)):=by dsimp only[Jh,br,ix,vz,vs,ln,Af,aq,wa,fl,br];simp[d]
  have b:Jh [x,y] (x,1)=some (.nx (x++y,2)):=by dsimp only[Jh,br,ix,vz,vs,ln,Af,aq,wa,fl,br];simp[w2]
  have c:Jh [x,y] (x++y,2)=some (.ex (x++y)):=by dsimp only[Jh,br,ix,vz,vs,ln,Af,aq,wa,fl,br];simp
  rw[e,Aj,a];dsimp only;rw[Aj,b];dsimp only;rw[Aj,c]
 have g:x.length+y.length<549755813888:=ae
 dsimp only[VX,vz,vw,lr,lc,mv,fl,Ah];rw[f,Ya];simp only[Cr,gG,g,Yq,Ya];rw[h];rfl
theorem ZHD(x y:List Raw)(hx:x.length<=1048576)(hy:y.length<=1048576):V3 [x,y]=some (x++y):=by
 have e:(Ag:Nat)=(Ag-3)+1+1+1:=by have:=AM (n:=10) ae;omega
 have f:Aj (Jg [x,y]) Ag (0,0)=some (.inl (x.length+y.length)):=by
  have d:x.length<9223372036854775808:=ae
  have w2:x.length+y.length<9223372036854775808:=ae
  have i:¬((x.length:Nat):Int)<0:=ae
  have j:¬((x.length+y.length:Nat):Int)<0:=ae
  have a:Jg [x,y] (0,0)=some (.nx (x.length,1)):=by dsimp only[Jg,br,ix,vz,vs,v2,ln,Af,wa,dd,Ah,br];simp[d]
  have b:Jg [x,y] (x.length,1)=some (.nx (x.length+y.length,2)):=by dsimp only[Jg,br,ix,vz,vs,v2,ln,Af,wa,dd,Ah,br];simp[w2];omega
  have c:Jg [x,y] (x.length+y.length,2)=some (.ex (x.length+y.length)):=by dsimp only[Jg,br,ix,vz,vs,v2,ln,Af,wa,dd,Ah,br];simp
  rw[e,Aj,a];dsimp only;rw[Aj,b];dsimp only;rw[Aj,c]
 have h:Aj (Jj [x,y]) Ag ([],0)=some (.inl (x++y)):=by
  have d:x.length<549755813888:=ae
  have w2:x.length+y.length<549755813888:=ae
  have a:Jj [x,y] ([],0)=some (.nx (x,1)):=by dsimp only[Jj,br,ix,vz,vs,ln,Af,aq,wa,fl,br];simp[d]
  have b:Jj [x,y] (x,1)=some (.nx (x++y,2)):=by dsimp only[Jj,br,ix,vz,vs,ln,Af,aq,wa,fl,br];simp[w2]
  have c:Jj [x,y] (x++y,2)=some (.ex (x++y)):=by dsimp only[Jj,br,ix,vz,vs,ln,Af,aq,wa,fl,br];simp
  rw[e,Aj,a];dsimp only;rw[Aj,b];dsimp only;rw[Aj,c]
 have g:x.length+y.length<549755813888:=ae
 dsimp only[V3,vz,vw,lr,lc,mv,fl,Ah];rw[f,Ya];simp only[Cr,fT,g,Yq,Ya];rw[h];rfl
theorem ZEI{a b:ByteArray}(h:a.toList=b.toList):a=b:=by rw[ByteArray.toList_eq,ByteArray.toList_eq]at h;exact ByteArray.ext (Dz h)
theorem Jb{a b:ByteArray}:EB a b<0↔a.toList<b.toList:=by
 have e:BB a b=true↔a.toList<b.toList:=by unfold BB;rw[Go.Proofs.bytesLess_eq,Yr]
 rw[<-e];unfold EB;cases h:BB a b with
 |true=>simp
 |false=>by_cases c:a=b<;>simp[c]
theorem ZFQ{α:Type}(k:α->ByteArray):CmpLaw λx y:α=>EB (k x) (k y):=by
 constructor
 ·intro x y w a b;exact Jb.2 (List.lt_trans (Jb.1 a) (Jb.1 b))
 ·intro x y w a b e;have c:=λh=>a (Jb.2 h);have d:=λh=>b (Jb.2 h);exact List.le_trans (T0.1 d) (T0.1 c) (Jb.1 e)
 ·intro x h;exact List.lt_irrefl _ (Jb.1 h)
theorem ZQa{a b:ByteArray}:EB a b=0↔¬EB a b<0/\¬EB b a<0:=by
 constructor
 ·intro h;have e:a=b:=Y7 (by rw[<-Zi,h];rfl);subst e;exact⟨ae,ae⟩
 ·rintro⟨c,d⟩;have e:a=b:=ZEI (List.le_antisymm (T0.1 λh=>d (Jb.2 h)) (T0.1 λh=>c (Jb.2 h)));exact Y7 (by rw[Zi];exact Yp e)
theorem a2{a b:Int}:Bv a b=0↔¬Bv a b<0/\¬Bv b a<0:=by unfold Bv;grind
def JQ(k:Int)(a b:Val):Int:=if k=7\/k=8 then EB a.text b.text else if k=2\/k=3 then Bv (IntKind.u64.wrap (a.bits+9223372036854775808)) (IntKind.u64.wrap (b.bits+9223372036854775808))else if k=6 then Bv (C3 a.bits.toNat) (C3 b.bits.toNat)else Bv a.bits b.bits
theorem iP(k:Int):CmpLaw (JQ k):=by
 unfold JQ;split
 ·exact ZFQ Val.text
 ·split
  ·exact IS λv:Val=>IntKind.u64.wrap (v.bits+9223372036854775808)
  ·split
   ·exact IS λv:Val=>((C3 v.bits.toNat:Nat):Int)
   ·exact IS Val.bits
theorem ZQl(k:Int)(a b:Val):JQ k a b=0↔¬JQ k a b<0/\¬JQ k b a<0:=by
 unfold JQ;split
 ·exact ZQa
 ·split
  ·exact a2
  ·split
   ·exact a2
   ·exact a2
theorem jI(a b:Val):B7 a b=if a.kind≠b.kind then Bv a.kind b.kind else JQ a.kind a b:=rfl
theorem Je(a b:Val):B7 a b<0↔a.kind<b.kind\/(a.kind=b.kind/\JQ a.kind a b<0):=by
 rw[jI];by_cases e:a.kind=b.kind
 ·simp[e]
 ·have h:Bv a.kind b.kind<0↔a.kind<b.kind:=by unfold Bv;grind
  simp[e,h]
theorem WB:CmpLaw B7:=by
 constructor
 ·intro x y w;rw[Je,Je,Je];rintro(b|⟨a,b⟩) (c|⟨f,c⟩)
  ·exact .inl ae
  ·exact .inl ae
  ·exact .inl ae
  ·exact .inr ⟨a.trans f,(iP _).tr x y w b (by rw[a];exact c)⟩
 ·intro x y w;rw[Je,Je,Je];intro b c d;have a1:¬x.kind<y.kind:=λh=>b (.inl h);have g:¬y.kind<w.kind:=λh=>c (.inl h);rcases d with d|⟨e,d⟩
  ·omega
  ·have a:x.kind=y.kind:=ae;exact(iP _).ng x y w (λh=>b (.inr ⟨a,h⟩)) (λh=>c (.inr ⟨ae,by rw[<-a];exact h⟩)) d
 ·intro x;rw[Je];rintro(h|⟨_,h⟩)
  ·omega
  ·exact(iP _).ir x h
theorem ZPV(a b:Val):B7 a b=0↔¬B7 a b<0/\¬B7 b a<0:=by
 rw[Je,Je];by_cases e:a.kind=b.kind
 ·have f:B7 a b=JQ a.kind a b:=by rw[jI];simp[e]
  rw[f,ZQl];rw[<-e];constructor
  ·rintro⟨c,d⟩;exact⟨λh=>h.elim ae λh=>c h.2,λh=>h.elim ae λh=>d h.2⟩
  ·rintro⟨c,d⟩;exact⟨λh=>c (.inr ⟨rfl,h⟩),λh=>d (.inr ⟨rfl,h⟩)⟩
 ·have f:B7 a b=Bv a.kind b.kind:=by rw[jI];simp[e]
  rw[f];constructor
  ·intro h;exfalso;unfold Bv at h;grind
  ·rintro⟨c,d⟩;exfalso;have a1:¬a.kind<b.kind:=λh=>c (.inl h);have g:¬b.kind<a.kind:=λh=>d (.inl h);omega
def Bb(x y:Pr):Int:=B7 x.key y.key
theorem FL:CmpLaw Bb:=⟨λx y w=>WB.tr x.key y.key w.key,λx y w=>WB.ng x.key y.key w.key,λx=>WB.ir x.key⟩
theorem Lh(x y:Pr):Bb x y=0↔¬Bb x y<0/\¬Bb y x<0:=ZPV x.key y.key
theorem Zwv{x y w:Pr}(a:Bb x y<0)(b:¬Bb w y<0):Bb x w<0:=Decidable.byContradiction λh=>FL.ng x w y h b a
theorem ZM8(x y:Pr)(a:Bb x y<0)(b:Bb y x<0):False:=FL.ir x (FL.tr x y x a b)
theorem ZFL{x y w:Pr}(a:Bb x y=0)(b:Bb y w=0):Bb x w=0:=by rw[Lh]at*;exact⟨FL.ng _ _ _ a.1 b.1,FL.ng _ _ _ b.2 a.2⟩
def D4(l:List Pr):Prop:=l.Pairwise λx y=>Bb x y<0
theorem hZ{a b:List Pr}(c:D4 a)(d:D4 b)(h:∀x,x∈a↔x∈b):a=b:=by
 have f:∀{l:List Pr},D4 l->l.Nodup:=λhl=>hl.imp fun {x y} h e=>by subst e;exact FL.ir _ h
 exact hU ZM8 c d ((lI (f c) (f d)).2 h)
def P4(l:List Pr)(x:Pr):Prop:=∃j:Nat,l[j]?=some x/\∀(k:Nat) (y:Pr),l[k]?=some y->Bb x y=0->k<=j
theorem wD(q:Pr)(out:List Pr)(p:Pr):GQ (q::out) p=if Bb q p<0 then q::GQ out p else p::q::out:=by
 unfold GQ JN;rw[aL];by_cases h:Bb q p<0
 ·have a:B7 q.key p.key<0:=h;rw[Yi h,Yp a];rfl
 ·have a:¬B7 q.key p.key<0:=h;rw[Yh h,Yu a];rfl
theorem xr{out:List Pr}{p x:Pr}:x∈GQ out p↔x=p\/x∈out:=by
 induction out with
 |nil=>exact Yx
 |cons q out a=>
  rw[wD];split
  ·rw[Yx,a,Yx];grind
  ·exact Yx
theorem Zwu{out:List Pr}{p:Pr}(h:D4 out)(b:∀x∈out,¬Bb x p=0):D4 (GQ out p):=by
 induction out with
 |nil=>exact Na _ _
 |cons q out g=>
  obtain⟨a,f⟩:=Y1.1 h;rw[wD];split
  ·rename_i c;refine Y1.2 ⟨λx hx=>?_,g f λx hx=>b x (YI _ hx)⟩;rcases xr.1 hx with rfl|hx
   ·exact c
   ·exact a x hx
  ·rename_i c;have d:Bb p q<0:=Decidable.byContradiction λe=>b q YH ((Lh q p).2 ⟨c,e⟩);refine Y1.2 ⟨λx hx=>?_,h⟩;rcases Yx.1 hx with rfl|hx
   ·exact d
   ·exact FL.tr p q x d (a x hx)
theorem gy(l:List Pr):∀i:Nat,D4 (CX l i)/\∀x,x∈CX l i↔∃j:Nat,j<i/\l[j]?=some x/\∀(k:Nat) (y:Pr),l[k]?=some y->Bb x y=0->k<=j
 |0=>⟨.nil,λx=>Iff.intro (λh=>by cases h) λ⟨j,h,_⟩=>absurd h (Y8 j)⟩
 |i+1=>by
  obtain⟨o,g⟩:=gy l i;unfold CX;cases e:l[i]? with
  |none=>
   refine⟨o,λx=>(g x).trans ?_⟩;constructor
   ·rintro⟨j,a,b⟩;exact⟨j,ae,b⟩
   ·rintro⟨j,a,b⟩;have:j≠i:=λn=>by rw[n,e]at b;cases b.1
    exact⟨j,ae,b⟩
  |some q=>
   have r:((l.drop (i+1)).any λx=>decide (B7 q.key x.key=0))=true↔∃(k:Nat) (y:Pr),i<k/\l[k]?=some y/\Bb q y=0:=by
    rw[YP];constructor
    ·rintro⟨y,hy,a⟩;obtain⟨k,m⟩:=YJ.1 hy;rw[YZ]at m;exact⟨i+1+k,y,ae,m,Y7 a⟩
    ·rintro⟨k,y,a,b,c⟩;refine⟨y,YJ.2 ⟨k-(i+1),?_⟩,Yp c⟩;rw[YZ,show i+1+(k-(i+1))=k by omega];exact b
   dsimp only;split
   ·rename_i c;obtain⟨z,A,a0,s,t⟩:=r.1 c;refine⟨o,λx=>(g x).trans ?_⟩;constructor
    ·rintro⟨j,a,b⟩;exact⟨j,ae,b⟩
    ·rintro⟨j,a,d,f⟩;have:j≠i:=λn=>by subst n;rw[e]at d;cases d;have:=f z A s t;omega
     exact⟨j,ae,d,f⟩
   ·rename_i c;have v:∀x∈CX l i,¬Bb x q=0:=λx hx w=>by obtain⟨j,a,_,b⟩:=(g x).1 hx;have:=b i q e w;omega
    refine⟨Zwu o v,λx=>?_⟩;rw[xr,g];constructor
    ·rintro(rfl|⟨j,a,b⟩)
     ·refine⟨i,YT _,e,λk y m hy=>?_⟩;exact Nat.le_of_not_lt λp=>c (r.2 ⟨k,y,p,m,hy⟩)
     ·exact⟨j,ae,b⟩
    ·rintro⟨j,a,d,f⟩;by_cases u:j=i
     ·subst u;rw[e]at d;cases d;exact .inl rfl
     ·exact .inr ⟨j,ae,d,f⟩
theorem IP(l:List Pr):D4 (BY l):=(gy l l.length).1
theorem KQ{l:List Pr}{x:Pr}:x∈BY l↔P4 l x:=by
 refine((gy l l.length).2 x).trans ?_;constructor
 ·rintro⟨j,_,b⟩;exact⟨j,b⟩
 ·rintro⟨j,b⟩;exact⟨j,(Yb.1 b.1).1,b⟩
def Fk:List Pr->List Pr
 |[]=>[]
 |[p]=>[p]
 |p::q::l=>if Bb p q=0 then Fk (q::l)else p::Fk (q::l)
theorem wb:∀r:List (Pr×Nat),r.Pairwise (G0 Bb)->D4 (Fk (r.map (·.1)))/\∀x,x∈Fk (r.map (·.1))↔∃j,(x,j)∈r/\∀y k,(y,k)∈r->Bb x y=0->k<=j
 |[],_=>⟨.nil,λx=>Iff.intro (λh=>by cases h) λ⟨j,h,_⟩=>by cases h⟩
 |[(p,i)],_=>by
  refine⟨Na _ _,λx=>?_⟩;show x∈[p]↔_;rw[Y5];constructor
  ·rintro rfl;refine⟨i,Y5.2 rfl,λy k h _=>?_⟩;cases Y5.1 h;exact Yf _
  ·rintro⟨j,h,_⟩;cases Y5.1 h;rfl
 |(p,i)::(q,j)::r,h=>by
  obtain⟨t,o⟩:=Y1.1 h;obtain⟨n,g⟩:=wb ((q,j)::r) o;have m:=t (q,j) YH;show D4 (if Bb p q=0 then Fk (((q,j)::r).map (·.1))else p::Fk (((q,j)::r).map (·.1)))/\∀x,x∈(if Bb p q=0 then Fk (((q,j)::r).map (·.1))else p::Fk (((q,j)::r).map (·.1)))↔_;by_cases c:Bb p q=0
  ·rw[Yi c];have u:i<j:=by
    rcases m with a|⟨_,a⟩
    ·exact absurd a ((Lh p q).1 c).1
    ·exact a
   refine⟨n,λx=>(g x).trans ?_⟩;constructor
   ·rintro⟨k,a,b⟩;refine⟨k,YI _ a,λy l hy e=>?_⟩;rcases Yx.1 hy with hy|hy
    ·cases hy;have:=b q j YH (ZFL e c);omega
    ·exact b y l hy e
   ·rintro⟨k,a,b⟩;rcases Yx.1 a with a|a
    ·cases a;have:=b q j (YI _ YH) c;omega
    ·exact⟨k,a,λy l hy e=>b y l (YI _ hy) e⟩
  ·rw[Yh c];have f:Bb p q<0:=by
    rcases m with a|⟨a,_⟩
    ·exact a
    ·exact Decidable.byContradiction λs=>c ((Lh p q).2 ⟨s,a⟩)
   have d:∀y k,(y,k)∈(q,j)::r->Bb p y<0:=λy k hy=>by
    rcases Yx.1 hy with hy|hy
    ·cases hy;exact f
    ·rcases(Y1.1 o).1 (y,k) hy with a|⟨a,_⟩
     ·exact FL.tr _ _ _ f a
     ·exact Zwv f a
   refine⟨Y1.2 ⟨λx hx=>?_,n⟩,λx=>?_⟩
   ·obtain⟨k,a,_⟩:=(g x).1 hx;exact d x k a
   ·rw[Yx,g];constructor
    ·rintro(rfl|⟨k,a,b⟩)
     ·refine⟨i,YH,λy k hy e=>?_⟩;rcases Yx.1 hy with hy|hy
      ·cases hy;exact Yf _
      ·exact absurd (d y k hy) ((Lh _ _).1 e).1
     ·refine⟨k,YI _ a,λy l hy e=>?_⟩;rcases Yx.1 hy with hy|hy
      ·cases hy;exact absurd (d x k a) ((Lh _ _).1 e).2
      ·exact b y l hy e
    ·rintro⟨k,a,b⟩;rcases Yx.1 a with a|a
     ·cases a;exact .inl rfl
     ·exact .inr ⟨k,a,λy l hy e=>b y l (YI _ hy) e⟩
theorem Zqv(l:List Pr):Fk (Ce Bb l)=BY l:=by
 obtain⟨r,c,d,e⟩:=Wf FL l 0 [] .nil (λa f=>by cases f);obtain⟨s1,s2⟩:=wb r d;have c:Ce Bb l=r.map (·.1):=c;rw[c];refine hZ s1 (IP l) λx=>(s2 x).trans (Iff.trans ?_ KQ.symm);have hm:∀y k,(y,k)∈r↔l[k]?=some y:=λy k=>by rw[e.mem_iff,Ge];exact List.mem_zipIdx_iff_getElem?
 constructor
 ·rintro⟨j,a,b⟩;exact⟨j,(hm x j).1 a,λk y g=>b y k ((hm y k).2 g)⟩
 ·rintro⟨j,a,b⟩;exact⟨j,(hm x j).2 a,λy k hy=>b k y ((hm y k).1 hy)⟩
end Go.Proofs.YthcplkfhnnlafaaGreat
