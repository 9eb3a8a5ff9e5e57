import Derived.Test.YtalafnjhcecdpaaGreatDoorZa26
import Derived.Test.YtalafnjhcecdpaaGreatDoorZa25
import Derived.Test.YtalafnjhcecdpaaGreatDoorZa23
import Derived.Test.YtalafnjhcecdpaaGreatDoorZa24
import Derived.Test.YtalafnjhcecdpaaGreatDoorZa00
namespace Go.Proofs.YtalafnjhcecdpaaGreatDoor
set_option linter.all false
open Go Go.Eng
section
variable {α:Type} [Rw α] [Tid α]
def AQ(pf:α->α->Option Int)(cmp:α->α->Int)(l:List α):Prop:=∀x∈l,∀y∈l,pf x y=some (cmp x y)
theorem AQ.perm{pf:α->α->Option Int}{cmp:α->α->Int}{l v:List α}(h:AQ pf cmp l)(p:v.Perm l):AQ pf cmp v:=λx hx y hy=>h x (p.mem_iff.1 hx) y (p.mem_iff.1 hy)
theorem AQ.atI{pf:α->α->Option Int}{cmp:α->α->Int}{l:List α}(h:AQ pf cmp l){i j:Nat}(hi:i<l.length)(a:j<l.length):pf (l.getD i Rw.z) (l.getD j Rw.z)=some (cmp (l.getD i Rw.z) (l.getD j Rw.z)):=by
 have e:∀k (h:k<l.length),l.getD k Rw.z=l[k]:=λk h=>by rw[Yg,Yd h,YI]
 rw[e i hi,e j a];exact h _ (Hc hi) _ (Hc a)
theorem ZI7(l:List α)(a b:Nat)(pf:α->α->Option Int)(cmp:α->α->Int)(B:AQ pf cmp l)(k:Int)(hl:l.length<=4194304):∀(j:Nat) (v:List α) (N c:Nat),j<N->j<c->j<l.length->v.Perm l->
  ∃p i,Fb (Rw.z:α) a cmp c j v=.inl (p,i)/\Aj (Fk l (a:Int) (b:Int) pf k) N ((j:Int),v)=some (.inl i)/\i.Perm l:=by
 intro j
 induction j with
 |zero=>
  intro v N c hN z A d;have o:=d.length_eq;obtain⟨N,rfl⟩:∃m,N=m+1:=⟨N-1,ae⟩;obtain⟨c,rfl⟩:∃m,c=m+1:=⟨c-1,ae⟩;have g:¬(a:Int)<((0:Nat):Int):=ae
  refine⟨0,v,by rw[Fb];simp only[g,Yx,Y5,cond_false],?_,d⟩;have e:Fk l (a:Int) (b:Int) pf k (((0:Nat):Int),v)=some (.ex v):=by dsimp only[Fk,br,vz,vs,vg,ln,Af,HQ,wi,AG,ca,Fy,st,Ca,fl,br,AG];grind
  rw[Aj,e]
 |succ j C=>
  intro v N c hN z A d;have o:=d.length_eq;obtain⟨N,rfl⟩:∃m,N=m+1:=⟨N-1,ae⟩;obtain⟨c,rfl⟩:∃m,c=m+1:=⟨c-1,ae⟩;by_cases g:(a:Int)<((j+1:Nat):Int)
  ·have s:((j+1:Nat):Int)-1=(j:Int):=ae;have y: -9223372036854775808<=(j:Int)/\(j:Int)<9223372036854775808:=ae;have w:(0:Int)<=((j+1:Nat):Int)/\((j+1:Nat):Int)<(l.length:Int):=ae;have x:(0:Int)<=(j:Int)/\(j:Int)<(l.length:Int):=ae;have f:j+1<v.length:=ae;have h:j<v.length:=ae;have q:v[j+1]?=some (v.getD (j+1) Rw.z):=(by rw[Yg,Yd f];rfl);have r:v[j]?=some (v.getD j Rw.z):=(by rw[Yg,Yd h];rfl);have t:j+1-1=j:=rfl;have u:=(B.perm d).atI f h;by_cases n:cmp (v.getD (j+1) Rw.z) (v.getD j Rw.z)<0
   ·obtain⟨p,i,D,E,F⟩:=C ((v.set (j+1) (v.getD j Rw.z)).set j (v.getD (j+1) Rw.z)) N c ae ae ae ((LB v (j+1) j f h).trans d);refine⟨p,i,by rw[Fb];simp only[g,t,n,Yo,H1,cond_true];exact D,?_,F⟩;have e:Fk l (a:Int) (b:Int) pf k (((j+1:Nat):Int),v)=some (.nx ((j:Int),(v.set (j+1) (v.getD j Rw.z)).set j (v.getD (j+1) Rw.z))):=(by dsimp only[Fk,br,vz,vs,vg,ln,Af,HQ,wi,AG,ca,Fy,st,Ca,fl,br,AG];simp only[g,s,y,w,x,f,h,q,r,u,n,Yo,forall_const,B5,H1,Yp,YW,Y0,YI,Ya,R8]);rw[Aj,e];exact E
   ·refine⟨j+1,v,by rw[Fb];simp only[g,t,n,Yo,Yx,Gp,cond_false],?_,d⟩;have e:Fk l (a:Int) (b:Int) pf k (((j+1:Nat):Int),v)=some (.ex v):=(by dsimp only[Fk,br,vz,vs,vg,ln,Af,HQ,wi,AG,ca,Fy,st,Ca,fl,br,AG];simp only[g,s,y,w,x,f,h,u,n,Yo,Yx,forall_const,B5,Gp,Yi,Yp,YC,YW,Y0,YI]);rw[Aj,e]
  ·refine⟨j+1,v,by rw[Fb];simp only[g,Yx,Y5,cond_false],?_,d⟩;have e:Fk l (a:Int) (b:Int) pf k (((j+1:Nat):Int),v)=some (.ex v):=(by dsimp only[Fk,br,vz,vs,vg,ln,Af,HQ,wi,AG,ca,Fy,st,Ca,fl,br,AG];simp only[g,Yx,Yi,H3,Y5,Yp,YC]);rw[Aj,e]
theorem gt(l:List α)(a b:Nat)(pf:α->α->Option Int)(cmp:α->α->Int)(n:AQ pf cmp l)(hl:l.length<=4194304)(o:b<=l.length):∀(d i:Nat) (v:List α) (N c:Nat),b-i<=d->d<N->b-i<c->v.Perm l->
  ∃k e,Gz (Rw.z:α) a b cmp c i v=.inl (k,e)/\(i<4611686018427387904->Aj (Io l (a:Int) (b:Int) pf) N ((i:Int),v)=some (.inl e))/\e.Perm l
 |d,i,v,N,c,u,hN,x,j=>by
  have p:=j.length_eq;obtain⟨N,rfl⟩:∃m,N=m+1:=⟨N-1,ae⟩;obtain⟨c,rfl⟩:∃m,c=m+1:=⟨c-1,ae⟩;by_cases g:i<b
  ·obtain⟨d,rfl⟩:∃m,d=m+1:=⟨d-1,ae⟩;have f:(i:Int)<(b:Int):=ae;obtain⟨y,w,q,z,r⟩:=ZI7 l a b pf cmp n (i:Int) hl i v Ah (i+1) (AM ae) ae ae j;obtain⟨k,e,s,A,t⟩:=gt l a b pf cmp n hl o d (i+1) w N c ae ae ae r;refine⟨k,e,by rw[Gz];simp only[f,Yo,cond_true,q,C2];exact s,λhi=>?_,t⟩;have B: -9223372036854775808<=(i:Int)+1/\(i:Int)+1<9223372036854775808:=ae;have h:Io l (a:Int) (b:Int) pf ((i:Int),v)=some (.nx ((i:Int)+1,w)):=(by dsimp only[Io,br,vz,vs,ln,Af,lc,wi,fl,br];grind);rw[Aj,h];grind
  ·have f:¬(i:Int)<(b:Int):=ae;refine⟨i,v,by rw[Gz];simp only[f,Yx,cond_false],λ_=>?_,j⟩;have h:Io l (a:Int) (b:Int) pf ((i:Int),v)=some (.ex v):=(by dsimp only[Io,br,vz,vs,ln,Af,lc,wi,fl,br];grind);rw[Aj,h]
theorem oo(l:List α)(a b:Nat)(pf:α->α->Option Int)(cmp:α->α->Int)(d:AQ pf cmp l)(hl:l.length<=4194304)(h:a<=4194304)(c:b<=l.length):JQ l (a:Int) (b:Int) pf=some (DI Rw.z l a b cmp):=by
 obtain⟨i,k,e,f,j⟩:=gt l a b pf cmp d hl c (b-(a+1)) (a+1) l Ah (b-(a+1)+1) (Yf _) (AM ae) ae (.refl _);have m: -9223372036854775808<=(a:Int)+1/\(a:Int)+1<9223372036854775808:=ae
 have g:=f ae;rw[show((a+1:Nat):Int)=(a:Int)+1 from by omega]at g;unfold JQ DI;rw[e];dsimp only[JQ,Qu,vz,vs,lr,lc,wi,fl];grind
theorem vF(l:List α)(a b:Nat)(cmp:α->α->Int)(hl:l.length<=4194304)(c:b<=l.length):(DI (Rw.z:α) l a b cmp).Perm l:=by obtain⟨f,g,d,_,e⟩:=gt l a b (λx y=>some (cmp x y)) cmp (λ_ _ _ _=>rfl) hl c (b-(a+1)) (a+1) l (b-(a+1)+1) (b-(a+1)+1) (Yf _) ae ae (.refl _);unfold DI;rw[d];exact e
end
end Go.Proofs.YtalafnjhcecdpaaGreatDoor
namespace Go.Proofs.YtalafnjhcecdpaaGreatDoor
set_option linter.all false
open Go Go.Eng
section
variable {α:Type} [Rw α] [Tid α]
def TF(pf:α->α->Option Int)(cmp:α->α->Int):Prop:=∀(c:Nat) (l:List α) (a m b:Nat),AQ pf cmp l->l.length<=4194304->b-a<c->a<m->m<b->b<=l.length->Dn c l (a:Int) (m:Int) (b:Int) pf=some (A2 Rw.z c l a m b cmp)/\(A2 (Rw.z:α) c l a m b cmp).Perm l
section
variable {pf:α->α->Option Int} {cmp:α->α->Int}
theorem mj(l:List α)(k:AQ pf cmp l)(hl:l.length<=4194304):∀(d x y:Nat) (v:List α) (N a:Nat),l.length+1-y<=d->d<N->l.length+1-y<a->x<=l.length->v.Perm l->
  ∃x' i c,Hm (Rw.z:α) l.length cmp a x y v=.inl (x',i,c)/\Aj (Iw l (l.length:Int) pf) N (x,y,v)=some (.inl (x',c))/\c.Perm l/\x'<=l.length
 |d,x,y,v,N,a,r,hN,s,hx,e=>by
  have n:=e.length_eq;obtain⟨N,rfl⟩:∃m,N=m+1:=⟨N-1,ae⟩;obtain⟨a,rfl⟩:∃m,a=m+1:=⟨a-1,ae⟩;by_cases g:y<=l.length
  ·obtain⟨d,rfl⟩:∃m,d=m+1:=⟨d-1,ae⟩;have f:(y:Int)<=(l.length:Int):=ae;have hs:=oo v x y pf cmp (k.perm e) ae ae ae;have b:=(vF v x y cmp ae ae).trans e;have j:=b.length_eq;obtain⟨x',i,c,o,p,q⟩:=mj l k hl d y (y+20) (DI Rw.z v x y cmp) N a ae ae ae g b;refine⟨x',i,c,by rw[Hm,Yq f,cond_true];exact o,?_,q⟩;have t:y+20<9223372036854775808:=ae;have h:Iw l (l.length:Int) pf (x,y,v)=some (.nx (y,y+20,DI Rw.z v x y cmp)):=(by dsimp only[Iw,br,vz,vs,v2,ln,Af,lc,wa,fl,br,wm];grind);rw[Aj,h];exact p
  ·have f:¬(y:Int)<=(l.length:Int):=ae;refine⟨x,y,v,by rw[Hm,Ys f,cond_false],?_,e,hx⟩;have h:Iw l (l.length:Int) pf (x,y,v)=some (.ex (x,v)):=(by dsimp only[Iw,br,vz,vs,v2,ln,Af,lc,wa,fl,br,wm];grind);rw[Aj,h]
theorem mG(n:TF pf cmp)(l:List α)(o:AQ pf cmp l)(hl:l.length<=4194304)(s:Nat)(i:0<s)(j:s<=l.length):∀(d x y:Nat) (v:List α) (N a:Nat),l.length+1-y<=d->d<N->l.length+1-y<a->x<=l.length->y=x+2*s->v.Perm l->
  ∃x' k b,Hl (Rw.z:α) l.length cmp s a x y v=.inl (x',k,b)/\Aj (It l (l.length:Int) pf s) N (x,y,v)=some (.inl (x',b))/\b.Perm l/\x'<=l.length
 |d,x,y,v,N,a,w,hN,z,hx,hy,c=>by
  have p:=c.length_eq;obtain⟨N,rfl⟩:∃m,N=m+1:=⟨N-1,ae⟩;obtain⟨a,rfl⟩:∃m,a=m+1:=⟨a-1,ae⟩;by_cases g:y<=l.length
  ·obtain⟨d,rfl⟩:∃m,d=m+1:=⟨d-1,ae⟩;have e:(y:Int)<=(l.length:Int):=ae;obtain⟨hs,h⟩:=n (y-x+1) v x (x+s) y (o.perm c) ae ae ae ae ae;obtain⟨x',k,b,q,r,t⟩:=mG n l o hl s i j d y (y+2*s) (A2 Rw.z (y-x+1) v x (x+s) y cmp) N a ae ae ae g rfl (h.trans c);refine⟨x',k,b,by rw[Hl,Yq e,cond_true];exact q,?_,t⟩;have A:y+2*s<9223372036854775808:=ae;have w2:2*s<9223372036854775808:=ae;have B:x+s<9223372036854775808:=ae;have u:((y:Int)-(x:Int)+1).toNat=y-x+1:=ae;have f:It l (l.length:Int) pf s (x,y,v)=some (.nx (y,y+2*s,A2 Rw.z (y-x+1) v x (x+s) y cmp)):=(by dsimp only[It,br,vz,vs,ln,Af,lc,wa,fl,br,wm];grind);rw[Aj,f];exact r
  ·have e:¬(y:Int)<=(l.length:Int):=ae;refine⟨x,y,v,by rw[Hl,Ys e,cond_false],?_,c,hx⟩;have f:It l (l.length:Int) pf s (x,y,v)=some (.ex (x,v)):=(by dsimp only[It,br,vz,vs,ln,Af,lc,wa,fl,br,wm];grind);rw[Aj,f]
theorem ZE(h:TF pf cmp)(l:List α)(i:AQ pf cmp l)(hl:l.length<=4194304):∀(d s:Nat) (v:List α) (N a:Nat),0<s->l.length-s<=d->d<N->l.length-s<a->v.Perm l->
  ∃s' c,FP (Rw.z:α) l.length cmp a s v=.inl (s',c)/\Aj (GM l (l.length:Int) pf) N (s,v)=some (.inl c)/\c.Perm l
 |d,s,v,N,a,n,C,hN,D,o=>by
  have z:=o.length_eq;obtain⟨N,rfl⟩:∃m,N=m+1:=⟨N-1,ae⟩;obtain⟨a,rfl⟩:∃m,a=m+1:=⟨a-1,ae⟩;by_cases g:s<l.length
  ·obtain⟨d,rfl⟩:∃m,d=m+1:=⟨d-1,ae⟩;have f:(s:Int)<(l.length:Int):=ae;obtain⟨x,y,w,t,E,j,F⟩:=mG h l i hl s n ae (l.length+1-2*s) 0 (2*s) v Ah (l.length+1-2*s+1) (Yf _) (AM ae) ae ae ae o;have A:=j.length_eq;have G:s*2<9223372036854775808:=ae;have w2:2*s<9223372036854775808:=ae;have H:x+s<9223372036854775808:=ae;by_cases u:x+s<l.length
   ·have b:((x+s:Nat):Int)<(l.length:Int):=ae;obtain⟨hs,k⟩:=h (l.length-x+1) w x (x+s) l.length (i.perm j) ae ae ae u ae;obtain⟨s',c,p,q,r⟩:=ZE h l i hl d (s*2) (A2 Rw.z (l.length-x+1) w x (x+s) l.length cmp) N a ae ae ae ae (k.trans j);refine⟨s',c,by rw[FP,Yq f,cond_true,t];simp only[C2,Yq b,cond_true];exact p,?_,r⟩;have B:((l.length:Int)-(x:Int)+1).toNat=l.length-x+1:=ae;have e:GM l (l.length:Int) pf (s,v)=some (.nx (s*2,A2 Rw.z (l.length-x+1) w x (x+s) l.length cmp)):=(by dsimp only[GM,br,vz,vs,ln,Af,lc,wa,fl,br,wm];grind);rw[Aj,e];exact q
   ·have b:¬((x+s:Nat):Int)<(l.length:Int):=ae;obtain⟨s',c,p,q,r⟩:=ZE h l i hl d (s*2) w N a ae ae ae ae j;refine⟨s',c,by rw[FP,Yq f,cond_true,t];simp only[C2,Ys b,cond_false];exact p,?_,r⟩;have e:GM l (l.length:Int) pf (s,v)=some (.nx (s*2,w)):=(by dsimp only[GM,br,vz,vs,ln,Af,lc,wa,fl,br,wm];grind);rw[Aj,e];exact q
  ·have f:¬(s:Int)<(l.length:Int):=ae;refine⟨s,v,by rw[FP,Ys f,cond_false],?_,o⟩;have e:GM l (l.length:Int) pf (s,v)=some (.ex v):=(by dsimp only[GM,br,vz,vs,ln,Af,lc,wa,fl,br,wm];grind);rw[Aj,e]
theorem gP(d:TF pf cmp)(l:List α)(a:AQ pf cmp l)(hl:l.length<=4194304):FN l pf=some (Gy Rw.z l cmp):=by obtain⟨x,y,w,f,g,c,h⟩:=mj l a hl (l.length+1-20) 0 20 l Ah (l.length+1-20+1) (Yf _) (AM ae) ae ae (.refl _);have e:=c.length_eq;have hs:=oo w x l.length pf cmp (a.perm c) ae ae ae;have b:=(vF w x l.length cmp ae ae).trans c;obtain⟨s',m,i,j,k⟩:=ZE d l a hl (l.length-20) 20 (DI Rw.z w x l.length cmp) Ah (l.length-20+1) ae (Yf _) (AM ae) ae b;unfold FN Gy Ux;rw[f];dsimp only[FN,Ru,vz,lr,lc,fl,A1,Ng,Qn,vz,lr,lc,fl,Ng,wm];grind
end
end
theorem ZN0{n:Nat}(h:n<9223372036854775808):IntKind.u64.wrap (n:Int)=(n:Int):=by simp only[IntKind.wrap,IntKind.bits,IntKind.signed];simp;omega
theorem ZNb{n:Nat}(h:n<9223372036854775808):IntKind.i64.wrap (n:Int)=(n:Int):=by simp only[IntKind.wrap,IntKind.bits,IntKind.signed];simp;omega
theorem Kn{x y:Nat}(h:x+y<9223372036854775808):IntKind.i64.wrap (Am .u64 (IntKind.u64.wrap ((x:Int)+(y:Int))) 1)=(((x+y)/2:Nat):Int):=by
 rw[show(x:Int)+(y:Int)=((x+y:Nat):Int)from by omega,ZN0 h];have:Am .u64 ((x+y:Nat):Int) 1=(((x+y)/2:Nat):Int):=by
  unfold Am;have e:(2:Int)^(min (1:Int).toNat IntKind.u64.bits)=2:=by decide
  rw[e,Int.fdiv_eq_ediv_of_nonneg _ (by decide)];omega
 rw[this];exact ZNb ae
section
variable {α:Type} [Rw α] [Tid α]
theorem gu(l:List α)(R:List α->Int->Int->Int->(α->α->Option Int)->Option (List α))(a:Nat)(pf:α->α->Option Int)(cmp:α->α->Int)(o:AQ pf cmp l)(hl:l.length<=4194304)(k:a<l.length):∀(d i j N b:Nat),j-i<=d->d<N->j-i<b->i<=j->j<=l.length->
  ∃c f,Fc (Rw.z:α) l a cmp b i j=.inl (c,f)/\Aj (GL l (a:Int) pf R) N ((i:Int),(j:Int))=some (.inl (c:Int))/\i<=c/\c<=j
 |d,i,j,N,b,A,hN,B,n,C=>by
  obtain⟨N,rfl⟩:∃m,N=m+1:=⟨N-1,ae⟩;obtain⟨b,rfl⟩:∃m,b=m+1:=⟨b-1,ae⟩;by_cases g:i<j
  ·obtain⟨d,rfl⟩:∃m,d=m+1:=⟨d-1,ae⟩;have h:(i:Int)<(j:Int):=ae;have t:i<=(i+j)/2:=ae;have u:(i+j)/2<j:=ae;have v:=Kn (x:=i) (y:=j) ae;have E: -9223372036854775808<=(i:Int)+(j:Int)/\(i:Int)+(j:Int)<9223372036854775808:=ae;have s:(0:Int)<=1:=(by decide);have D:=o.atI (i:=(i+j)/2) (j:=a) ae k;by_cases r:cmp (l.getD ((i+j)/2) Rw.z) (l.getD a Rw.z)<0
   ·obtain⟨c,f,p,q,w,z⟩:=gu l R a pf cmp o hl k d ((i+j)/2+1) j N b ae ae ae ae ae;refine⟨c,f,by rw[Fc,Yq h,cond_true,Yq r];exact p,?_,ae,ae⟩;have e:GL l (a:Int) pf R ((i:Int),(j:Int))=some (.nx (((((i+j)/2:Nat):Int)+1),(j:Int))):=(by dsimp only[GL,br,vz,vs,v2,ln,Af,cf,wi,AG,ca,fl,br,AG,wk,shr];grind);rw[Aj,e];exact q
   ·obtain⟨c,f,p,q,w,z⟩:=gu l R a pf cmp o hl k d i ((i+j)/2) N b ae ae ae ae ae;refine⟨c,f,by rw[Fc,Yq h,cond_true,Ys r];exact p,?_,ae,ae⟩;have e:GL l (a:Int) pf R ((i:Int),(j:Int))=some (.nx ((i:Int),(((i+j)/2:Nat):Int))):=(by dsimp only[GL,br,vz,vs,v2,ln,Af,cf,wi,AG,ca,fl,br,AG,wk,shr];grind);rw[Aj,e];exact q
  ·have h:¬(i:Int)<(j:Int):=ae;refine⟨i,j,by rw[Fc,Ys h,cond_false],?_,Yf _,n⟩;have e:GL l (a:Int) pf R ((i:Int),(j:Int))=some (.ex (i:Int)):=(by dsimp only[GL,br,vz,vs,v2,ln,Af,cf,wi,AG,ca,fl,br,AG,wk,shr];grind);rw[Aj,e]
theorem fV(l:List α)(R:List α->Int->Int->Int->(α->α->Option Int)->Option (List α))(a:Nat)(pf:α->α->Option Int)(cmp:α->α->Int)(o:AQ pf cmp l)(hl:l.length<=4194304)(k:a<l.length):∀(d i j N b:Nat),j-i<=d->d<N->j-i<b->i<=j->j<=l.length->
  ∃c f,Fe (Rw.z:α) l a cmp b i j=.inl (c,f)/\Aj (GH l (a:Int) pf R) N ((i:Int),(j:Int))=some (.inl (c:Int))/\i<=c/\c<=j
 |d,i,j,N,b,A,hN,B,n,C=>by
  obtain⟨N,rfl⟩:∃m,N=m+1:=⟨N-1,ae⟩;obtain⟨b,rfl⟩:∃m,b=m+1:=⟨b-1,ae⟩;by_cases g:i<j
  ·obtain⟨d,rfl⟩:∃m,d=m+1:=⟨d-1,ae⟩;have h:(i:Int)<(j:Int):=ae;have t:i<=(i+j)/2:=ae;have u:(i+j)/2<j:=ae;have v:=Kn (x:=i) (y:=j) ae;have E: -9223372036854775808<=(i:Int)+(j:Int)/\(i:Int)+(j:Int)<9223372036854775808:=ae;have s:(0:Int)<=1:=(by decide);have D:=o.atI (i:=a) (j:=(i+j)/2) k ae;by_cases r:cmp (l.getD a Rw.z) (l.getD ((i+j)/2) Rw.z)<0
   ·obtain⟨c,f,p,q,w,z⟩:=fV l R a pf cmp o hl k d i ((i+j)/2) N b ae ae ae ae ae;refine⟨c,f,by rw[Fe,Yq h,cond_true,Yq r];exact p,?_,ae,ae⟩;have e:GH l (a:Int) pf R ((i:Int),(j:Int))=some (.nx ((i:Int),(((i+j)/2:Nat):Int))):=(by dsimp only[GH,br,vz,vs,ln,Af,cf,wi,AG,ca,fl,br,AG,wk,shr];grind);rw[Aj,e];exact q
   ·obtain⟨c,f,p,q,w,z⟩:=fV l R a pf cmp o hl k d ((i+j)/2+1) j N b ae ae ae ae ae;refine⟨c,f,by rw[Fe,Yq h,cond_true,Ys r];exact p,?_,ae,ae⟩;have e:GH l (a:Int) pf R ((i:Int),(j:Int))=some (.nx (((((i+j)/2:Nat):Int)+1),(j:Int))):=(by dsimp only[GH,br,vz,vs,ln,Af,cf,wi,AG,ca,fl,br,AG,wk,shr];grind);rw[Aj,e];exact q
  ·have h:¬(i:Int)<(j:Int):=ae;refine⟨i,j,by rw[Fe,Ys h,cond_false],?_,Yf _,n⟩;have e:GH l (a:Int) pf R ((i:Int),(j:Int))=some (.ex (i:Int)):=(by dsimp only[GH,br,vz,vs,ln,Af,cf,wi,AG,ca,fl,br,AG,wk,shr];grind);rw[Aj,e]
end
section
variable {α:Type} [Rw α] [Tid α]
theorem jq(l:List α)(R:List α->Int->Int->Int->(α->α->Option Int)->Option (List α))(pf:α->α->Option Int)(a0:Nat×Nat)(hl:l.length<=4194304)(j:1<=a0.1)(k:a0.1<=l.length):∀(d i:Nat) (v:List α) (N a:Nat),a0.1-1-i<=d->d<N->a0.1-1-i<a->v.Perm l->i<=l.length->
  ∃h b,Gv (Rw.z:α) a0 a i v=.inl (h,b)/\Aj (Iv l pf R (a0.1:Int)) N ((i:Int),v)=some (.inl b)/\b.Perm l
 |d,i,v,N,a,w,hN,x,f,hi=>by
  have n:=f.length_eq;obtain⟨N,rfl⟩:∃m,N=m+1:=⟨N-1,ae⟩;obtain⟨a,rfl⟩:∃m,a=m+1:=⟨a-1,ae⟩;have u:(a0.1:Int)-1=((a0.1-1:Nat):Int):=ae
  have C: -9223372036854775808<=((a0.1-1:Nat):Int)/\((a0.1-1:Nat):Int)<9223372036854775808:=ae
  by_cases g:i<a0.1-1
  ·obtain⟨d,rfl⟩:∃m,d=m+1:=⟨d-1,ae⟩;have c:(i:Int)<((a0.1-1:Nat):Int):=ae;obtain⟨h,b,q,r,s⟩:=jq l R pf a0 hl j k d (i+1) ((v.set i (v.getD (i+1) Rw.z)).set (i+1) (v.getD i Rw.z)) N a ae ae ae ((LB v i (i+1) ae ae).trans f) ae;refine⟨h,b,by rw[Gv,Yq c,cond_true];exact q,?_,s⟩;have t:(i:Int)+1=((i+1:Nat):Int):=ae;have B: -9223372036854775808<=((i+1:Nat):Int)/\((i+1:Nat):Int)<9223372036854775808:=ae;have y:(0:Int)<=(i:Int)/\(i:Int)<(l.length:Int):=ae;have z:(0:Int)<=((i+1:Nat):Int)/\((i+1:Nat):Int)<(l.length:Int):=ae;have o:i<v.length:=ae;have p:i+1<v.length:=ae;have A:v[i]?=some (v.getD i Rw.z):=(by rw[Yg,Yd o];rfl);have v2:v[i+1]?=some (v.getD (i+1) Rw.z):=(by rw[Yg,Yd p];rfl);have e:Iv l pf R (a0.1:Int) ((i:Int),v)=some (.nx (((i+1:Nat):Int),(v.set i (v.getD (i+1) Rw.z)).set (i+1) (v.getD i Rw.z))):=(by dsimp only[Iv,br,vz,vs,ln,Af,wi,AG,ca,st,Ca,fl,br,AG,wk,shr];grind);rw[Aj,e];exact r
  ·have c:¬(i:Int)<((a0.1-1:Nat):Int):=ae;refine⟨i,v,by rw[Gv,Ys c,cond_false],?_,f⟩;have e:Iv l pf R (a0.1:Int) ((i:Int),v)=some (.ex v):=(by dsimp only[Iv,br,vz,vs,ln,Af,wi,AG,ca,st,Ca,fl,br,AG,wk,shr];grind);rw[Aj,e]
theorem ZJ8(l:List α)(R:List α->Int->Int->Int->(α->α->Option Int)->Option (List α))(pf:α->α->Option Int)(b:Nat×Nat)(hl:l.length<=4194304):∀(i:Nat) (v:List α) (N a:Nat),i<N->i<a->v.Perm l->i<l.length->
  ∃h f,FK (Rw.z:α) b a i v=.inl (h,f)/\Aj (GJ l pf R (b.1:Int)) N ((i:Int),v)=some (.inl f)/\f.Perm l:=by
 intro i
 induction i with
 |zero=>
  intro v N a hN o d hi;have g:=d.length_eq;obtain⟨N,rfl⟩:∃m,N=m+1:=⟨N-1,ae⟩;obtain⟨a,rfl⟩:∃m,a=m+1:=⟨a-1,ae⟩;have c:¬(b.1:Int)<((0:Nat):Int):=ae
  refine⟨0,v,by rw[FK,Ys c,cond_false],?_,d⟩;have e:GJ l pf R (b.1:Int) (((0:Nat):Int),v)=some (.ex v):=by dsimp only[GJ,br,vz,vs,ln,Af,wi,AG,ca,st,Ca,fl,br,AG,wk,shr];grind
  rw[Aj,e]
 |succ i p=>
  intro v N a hN o d hi;have g:=d.length_eq;obtain⟨N,rfl⟩:∃m,N=m+1:=⟨N-1,ae⟩;obtain⟨a,rfl⟩:∃m,a=m+1:=⟨a-1,ae⟩;by_cases c:(b.1:Int)<((i+1:Nat):Int)
  ·obtain⟨h,f,q,r,s⟩:=p ((v.set (i+1) (v.getD i Rw.z)).set i (v.getD (i+1) Rw.z)) N a ae ae ((LB v (i+1) i ae ae).trans d) ae;refine⟨h,f,by rw[FK,Yq c,cond_true];exact q,?_,s⟩;have n:((i+1:Nat):Int)-1=(i:Int):=ae;have x: -9223372036854775808<=(i:Int)/\(i:Int)<9223372036854775808:=ae;have t:(0:Int)<=(i:Int)/\(i:Int)<(l.length:Int):=ae;have u:(0:Int)<=((i+1:Nat):Int)/\((i+1:Nat):Int)<(l.length:Int):=ae;have j:i<v.length:=ae;have k:i+1<v.length:=ae;have w:v[i]?=some (v.getD i Rw.z):=(by rw[Yg,Yd j];rfl);have v2:v[i+1]?=some (v.getD (i+1) Rw.z):=(by rw[Yg,Yd k];rfl);have e:GJ l pf R (b.1:Int) (((i+1:Nat):Int),v)=some (.nx ((i:Int),(v.set (i+1) (v.getD i Rw.z)).set i (v.getD (i+1) Rw.z))):=(by dsimp only[GJ,br,vz,vs,ln,Af,wi,AG,ca,st,Ca,fl,br,AG,wk,shr];simp only[c,n,x,t,u,j,k,w,v2,Yo,Yp,B5,YW,Ya,R8]);rw[Aj,e];exact r
  ·refine⟨i+1,v,by rw[FK,Ys c,cond_false],?_,d⟩;have e:GJ l pf R (b.1:Int) (((i+1:Nat):Int),v)=some (.ex v):=(by dsimp only[GJ,br,vz,vs,ln,Af,wi,AG,ca,st,Ca,fl,br,AG,wk,shr];simp only[c,Yx,Yi,YC]);rw[Aj,e]
end
section
variable {α:Type} [Rw α] [Tid α]
theorem eY(l:List α)(R:List α->Int->Int->Int->(α->α->Option Int)->Option (List α))(a m b:Nat)(pf:α->α->Option Int)(cmp:α->α->Int)(q:AQ pf cmp l)(hl:l.length<=4194304)(t:a<m)(u:m<b)(v:b<=l.length):∀(d i j N c:Nat),j-i<=d->d<N->j-i<c->i<=j->j<=(a+b)/2+m/\j<=l.length->(a+b)/2+m<=l.length+i->
  ∃e h,FL (Rw.z:α) l a m b cmp c i j=.inl (e,h)/\Aj (DD l (a:Int) (m:Int) (b:Int) pf R) N ((i:Int),(j:Int))=some (.inl (e:Int))/\i<=e/\e<=j
 |d,i,j,N,c,E,hN,F,p,G,hi=>by
  obtain⟨N,rfl⟩:∃m,N=m+1:=⟨N-1,ae⟩;obtain⟨c,rfl⟩:∃m,c=m+1:=⟨c-1,ae⟩;by_cases g:i<j
  ·obtain⟨d,rfl⟩:∃m,d=m+1:=⟨d-1,ae⟩;have o:(i:Int)<(j:Int):=ae;have A:i<=(i+j)/2:=ae;have B:(i+j)/2<j:=ae;have n:=Kn (x:=i) (y:=j) ae;have k:=Kn (x:=a) (y:=b) ae;have e0:(((a+b)/2:Nat):Int)+(m:Int)-1=(((a+b)/2+m-1:Nat):Int):=ae;have I: -9223372036854775808<=(i:Int)+(j:Int)/\(i:Int)+(j:Int)<9223372036854775808:=ae;have z:(0:Int)<=1:=(by decide);have H:=q.atI (i:=(a+b)/2+m-1-(i+j)/2) (j:=(i+j)/2) ae ae;by_cases w:cmp (l.getD ((a+b)/2+m-1-(i+j)/2) Rw.z) (l.getD ((i+j)/2) Rw.z)<0
   ·obtain⟨e,h,r,s,C,D⟩:=eY l R a m b pf cmp q hl t u v d i ((i+j)/2) N c ae ae ae ae ae ae;refine⟨e,h,by rw[FL,Yq o,cond_true,Yq w];exact r,?_,ae,ae⟩;have f:DD l (a:Int) (m:Int) (b:Int) pf R ((i:Int),(j:Int))=some (.nx ((i:Int),(((i+j)/2:Nat):Int))):=(by dsimp only[DD,br,vz,vs,ln,Af,cf,wi,AG,ca,fl,br,AG,wk,shr];rw[n,k,e0];grind);rw[Aj,f];exact s
   ·obtain⟨e,h,r,s,C,D⟩:=eY l R a m b pf cmp q hl t u v d ((i+j)/2+1) j N c ae ae ae ae ae ae;refine⟨e,h,by rw[FL,Yq o,cond_true,Ys w];exact r,?_,ae,ae⟩;have f:DD l (a:Int) (m:Int) (b:Int) pf R ((i:Int),(j:Int))=some (.nx (((((i+j)/2:Nat):Int)+1),(j:Int))):=(by dsimp only[DD,br,vz,vs,ln,Af,cf,wi,AG,ca,fl,br,AG,wk,shr];rw[n,k,e0];grind);rw[Aj,f];exact s
  ·have o:¬(i:Int)<(j:Int):=ae;refine⟨i,j,by rw[FL,Ys o,cond_false],?_,Yf _,p⟩;have f:DD l (a:Int) (m:Int) (b:Int) pf R ((i:Int),(j:Int))=some (.ex (i:Int)):=(by dsimp only[DD,br,vz,vs,ln,Af,cf,wi,AG,ca,fl,br,AG,wk,shr];grind);rw[Aj,f]
theorem fg(l:List α)(R:List α->Int->Int->Int->(α->α->Option Int)->Option (List α))(a m b:Nat)(pf:α->α->Option Int)(cmp:α->α->Int)(q:AQ pf cmp l)(hl:l.length<=4194304)(t:a<m)(u:m<b)(v:b<=l.length):∀(d i j N c:Nat),j-i<=d->d<N->j-i<c->i<=j->j<=(a+b)/2+m/\j<=l.length->(a+b)/2+m<=l.length+i->
  ∃e h,FM (Rw.z:α) l a m b cmp c i j=.inl (e,h)/\Aj (DD l (a:Int) (m:Int) (b:Int) pf R) N ((i:Int),(j:Int))=some (.inl (e:Int))/\i<=e/\e<=j
 |d,i,j,N,c,E,hN,F,p,G,hi=>by
  obtain⟨N,rfl⟩:∃m,N=m+1:=⟨N-1,ae⟩;obtain⟨c,rfl⟩:∃m,c=m+1:=⟨c-1,ae⟩;by_cases g:i<j
  ·obtain⟨d,rfl⟩:∃m,d=m+1:=⟨d-1,ae⟩;have o:(i:Int)<(j:Int):=ae;have A:i<=(i+j)/2:=ae;have B:(i+j)/2<j:=ae;have n:=Kn (x:=i) (y:=j) ae;have k:=Kn (x:=a) (y:=b) ae;have e0:(((a+b)/2:Nat):Int)+(m:Int)-1=(((a+b)/2+m-1:Nat):Int):=ae;have I: -9223372036854775808<=(i:Int)+(j:Int)/\(i:Int)+(j:Int)<9223372036854775808:=ae;have z:(0:Int)<=1:=(by decide);have H:=q.atI (i:=(a+b)/2+m-1-(i+j)/2) (j:=(i+j)/2) ae ae;by_cases w:cmp (l.getD ((a+b)/2+m-1-(i+j)/2) Rw.z) (l.getD ((i+j)/2) Rw.z)<0
   ·obtain⟨e,h,r,s,C,D⟩:=fg l R a m b pf cmp q hl t u v d i ((i+j)/2) N c ae ae ae ae ae ae;refine⟨e,h,by rw[FM,Yq o,cond_true,Yq w];exact r,?_,ae,ae⟩;have f:DD l (a:Int) (m:Int) (b:Int) pf R ((i:Int),(j:Int))=some (.nx ((i:Int),(((i+j)/2:Nat):Int))):=(by dsimp only[DD,br,vz,vs,ln,Af,cf,wi,AG,ca,fl,br,AG,wk,shr];rw[n,k,e0];grind);rw[Aj,f];exact s
   ·obtain⟨e,h,r,s,C,D⟩:=fg l R a m b pf cmp q hl t u v d ((i+j)/2+1) j N c ae ae ae ae ae ae;refine⟨e,h,by rw[FM,Yq o,cond_true,Ys w];exact r,?_,ae,ae⟩;have f:DD l (a:Int) (m:Int) (b:Int) pf R ((i:Int),(j:Int))=some (.nx (((((i+j)/2:Nat):Int)+1),(j:Int))):=(by dsimp only[DD,br,vz,vs,ln,Af,cf,wi,AG,ca,fl,br,AG,wk,shr];rw[n,k,e0];grind);rw[Aj,f];exact s
  ·have o:¬(i:Int)<(j:Int):=ae;refine⟨i,j,by rw[FM,Ys o,cond_false],?_,Yf _,p⟩;have f:DD l (a:Int) (m:Int) (b:Int) pf R ((i:Int),(j:Int))=some (.ex (i:Int)):=(by dsimp only[DD,br,vz,vs,ln,Af,cf,wi,AG,ca,fl,br,AG,wk,shr];grind);rw[Aj,f]
end
theorem lx{α:Type}(z:α)(c:Nat)(l:List α)(a m b:Nat)(cf:α->α->Int)(s:Nat):
  (cond ((decide (((s:Nat):Int)<((m:Nat):Int))&&decide (((m:Nat):Int)<(((((a+b)/2)+m)-s:Nat):Int)))) (cond ((decide (((a:Nat):Int)<((s:Nat):Int))&&decide (((s:Nat):Int)<(((a+b)/2:Nat):Int)))) (cond ((decide ((((a+b)/2:Nat):Int)<(((((a+b)/2)+m)-s:Nat):Int))&&decide ((((((a+b)/2)+m)-s:Nat):Int)<((b:Nat):Int)))) ((A2 z c (A2 z c (Cf z l s m ((((a+b)/2)+m)-s) cf) a s ((a+b)/2) cf) ((a+b)/2) ((((a+b)/2)+m)-s) b cf)) ((A2 z c (Cf z l s m ((((a+b)/2)+m)-s) cf) a s ((a+b)/2) cf))) (cond ((decide ((((a+b)/2:Nat):Int)<(((((a+b)/2)+m)-s:Nat):Int))&&decide ((((((a+b)/2)+m)-s:Nat):Int)<((b:Nat):Int)))) ((A2 z c (Cf z l s m ((((a+b)/2)+m)-s) cf) ((a+b)/2) ((((a+b)/2)+m)-s) b cf)) ((Cf z l s m ((((a+b)/2)+m)-s) cf)))) (cond ((decide (((a:Nat):Int)<((s:Nat):Int))&&decide (((s:Nat):Int)<(((a+b)/2:Nat):Int)))) (cond ((decide ((((a+b)/2:Nat):Int)<(((((a+b)/2)+m)-s:Nat):Int))&&decide ((((((a+b)/2)+m)-s:Nat):Int)<((b:Nat):Int)))) ((A2 z c (A2 z c l a s ((a+b)/2) cf) ((a+b)/2) ((((a+b)/2)+m)-s) b cf)) ((A2 z c l a s ((a+b)/2) cf))) (cond ((decide ((((a+b)/2:Nat):Int)<(((((a+b)/2)+m)-s:Nat):Int))&&decide ((((((a+b)/2)+m)-s:Nat):Int)<((b:Nat):Int)))) ((A2 z c l ((a+b)/2) ((((a+b)/2)+m)-s) b cf)) (l))))=FV z c l a m b cf s:=by
 unfold FV;grind
section
variable {α:Type} [Rw α] [Tid α]
theorem uW(R:List α->Int->Int->Int->(α->α->Option Int)->Option (List α))(pf:α->α->Option Int)(cmp:α->α->Int)(n:Nat)
  (p:∀(l:List α) (a m b:Nat),AQ pf cmp l->l.length<=4194304->b-a<n->a<m->m<b->b<=l.length->R l (a:Int) (m:Int) (b:Int) pf=some (A2 Rw.z n l a m b cmp)/\(A2 (Rw.z:α) n l a m b cmp).Perm l)
  (l:List α) (o:AQ pf cmp l) (a m b s:Nat) (hl:l.length<=4194304) (J:b-a<n+1) (D:a<m) (E:m<b) (F:b<=l.length) (G:4<=b-a) (H:s<=(a+b)/2) (I:(a+b)/2+m<=b+s):
  (eJ l (a:Int) (m:Int) (b:Int) pf R (s:Int)).m=some (FV (Rw.z:α) n l a m b cmp s)/\(FV (Rw.z:α) n l a m b cmp s).Perm l:=by
 have u:=Kn (x:=a) (y:=b) ae;have v:(((a+b)/2:Nat):Int)+(m:Int)-(s:Int)=(((a+b)/2+m-s:Nat):Int):=ae
 have w: -9223372036854775808<=(((a+b)/2+m-s:Nat):Int)/\(((a+b)/2+m-s:Nat):Int)<9223372036854775808:=ae
 have A:a<(a+b)/2:=ae
 have B:(a+b)/2<b:=ae
 unfold FV;dsimp only[Qh,Qo,Ql,Qm,eJ,JT,LG,LD,br,vz,vg,vs,v2,wi,wk,shr,AG,ca,Fy,cf,HQ,lc,ln,lf,Af,fl,st,Ca,lr,wg];simp only[u,v];generalize (a+b)/2=h at*;generalize h+m-s=e at*;simp only[w,B5,Yp];have C:e<=b:=ae
 by_cases c:s<m/\m<e<;>by_cases g:a<s/\s<h<;>by_cases i:h<e/\e<b
 ·
   have q:=TD l s m e cmp hl c.1 c.2 ae;have f:=(Qp (z:=(Rw.z:α)) l s m e cmp c.1 c.2 ae).2.1;have k:=f.length_eq;obtain⟨r,d⟩:=p (Cf (Rw.z:α) l s m e cmp) a s h (o.perm f) ae ae g.1 g.2 ae;obtain⟨t,j⟩:=p (A2 (Rw.z:α) n (Cf (Rw.z:α) l s m e cmp) a s h cmp) h e b (o.perm (d.trans f)) (by have:=d.length_eq;omega) ae i.1 i.2 (by have:=d.length_eq;omega);simp only[Eg c,Eg g,Eg i,q,k,r,d.length_eq,t,j.length_eq,Yp,Ya,cond_true]
   first|exact⟨trivial,j.trans (d.trans f)⟩|exact⟨rfl,j.trans (d.trans f)⟩
 ·
   have q:=TD l s m e cmp hl c.1 c.2 ae;have f:=(Qp (z:=(Rw.z:α)) l s m e cmp c.1 c.2 ae).2.1;have k:=f.length_eq;obtain⟨r,d⟩:=p (Cf (Rw.z:α) l s m e cmp) a s h (o.perm f) ae ae g.1 g.2 ae;simp only[Eg c,Eg g,Ef i,q,k,r,d.length_eq,Yi,Yp,YC,Ya,cond_true,cond_false]
   first|exact⟨trivial,d.trans f⟩|exact⟨rfl,d.trans f⟩
 ·
   have q:=TD l s m e cmp hl c.1 c.2 ae;have f:=(Qp (z:=(Rw.z:α)) l s m e cmp c.1 c.2 ae).2.1;have k:=f.length_eq;obtain⟨t,j⟩:=p (Cf (Rw.z:α) l s m e cmp) h e b (o.perm f) ae ae i.1 i.2 ae;simp only[Eg c,Ef g,Eg i,q,k,t,j.length_eq,Yi,Yp,YC,Ya,cond_true,cond_false]
   first|exact⟨trivial,j.trans f⟩|exact⟨rfl,j.trans f⟩
 ·
   have q:=TD l s m e cmp hl c.1 c.2 ae;have f:=(Qp (z:=(Rw.z:α)) l s m e cmp c.1 c.2 ae).2.1;have k:=f.length_eq;simp only[Eg c,Ef g,Ef i,q,k,Yi,Yp,YC,Ya,cond_true,cond_false]
   first|exact⟨trivial,f⟩|exact⟨rfl,f⟩
 ·
   obtain⟨r,d⟩:=p l a s h o ae ae g.1 g.2 ae;obtain⟨t,j⟩:=p (A2 (Rw.z:α) n l a s h cmp) h e b (o.perm d) (by have:=d.length_eq;omega) ae i.1 i.2 (by have:=d.length_eq;omega);simp only[Ef c,Eg g,Eg i,r,d.length_eq,t,j.length_eq,Yi,Yp,YC,Ya,cond_true,cond_false]
   first|exact⟨trivial,j.trans d⟩|exact⟨rfl,j.trans d⟩
 ·
   obtain⟨r,d⟩:=p l a s h o ae ae g.1 g.2 ae;simp only[Ef c,Eg g,Ef i,r,d.length_eq,Yi,Yp,YC,Ya,cond_true,cond_false]
   first|exact⟨trivial,d⟩|exact⟨rfl,d⟩
 ·
   obtain⟨t,j⟩:=p l h e b o ae ae i.1 i.2 ae;simp only[Ef c,Ef g,Eg i,t,j.length_eq,Yi,Yp,YC,Ya,cond_true,cond_false]
   first|exact⟨trivial,j⟩|exact⟨rfl,j⟩
 simp only[Ef c,Ef g,Ef i,Yi,YC,cond_false]
 first|exact⟨trivial,.refl _⟩|exact⟨rfl,.refl _⟩
theorem fw{pf:α->α->Option Int}{cmp:α->α->Int}:TF pf cmp:=by
 intro c
 induction c with
 |zero=>intro l a m b _ _ h;omega
 |succ c w=>
  intro l a m b d hl t f g e;rw[A2];show(LD l (a:Int) (m:Int) (b:Int) pf (Dn c)).m=_/\_;have wa: -9223372036854775808<=((m-a:Nat):Int)/\((m-a:Nat):Int)<9223372036854775808:=ae
  have P: -9223372036854775808<=((b-m:Nat):Int)/\((b-m:Nat):Int)<9223372036854775808:=ae
  have H:(m:Int)-(a:Int)=((m-a:Nat):Int):=ae
  have I:(b:Int)-(m:Int)=((b-m:Nat):Int):=ae
  by_cases J:m-a=1
  ·have k:((m-a:Nat):Int)=1:=ae;obtain⟨i,j,p,q,r,s⟩:=gu l (Dn c) a pf cmp d hl ae (b-m) m b Ah (b-m+1) (Yf _) (AM ae) (YS _) ae e;obtain⟨z,v,B,C,D⟩:=jq l (Dn c) pf (i,j) hl (show 1<=i by omega) (show i<=l.length by omega) (i-1-a) a l Ah (i-a+1) (Yf _) (AM ae) (by dsimp only;omega) (.refl _) ae;dsimp only[LD,br,vz,vg,vs,v2,wi,wk,shr,AG,ca,Fy,cf,HQ,lc,ln,lf,Af,fl,st,Ca,lr,wg];grind
  ·have k:¬((m-a:Nat):Int)=1:=ae;by_cases K:b-m=1
   ·have n:((b-m:Nat):Int)=1:=ae;obtain⟨i,j,p,q,r,s⟩:=fV l (Dn c) m pf cmp d hl ae (m-a) a m Ah (m-a+1) (Yf _) (AM ae) (YS _) ae ae;obtain⟨z,v,B,C,D⟩:=ZJ8 l (Dn c) pf (i,j) hl m l Ah (m+1) (AM ae) (YS _) (.refl _) ae;dsimp only[LD,br,vz,vg,vs,v2,wi,wk,shr,AG,ca,Fy,cf,HQ,lc,ln,lf,Af,fl,st,Ca,lr,wg];grind
   ·have n:¬((b-m:Nat):Int)=1:=ae;have A:=Kn (x:=a) (y:=b) ae;have M: -9223372036854775808<=(a:Int)+(b:Int)/\(a:Int)+(b:Int)<9223372036854775808:=ae;have F:(((a+b)/2:Nat):Int)+(m:Int)=(((a+b)/2+m:Nat):Int):=ae;have w2: -9223372036854775808<=(((a+b)/2+m:Nat):Int)/\(((a+b)/2+m:Nat):Int)<9223372036854775808:=ae;have N: -9223372036854775808<=(((a+b)/2+m:Nat):Int)-1/\(((a+b)/2+m:Nat):Int)-1<9223372036854775808:=ae;have u:(0:Int)<=1:=(by decide);by_cases L:(a+b)/2<m
    ·have o:(((a+b)/2:Nat):Int)<(m:Int):=ae;have G:(((a+b)/2+m:Nat):Int)-(b:Int)=(((a+b)/2+m-b:Nat):Int):=ae;have O: -9223372036854775808<=(((a+b)/2+m-b:Nat):Int)/\(((a+b)/2+m-b:Nat):Int)<9223372036854775808:=ae;obtain⟨i,j,p,q,r,s⟩:=eY l (Dn c) a m b pf cmp d hl f g e ((a+b)/2-((a+b)/2+m-b)) ((a+b)/2+m-b) ((a+b)/2) Ah ((a+b)/2-((a+b)/2+m-b)+1) (Yf _) (AM ae) (YS _) ae ae ae;obtain⟨t1,t2⟩:=uW (Dn c) pf cmp c w l d a m b i hl t f g e ae ae ae;have E:=lx (Rw.z:α) c l a m b cmp i;dsimp only[LD,LG,JT,br,vz,vg,vs,v2,wi,wk,shr,AG,ca,Fy,cf,HQ,lc,ln,lf,Af,fl,st,Ca,lr,wg];grind
    ·have o:¬(((a+b)/2:Nat):Int)<(m:Int):=ae;obtain⟨i,j,p,q,r,s⟩:=fg l (Dn c) a m b pf cmp d hl f g e (m-a) a m Ah (m-a+1) (Yf _) (AM ae) (YS _) ae ae ae;obtain⟨t1,t2⟩:=uW (Dn c) pf cmp c w l d a m b i hl t f g e ae ae ae;have E:=lx (Rw.z:α) c l a m b cmp i;dsimp only[LD,LG,JT,br,vz,vg,vs,v2,wi,wk,shr,AG,ca,Fy,cf,HQ,lc,ln,lf,Af,fl,st,Ca,lr,wg];grind
end
def EU(x y:Slt):Int:=Bv x.num y.num
theorem NF{α:Type}(k:α->Int):CmpLaw λx y:α=>Bv (k x) (k y):=by constructor<;>(intros;unfold Bv at*;grind)
def Je(x y:Raw):Int:=Bv x.num y.num
theorem yy{a b:ByteArray}(h:a.toList=b.toList):a=b:=by rw[ByteArray.toList_eq,ByteArray.toList_eq]at h;exact ByteArray.ext (C8 h)
theorem II{a b:ByteArray}:Ec a b<0↔a.toList<b.toList:=by
 have e:Bt a b=true↔a.toList<b.toList:=by unfold Bt;rw[Go.Proofs.bytesLess_eq,Yr]
 rw[<-e];unfold Ec;cases h:Bt a b with
 |true=>simp
 |false=>by_cases c:a=b<;>simp[c]
theorem y7{α:Type}(k:α->ByteArray):CmpLaw λx y:α=>Ec (k x) (k y):=by
 constructor
 ·intro x y w a b;exact II.2 (List.lt_trans (II.1 a) (II.1 b))
 ·intro x y w a b e;have c:=λh=>a (II.2 h);have d:=λh=>b (II.2 h);exact List.le_trans (Sk.1 d) (Sk.1 c) (II.1 e)
 ·intro x h;exact List.lt_irrefl _ (II.1 h)
theorem ZNL{a b:ByteArray}:Ec a b=0↔¬Ec a b<0/\¬Ec b a<0:=by
 constructor
 ·intro h;have e:a=b:=Y9 (by rw[<-VO,h];rfl);subst e;exact⟨ae,ae⟩
 ·rintro⟨c,d⟩;have e:a=b:=yy (List.le_antisymm (Sk.1 λh=>d (II.2 h)) (Sk.1 λh=>c (II.2 h)));exact Y9 (by rw[VO];exact Yq e)
theorem X5{a b:Int}:Bv a b=0↔¬Bv a b<0/\¬Bv b a<0:=by unfold Bv;grind
def Jf(k:Int)(a b:Val):Int:=if k=7\/k=8 then Ec a.text b.text else if k=2\/k=3 then Bv (IntKind.u64.wrap (a.bits+9223372036854775808)) (IntKind.u64.wrap (b.bits+9223372036854775808))else if k=6 then Bv (CP a.bits.toNat) (CP b.bits.toNat)else Bv a.bits b.bits
theorem e9(k:Int):CmpLaw (Jf k):=by
 unfold Jf;split
 ·exact y7 Val.text
 ·split
  ·exact NF λv:Val=>IntKind.u64.wrap (v.bits+9223372036854775808)
  ·split
   ·exact NF λv:Val=>((CP v.bits.toNat:Nat):Int)
   ·exact NF Val.bits
theorem ZM2(k:Int)(a b:Val):Jf k a b=0↔¬Jf k a b<0/\¬Jf k b a<0:=by
 unfold Jf;split
 ·exact ZNL
 ·split
  ·exact X5
  ·split
   ·exact X5
   ·exact X5
theorem gn(a b:Val):Cc a b=if a.kind≠b.kind then Bv a.kind b.kind else Jf a.kind a b:=rfl
theorem IF(a b:Val):Cc a b<0↔a.kind<b.kind\/(a.kind=b.kind/\Jf a.kind a b<0):=by
 rw[gn];by_cases e:a.kind=b.kind
 ·simp[e]
 ·have h:Bv a.kind b.kind<0↔a.kind<b.kind:=by unfold Bv;grind
  simp[e,h]
theorem eW:CmpLaw Cc:=by
 constructor
 ·intro x y w;rw[IF,IF,IF];rintro(b|⟨a,b⟩) (c|⟨f,c⟩)
  ·exact .inl ae
  ·exact .inl ae
  ·exact .inl ae
  ·exact .inr ⟨a.trans f,(e9 _).tr x y w b (by rw[a];exact c)⟩
 ·intro x y w;rw[IF,IF,IF];intro b c d;have a1:¬x.kind<y.kind:=λh=>b (.inl h);have g:¬y.kind<w.kind:=λh=>c (.inl h);rcases d with d|⟨e,d⟩
  ·omega
  ·have a:x.kind=y.kind:=ae;exact(e9 _).ng x y w (λh=>b (.inr ⟨a,h⟩)) (λh=>c (.inr ⟨ae,by rw[<-a];exact h⟩)) d
 ·intro x;rw[IF];rintro(h|⟨_,h⟩)
  ·omega
  ·exact(e9 _).ir x h
theorem ZNQ(a b:Val):Cc a b=0↔¬Cc a b<0/\¬Cc b a<0:=by
 rw[IF,IF];by_cases e:a.kind=b.kind
 ·have f:Cc a b=Jf a.kind a b:=by rw[gn];simp[e]
  rw[f,ZM2];rw[<-e];constructor
  ·rintro⟨c,d⟩;exact⟨λh=>h.elim ae λh=>c h.2,λh=>h.elim ae λh=>d h.2⟩
  ·rintro⟨c,d⟩;exact⟨λh=>c (.inr ⟨rfl,h⟩),λh=>d (.inr ⟨rfl,h⟩)⟩
 ·have f:Cc a b=Bv a.kind b.kind:=by rw[gn];simp[e]
  rw[f];constructor
  ·intro h;exfalso;unfold Bv at h;grind
  ·rintro⟨c,d⟩;exfalso;have a1:¬a.kind<b.kind:=λh=>c (.inl h);have g:¬b.kind<a.kind:=λh=>d (.inl h);omega
def Bc(x y:Pr):Int:=Cc x.key y.key
theorem Hq:CmpLaw Bc:=⟨λx y w=>eW.tr x.key y.key w.key,λx y w=>eW.ng x.key y.key w.key,λx=>eW.ir x.key⟩
theorem N8(x y:Pr):Bc x y=0↔¬Bc x y<0/\¬Bc y x<0:=ZNQ x.key y.key
theorem ZwD{x y w:Pr}(a:Bc x y<0)(b:¬Bc w y<0):Bc x w<0:=Decidable.byContradiction λh=>Hq.ng x w y h b a
theorem ZJs(x y:Pr)(a:Bc x y<0)(b:Bc y x<0):False:=Hq.ir x (Hq.tr x y x a b)
theorem xe{x y w:Pr}(a:Bc x y=0)(b:Bc y w=0):Bc x w=0:=by rw[N8]at*;exact⟨Hq.ng _ _ _ a.1 b.1,Hq.ng _ _ _ b.2 a.2⟩
def I3(l:List Pr):Prop:=l.Pairwise λx y=>Bc x y<0
theorem sh{a b:List Pr}(c:I3 a)(d:I3 b)(h:∀x,x∈a↔x∈b):a=b:=by
 have f:∀{l:List Pr},I3 l->l.Nodup:=λhl=>hl.imp fun {x y} h e=>by subst e;exact Hq.ir _ h
 exact ez ZJs c d ((List.perm_ext_iff_of_nodup (f c) (f d)).2 h)
def ZQ0(l:List Pr)(x:Pr):Prop:=∃j:Nat,l[j]?=some x/\∀(k:Nat) (y:Pr),l[k]?=some y->Bc x y=0->k<=j
theorem rL(q:Pr)(out:List Pr)(p:Pr):F7 (q::out) p=if Bc q p<0 then q::F7 out p else p::q::out:=by
 unfold F7 Jb;rw[Xx];by_cases h:Bc q p<0
 ·have a:Cc q.key p.key<0:=h;rw[Ym h,Yq a];rfl
 ·have a:¬Cc q.key p.key<0:=h;rw[Yk h,Ys a];rfl
theorem sJ{out:List Pr}{p x:Pr}:x∈F7 out p↔x=p\/x∈out:=by
 induction out with
 |nil=>exact Yy
 |cons q out a=>
  rw[rL];split
  ·rw[Yy,a,Yy];grind
  ·exact Yy
theorem Zw6{out:List Pr}{p:Pr}(h:I3 out)(b:∀x∈out,¬Bc x p=0):I3 (F7 out p):=by
 induction out with
 |nil=>exact Xy _ _
 |cons q out g=>
  obtain⟨a,f⟩:=DY.1 h;rw[rL];split
  ·rename_i c;refine DY.2 ⟨λx hx=>?_,g f λx hx=>b x (YH _ hx)⟩;rcases sJ.1 hx with rfl|hx
   ·exact c
   ·exact a x hx
  ·rename_i c;have d:Bc p q<0:=Decidable.byContradiction λe=>b q YJ ((N8 q p).2 ⟨c,e⟩);refine DY.2 ⟨λx hx=>?_,h⟩;rcases Yy.1 hx with rfl|hx
   ·exact d
   ·exact Hq.tr p q x d (a x hx)
theorem dN(l:List Pr):∀i:Nat,I3 (CL l i)/\∀x,x∈CL l i↔∃j:Nat,j<i/\l[j]?=some x/\∀(k:Nat) (y:Pr),l[k]?=some y->Bc x y=0->k<=j
 |0=>⟨.nil,λx=>Iff.intro (λh=>by cases h) λ⟨j,h,_⟩=>absurd h (Y2 j)⟩
 |i+1=>by
  obtain⟨o,g⟩:=dN l i;unfold CL;cases e:l[i]? with
  |none=>
   refine⟨o,λx=>(g x).trans ?_⟩;constructor
   ·rintro⟨j,a,b⟩;exact⟨j,ae,b⟩
   ·rintro⟨j,a,b⟩;have:j≠i:=λn=>by rw[n,e]at b;cases b.1
    exact⟨j,ae,b⟩
  |some q=>
   have r:((l.drop (i+1)).any λx=>decide (Cc q.key x.key=0))=true↔∃(k:Nat) (y:Pr),i<k/\l[k]?=some y/\Bc q y=0:=by
    rw[YU];constructor
    ·rintro⟨y,hy,a⟩;obtain⟨k,m⟩:=YP.1 hy;rw[YY]at m;exact⟨i+1+k,y,ae,m,Y9 a⟩
    ·rintro⟨k,y,a,b,c⟩;refine⟨y,YP.2 ⟨k-(i+1),?_⟩,Yq c⟩;rw[YY,show i+1+(k-(i+1))=k by omega];exact b
   dsimp only;split
   ·rename_i c;obtain⟨z,A,a0,s,t⟩:=r.1 c;refine⟨o,λx=>(g x).trans ?_⟩;constructor
    ·rintro⟨j,a,b⟩;exact⟨j,ae,b⟩
    ·rintro⟨j,a,d,f⟩;have:j≠i:=λn=>by subst n;rw[e]at d;cases d;have:=f z A s t;omega
     exact⟨j,ae,d,f⟩
   ·rename_i c;have v:∀x∈CL l i,¬Bc x q=0:=λx hx w=>by obtain⟨j,a,_,b⟩:=(g x).1 hx;have:=b i q e w;omega
    refine⟨Zw6 o v,λx=>?_⟩;rw[sJ,g];constructor
    ·rintro(rfl|⟨j,a,b⟩)
     ·refine⟨i,YS _,e,λk y m hy=>?_⟩;exact Nat.le_of_not_lt λp=>c (r.2 ⟨k,y,p,m,hy⟩)
     ·exact⟨j,ae,b⟩
    ·rintro⟨j,a,d,f⟩;by_cases u:j=i
     ·subst u;rw[e]at d;cases d;exact .inl rfl
     ·exact .inr ⟨j,ae,d,f⟩
theorem et(l:List Pr):I3 (DG l):=(dN l l.length).1
theorem Nx{l:List Pr}{x:Pr}:x∈DG l↔ZQ0 l x:=by
 refine((dN l l.length).2 x).trans ?_;constructor
 ·rintro⟨j,_,b⟩;exact⟨j,b⟩
 ·rintro⟨j,b⟩;exact⟨j,(Yc.1 b.1).1,b⟩
def EJ:List Pr->List Pr
 |[]=>[]
 |[p]=>[p]
 |p::q::l=>if Bc p q=0 then EJ (q::l)else p::EJ (q::l)
theorem qS:∀r:List (Pr×Nat),r.Pairwise (Gm Bc)->I3 (EJ (r.map (·.1)))/\∀x,x∈EJ (r.map (·.1))↔∃j,(x,j)∈r/\∀y k,(y,k)∈r->Bc x y=0->k<=j
 |[],_=>⟨.nil,λx=>Iff.intro (λh=>by cases h) λ⟨j,h,_⟩=>by cases h⟩
 |[(p,i)],_=>by
  refine⟨Xy _ _,λx=>?_⟩;show x∈[p]↔_;rw[Hb];constructor
  ·rintro rfl;refine⟨i,Hb.2 rfl,λy k h _=>?_⟩;cases Hb.1 h;exact Yf _
  ·rintro⟨j,h,_⟩;cases Hb.1 h;rfl
 |(p,i)::(q,j)::r,h=>by
  obtain⟨t,o⟩:=DY.1 h;obtain⟨n,g⟩:=qS ((q,j)::r) o;have m:=t (q,j) YJ;show I3 (if Bc p q=0 then EJ (((q,j)::r).map (·.1))else p::EJ (((q,j)::r).map (·.1)))/\∀x,x∈(if Bc p q=0 then EJ (((q,j)::r).map (·.1))else p::EJ (((q,j)::r).map (·.1)))↔_;by_cases c:Bc p q=0
  ·rw[Ym c];have u:i<j:=by
    rcases m with a|⟨_,a⟩
    ·exact absurd a ((N8 p q).1 c).1
    ·exact a
   refine⟨n,λx=>(g x).trans ?_⟩;constructor
   ·rintro⟨k,a,b⟩;refine⟨k,YH _ a,λy l hy e=>?_⟩;rcases Yy.1 hy with hy|hy
    ·cases hy;have:=b q j YJ (xe e c);omega
    ·exact b y l hy e
   ·rintro⟨k,a,b⟩;rcases Yy.1 a with a|a
    ·cases a;have:=b q j (YH _ YJ) c;omega
    ·exact⟨k,a,λy l hy e=>b y l (YH _ hy) e⟩
  ·rw[Yk c];have f:Bc p q<0:=by
    rcases m with a|⟨a,_⟩
    ·exact a
    ·exact Decidable.byContradiction λs=>c ((N8 p q).2 ⟨s,a⟩)
   have d:∀y k,(y,k)∈(q,j)::r->Bc p y<0:=λy k hy=>by
    rcases Yy.1 hy with hy|hy
    ·cases hy;exact f
    ·rcases(DY.1 o).1 (y,k) hy with a|⟨a,_⟩
     ·exact Hq.tr _ _ _ f a
     ·exact ZwD f a
   refine⟨DY.2 ⟨λx hx=>?_,n⟩,λx=>?_⟩
   ·obtain⟨k,a,_⟩:=(g x).1 hx;exact d x k a
   ·rw[Yy,g];constructor
    ·rintro(rfl|⟨k,a,b⟩)
     ·refine⟨i,YJ,λy k hy e=>?_⟩;rcases Yy.1 hy with hy|hy
      ·cases hy;exact Yf _
      ·exact absurd (d y k hy) ((N8 _ _).1 e).1
     ·refine⟨k,YH _ a,λy l hy e=>?_⟩;rcases Yy.1 hy with hy|hy
      ·cases hy;exact absurd (d x k a) ((N8 _ _).1 e).2
      ·exact b y l hy e
    ·rintro⟨k,a,b⟩;rcases Yy.1 a with a|a
     ·cases a;exact .inl rfl
     ·exact .inr ⟨k,a,λy l hy e=>b y l (YH _ hy) e⟩
theorem ZpR(l:List Pr):EJ (Cq Bc l)=DG l:=by
 obtain⟨r,c,d,e⟩:=Up Hq l 0 [] .nil (λa f=>by cases f);obtain⟨s1,s2⟩:=qS r d;have c:Cq Bc l=r.map (·.1):=c;rw[c];refine sh s1 (et l) λx=>(s2 x).trans (Iff.trans ?_ Nx.symm);have hm:∀y k,(y,k)∈r↔l[k]?=some y:=λy k=>by rw[e.mem_iff,He];exact List.mem_zipIdx_iff_getElem?
 constructor
 ·rintro⟨j,a,b⟩;exact⟨j,(hm x j).1 a,λk y g=>b y k ((hm y k).2 g)⟩
 ·rintro⟨j,a,b⟩;exact⟨j,(hm x j).2 a,λy k hy=>b k y ((hm y k).1 hy)⟩
theorem rU{l:List Slt}(h:l.Pairwise λa b=>a.num≠b.num):K2 (Cq EU l):=by have d:=ZmB (cf:=EU) (NF Slt.num) l;have f:(Cq EU l).Pairwise λa b=>a.num≠b.num:=(List.Perm.pairwise_iff (fun {a b} h e=>h e.symm) (JX l)).2 h;refine(List.pairwise_and_iff.2 ⟨d,f⟩).imp fun {a b} c=>?_;have:=c.1;unfold EU Bv at this;have g:=c.2;grind
theorem te(l:List Raw)(y x:Raw):∀k:Nat,k<=l.length->Es (l++[y]) x k=Es l x k
 |0,_=>rfl
 |k+1,h=>by rw[Es,Es,te l y x k ae,Yg,Yg,Yw ae]
theorem rZ(x:Raw):∀(n:Nat) (out:List Raw),out.length=n->insR out x=Go.Eng.insR Je out x
 |0,out,h=>by rw[List.length_eq_zero_iff.1 h];rfl
 |n+1,out,h=>by
  have d:out≠[]:=λe=>by rw[e]at h;cases h
  obtain⟨l,y,rfl⟩:∃l y,out=l++[y]:=⟨_,_,(iJ d).symm⟩;have hl:l.length=n:=by rw[Yt]at h;simpa using h
  have j:=rZ x n l hl;unfold insR Go.Eng.insR at*;have e0:(l++[y]).length=l.length+1:=by simp
  have g:(l++[y]).getD l.length Rw.z=y:=by simp
  rw[e0,Es,g,te l y x l.length (Yf _),XH];show _=(List.dropWhile _ (y::l.reverse)).reverse++x::(List.takeWhile _ (y::l.reverse)).reverse;have f:Je x y<0↔x.num<y.num:=by unfold Je Bv;grind
  rw[List.dropWhile_cons,List.takeWhile_cons];by_cases c:x.num<y.num
  ·have a:=gg l x l.length;have b:decide (Je x y<0)=true:=Yq (f.2 c);rw[Ym c,b,Ym rfl,Ym rfl,RY a,XI a,List.reverse_cons,<-DZ,j];simp
  ·have b:¬decide (Je x y<0)=true:=(by rw[Yr,f];exact c);have i:(l++[y]).take (l.length+1)=l++[y]:=Jr (by simp);rw[Yk c,Yk b,Yk b,i];simp
theorem sD(l:List Raw):ES l=Cq Je l:=by have:insR=Go.Eng.insR Je:=funext λout=>funext λx=>rZ x _ out rfl;unfold ES Cq;rw[this]
theorem Zv2(l:List Pr)(h:l.length<549755813888):T1 l=some l:=by
 cases l with
 |nil=>rfl
 |cons x r=>
  dsimp only[T1,al,br,vw,lr,a0,mv,br];simp only[D0]at h;simp;omega
theorem vE{a b:Val}(s:1<=a.kind/\a.kind<=9)(j:AK a)(l:AK b):Nh a b=some (Cc a b):=by
 obtain⟨n,q,f,u⟩:=NC j;obtain⟨k,p,e,t⟩:=NC l;have r:(decide (1<=a.kind)&&decide (a.kind<=9))=true:=by simp[s]
 unfold Cc;by_cases he:a.kind=b.kind
 ·have i:(decide (1<=b.kind)&&decide (b.kind<=9))=true:=by rw[<-he];exact r
  dsimp only[Nh,br,wg,lr,cl,br,cL,wg,lr,cl,bT,Ni,lr,T3,br,vz,wg,lr,cl,br,PY,lr];simp only[he,Yo,YN,Yi,YC,i,Yp,Ya,ne_eq,H4];rw[<-he];by_cases h:a.kind=7\/a.kind=8
  ·have d:(decide (a.kind=7)||decide (a.kind=8))=true:=(by simpa using h);rw[Ym h];simp only[d,Yp,p6,Ya]
  ·have d:(decide (a.kind=7)||decide (a.kind=8))=false:=(by simpa using h);rw[Yk h];simp only[d,Yi,YC];by_cases hs:a.kind=2\/a.kind=3
   ·have c:(decide (a.kind=2)||decide (a.kind=3))=true:=(by simpa using hs);have g:∀m:Nat,m<18446744073709551616->IntKind.i64.wrap (m:Int)=IntKind.u64.wrap ((m:Int)+9223372036854775808)-9223372036854775808:=λm hm=>by rw[IntKind.wrap_i64];unfold IntKind.wrap;simp only[show IntKind.u64.bits=64 from rfl,show IntKind.u64.signed=false from rfl,Y5,Yi,YC];omega
    simp only[c,hs,Yp,M0,Ya];rw[q,p,g n f,g k e];unfold Bv;simp only[Int.sub_lt_sub_right_iff]
   ·have c:(decide (a.kind=2)||decide (a.kind=3))=false:=(by simpa using hs);by_cases o:a.kind=6
    ·simp only[c,hs,Yi,YC];simp only[o,Yp,Yo,q,p,Tg f,Tg e,SH,Ya,YW]
    ·simp only[c,hs,o,Yi,YC,Yx,SH,Ya]
 ·dsimp only[Nh,br,wg,lr,cl,br];simp only[he,Yx,YQ,Yp,M0,Ya,ne_eq,Gu]
theorem ZL4{a b:Val}(e:1<=a.kind/\a.kind<=9)(c:AK a)(d:AK b):Nl a b=some (decide (Cc a b=0)):=by dsimp only[Nl,wg,lr,cl];rw[vE e c d];rfl
def G3(l:List Pr):Nat->List Pr
 |0=>[]
 |i+1=>if i+1<l.length/\Bc (l.getD i Rw.z) (l.getD (i+1) Rw.z)=0 then G3 l i else G3 l i++[l.getD i Rw.z]
theorem s8(l:List Pr):∀i:Nat,(G3 l i).length<=i
 |0=>Yf _
 |i+1=>by
  have:=s8 l i;rw[G3];split
  ·omega
  ·rw[Yt,Js];omega
theorem ry(l:List Pr):∀i:Nat,i<=l.length->EJ l=G3 l i++EJ (l.drop i)
 |0,_=>rfl
 |i+1,h=>by
  have hi:i<l.length:=h;have e0:l.getD i Rw.z=l[i]:=by rw[Yg,Yd hi];rfl
  rw[ry l i ae,H7 hi,G3,e0];by_cases c:i+1<l.length
  ·have b:l.getD (i+1) Rw.z=l[i+1]:=(by rw[Yg,Yd c];rfl);rw[H7 c,EJ,b];by_cases a:Bc l[i] l[i+1]=0
   ·rw[Ym a,Ym ⟨c,a⟩]
   ·rw[Yk a,Yk λh=>a h.2,DZ];rfl
  ·rw[Yk λh=>c h.1,List.drop_eq_nil_of_le ae];simp[EJ]
theorem Zyj(l:List Pr)(hl:l.length<=4194304)(j:∀p∈l,(1<=p.key.kind/\p.key.kind<=9)/\AK p.key):dh l=some (DG l):=by
 have C:=Zv2 l ae;have t:FN l (λz0 s=>Nf z0 s)=some (Cq Bc l):=by have h:=gP (pf:=λz0 s=>Nf z0 s) (cmp:=Bc) fw l (λx hx y hy=>by dsimp only[Nf,wg,lr,cl];rw[vE (j x hx).1 (j x hx).2 (j y hy).2];rfl) hl;rw[cS Hq l]at h;exact h
 have u:=ZmT (cf:=Bc) l;have a:∀p∈Cq Bc l,(1<=p.key.kind/\p.key.kind<=9)/\AK p.key:=λp d=>j p ((JX l).mem_iff.1 d);have v:=ry (Cq Bc l) (Cq Bc l).length (Yf _);rw[R7,ZpR,show EJ []=[]from rfl,KP]at v;rw[v];generalize Cq Bc l=m at t u a;have r:=DB (B:=Ob m) (N:=Ah) (ρ:=List Pr) m (λp=>G3 m p.length) (λi b=>(b,i)) id (λi p d=>by
  have w:=A5 d;have hi:=(Yc.1 d).1;have g:i+1<9223372036854775808:=ae
  have A:(m.take i).length=i:=by rw[YD];omega
  have o:(m.take i++[p]).length=i+1:=by rw[Yt,A];rfl
  have F:m.getD i Rw.z=p:=by rw[Yg,d];rfl
  have a1:=s8 m i;have z:((i+1:Nat):Int)=m.length↔i+1=m.length:=ae
  rw[A,o,G3,F];have k:(G3 m i).length<549755813887:=ae
  generalize G3 m i=out at k⊢;dsimp only[Ob,br,vz,vw,wg,vs,vg,ln,Af,ap,Ax,wa,ir,ca,fl,A1,br];by_cases c:i+1=m.length
  ·have e:¬i+1<m.length:=ae;simp only[w,g,z,c,e,d,k,hi,Yo,YN,Ha,Yi,Ya,H3,Yp,YC,Dl];have E:m.length<9223372036854775808:=ae;simp[E]
  ·have e:i+1<m.length:=ae;have hm:m.getD (i+1) Rw.z∈m:=(by rw[Yg,Yd e];exact Hc e);have D:=ZL4 (a p (Yh d)).1 (a p (Yh d)).2 (a _ hm).2;simp only[w,g,z,c,e,d,D,hi,Yo,Yx,YQ,Gq,Ya,Y0,YI,forall_const,Yp,C1];generalize m.getD (i+1) Rw.z=q;by_cases f:Bc p q=0
   ·have n:Cc p.key q.key=0:=f;simp[f,n,g]
   ·have n:¬Cc p.key q.key=0:=f;simp[f,n,g,k]) (by dsimp only[Ob,br,vz,vw,wg,vs,vg,ln,Af,ap,Ax,wa,ir,ca,fl,A1,br];simp) (AM ae)
 have r:Aj (Ob m) Ah ([],0)=some (.inl (G3 m m.length)):=r;dsimp only[dh,vz,vw,lr,lc,rn,fl,fr,A1];rw[C,Ya,t,Ya,Ym u.symm,r];rfl
theorem ZQK{N:ByteArray->Val->Val}{f:Fld}(c:f.card=4)(v:Val):B2 N f v=.mk 11 0 ⟨#[]⟩ (v.list.map (BF N f.type)) [] [] []:=Ym c
theorem ZQF{N:ByteArray->Val->Val}{f:Fld}(c:f.card=5)(v:Val):B2 N f v=.mk 12 0 ⟨#[]⟩ [] (DG (v.pairs.map λp=>.mk (CC p.key) (BF N f.type p.val))) [] []:=(Yk ae).trans (Ym c)
theorem ZQI{N:ByteArray->Val->Val}{f:Fld}(a:¬f.card=4)(b:¬f.card=5)(v:Val):B2 N f v=BF N f.type v:=(Yk a).trans (Yk b)
end Go.Proofs.YtalafnjhcecdpaaGreatDoor
