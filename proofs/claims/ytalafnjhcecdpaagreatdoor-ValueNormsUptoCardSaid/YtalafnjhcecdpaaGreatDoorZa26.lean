import Derived.Test.YtalafnjhcecdpaaGreatDoorZa09
import Derived.Test.YtalafnjhcecdpaaGreatDoorZa21
import Derived.Test.YtalafnjhcecdpaaGreatDoorZa00
namespace Go.Eng
set_option linter.all false
def Hj{α:Type}(z:α)(a:Nat)(b:Nat)(n:Nat):Nat->Nat->(List α)->(Nat×List α) ⊕ (List α)
 |0,c,d=>.inl (c,d)
 |e+1,c,d=>cond (decide (((c:Nat):Int)<((n:Nat):Int))) (Hj z a b n e (c+1) ((d.set (a+c) (d.getD (b+c) z)).set (b+c) (d.getD (a+c) z))) (.inl (c,d))
def Dm{α:Type}(z:α)(l:List α)(a:Nat)(b:Nat)(n:Nat)(c:α->α->Int):List α:=Sum.elim (λa0=>a0.2) (λv=>v) (Hj z a b n (n-0+1) 0 l)
def FO{α:Type}(z:α)(m:Nat)(cf:α->α->Int):Nat->Nat->Nat->(List α)->(Nat×Nat×List α) ⊕ (List α)
 |0,a,b,c=>.inl (a,b,c)
 |d+1,a,b,c=>cond ((!decide (((a:Nat):Int)=((b:Nat):Int)))) (cond (decide (((b:Nat):Int)<((a:Nat):Int))) (FO z m cf d (a-b) b (Dm z c (m-a) m b cf)) (FO z m cf d a (b-a) (Dm z c (m-a) ((m+b)-a) a cf))) (.inl (a,b,c))
def Cf{α:Type}(z:α)(l:List α)(a:Nat)(m:Nat)(b:Nat)(cf:α->α->Int):List α:=Sum.elim (λa0=>(Dm z a0.2.2 (m-a0.1) m a0.1 cf)) (λv=>v) (FO z m cf ((m-a)+(b-m)+1) (m-a) (b-m) l)
def Fb{α:Type}(z:α)(a:Nat)(cf:α->α->Int):Nat->Nat->(List α)->(Nat×List α) ⊕ (List α)
 |0,c,b=>.inl (c,b)
 |d+1,c,b=>cond ((decide (((a:Nat):Int)<((c:Nat):Int))&&decide ((cf (b.getD c z) (b.getD (c-1) z))<(0:Int)))) (Fb z a cf d (c-1) ((b.set c (b.getD (c-1) z)).set (c-1) (b.getD c z))) (.inl (c,b))
def Gz{α:Type}(z:α)(a:Nat)(b:Nat)(cf:α->α->Int):Nat->Nat->(List α)->(Nat×List α) ⊕ (List α)
 |0,d,c=>.inl (d,c)
 |e+1,d,c=>cond (decide (((d:Nat):Int)<((b:Nat):Int))) (Sum.elim (λa1=>Gz z a b cf e (d+1) a1.2) (λv=>.inr v) (Fb z a cf (d+1) d c)) (.inl (d,c))
def DI{α:Type}(z:α)(l:List α)(a:Nat)(b:Nat)(cf:α->α->Int):List α:=Sum.elim (λa0=>a0.2) (λv=>v) (Gz z a b cf (b-(a+1)+1) (a+1) l)
def Fc{α:Type}(z:α)(l:List α)(a:Nat)(cf:α->α->Int):Nat->Nat->Nat->(Nat×Nat) ⊕ (List α)
 |0,b,c=>.inl (b,c)
 |d+1,b,c=>cond (decide (((b:Nat):Int)<((c:Nat):Int))) (cond (decide ((cf (l.getD ((b+c)/2) z) (l.getD a z))<(0:Int))) (Fc z l a cf d (((b+c)/2)+1) c) (Fc z l a cf d b ((b+c)/2))) (.inl (b,c))
def Gv{α:Type}(z:α)(a0:Nat×Nat):Nat->Nat->(List α)->(Nat×List α) ⊕ (List α)
 |0,a,b=>.inl (a,b)
 |c+1,a,b=>cond (decide (((a:Nat):Int)<((a0.1-1:Nat):Int))) (Gv z a0 c (a+1) ((b.set a (b.getD (a+1) z)).set (a+1) (b.getD a z))) (.inl (a,b))
def Fe{α:Type}(z:α)(l:List α)(m:Nat)(cf:α->α->Int):Nat->Nat->Nat->(Nat×Nat) ⊕ (List α)
 |0,a,b=>.inl (a,b)
 |c+1,a,b=>cond (decide (((a:Nat):Int)<((b:Nat):Int))) (cond ((!(decide ((cf (l.getD m z) (l.getD ((a+b)/2) z))<(0:Int))))) (Fe z l m cf c (((a+b)/2)+1) b) (Fe z l m cf c a ((a+b)/2))) (.inl (a,b))
def FK{α:Type}(z:α)(d:Nat×Nat):Nat->Nat->(List α)->(Nat×List α) ⊕ (List α)
 |0,a,b=>.inl (a,b)
 |c+1,a,b=>cond (decide (((d.1:Nat):Int)<((a:Nat):Int))) (FK z d c (a-1) ((b.set a (b.getD (a-1) z)).set (a-1) (b.getD a z))) (.inl (a,b))
def FL{α:Type}(z:α)(l:List α)(a:Nat)(m:Nat)(b:Nat)(cf:α->α->Int):Nat->Nat->Nat->(Nat×Nat) ⊕ (List α)
 |0,c,d=>.inl (c,d)
 |e+1,c,d=>cond (decide (((c:Nat):Int)<((d:Nat):Int))) (cond ((!(decide ((cf (l.getD (((((a+b)/2)+m)-1)-((c+d)/2)) z) (l.getD ((c+d)/2) z))<(0:Int))))) (FL z l a m b cf e (((c+d)/2)+1) d) (FL z l a m b cf e c ((c+d)/2))) (.inl (c,d))
def FM{α:Type}(z:α)(l:List α)(a:Nat)(m:Nat)(b:Nat)(cf:α->α->Int):Nat->Nat->Nat->(Nat×Nat) ⊕ (List α)
 |0,c,d=>.inl (c,d)
 |e+1,c,d=>cond (decide (((c:Nat):Int)<((d:Nat):Int))) (cond ((!(decide ((cf (l.getD (((((a+b)/2)+m)-1)-((c+d)/2)) z) (l.getD ((c+d)/2) z))<(0:Int))))) (FM z l a m b cf e (((c+d)/2)+1) d) (FM z l a m b cf e c ((c+d)/2))) (.inl (c,d))
def A2{α:Type}(z:α):(Nat)->(List α)->(Nat)->(Nat)->(Nat)->(α->α->Int)->List α
 |0,l,_,_,_,_=>l
 |c+1,l,a,m,b,cf=>cond (decide (((m-a:Nat):Int)=(1:Int))) (Sum.elim (λa0=>Sum.elim (λa1=>a1.2) (λv=>v) (Gv z a0 (a0.1-a+1) a l)) (λv=>v) (Fc z l a cf (b-m+1) m b)) (cond (decide (((b-m:Nat):Int)=(1:Int))) (Sum.elim (λd=>Sum.elim (λa3=>a3.2) (λv=>v) (FK z d (m+1) m l)) (λv=>v) (Fe z l m cf (m-a+1) a m)) (cond (decide ((((a+b)/2:Nat):Int)<((m:Nat):Int))) (Sum.elim (λa4=>cond ((decide (((a4.1:Nat):Int)<((m:Nat):Int))&&decide (((m:Nat):Int)<(((((a+b)/2)+m)-a4.1:Nat):Int)))) (cond ((decide (((a:Nat):Int)<((a4.1:Nat):Int))&&decide (((a4.1:Nat):Int)<(((a+b)/2:Nat):Int)))) (cond ((decide ((((a+b)/2:Nat):Int)<(((((a+b)/2)+m)-a4.1:Nat):Int))&&decide ((((((a+b)/2)+m)-a4.1:Nat):Int)<((b:Nat):Int)))) ((A2 z c (A2 z c (Cf z l a4.1 m ((((a+b)/2)+m)-a4.1) cf) a a4.1 ((a+b)/2) cf) ((a+b)/2) ((((a+b)/2)+m)-a4.1) b cf)) ((A2 z c (Cf z l a4.1 m ((((a+b)/2)+m)-a4.1) cf) a a4.1 ((a+b)/2) cf))) (cond ((decide ((((a+b)/2:Nat):Int)<(((((a+b)/2)+m)-a4.1:Nat):Int))&&decide ((((((a+b)/2)+m)-a4.1:Nat):Int)<((b:Nat):Int)))) ((A2 z c (Cf z l a4.1 m ((((a+b)/2)+m)-a4.1) cf) ((a+b)/2) ((((a+b)/2)+m)-a4.1) b cf)) ((Cf z l a4.1 m ((((a+b)/2)+m)-a4.1) cf)))) (cond ((decide (((a:Nat):Int)<((a4.1:Nat):Int))&&decide (((a4.1:Nat):Int)<(((a+b)/2:Nat):Int)))) (cond ((decide ((((a+b)/2:Nat):Int)<(((((a+b)/2)+m)-a4.1:Nat):Int))&&decide ((((((a+b)/2)+m)-a4.1:Nat):Int)<((b:Nat):Int)))) ((A2 z c (A2 z c l a a4.1 ((a+b)/2) cf) ((a+b)/2) ((((a+b)/2)+m)-a4.1) b cf)) ((A2 z c l a a4.1 ((a+b)/2) cf))) (cond ((decide ((((a+b)/2:Nat):Int)<(((((a+b)/2)+m)-a4.1:Nat):Int))&&decide ((((((a+b)/2)+m)-a4.1:Nat):Int)<((b:Nat):Int)))) ((A2 z c l ((a+b)/2) ((((a+b)/2)+m)-a4.1) b cf)) (l)))) (λv=>v) (FL z l a m b cf (((a+b)/2)-((((a+b)/2)+m)-b)+1) ((((a+b)/2)+m)-b) ((a+b)/2))) (Sum.elim (λa5=>cond ((decide (((a5.1:Nat):Int)<((m:Nat):Int))&&decide (((m:Nat):Int)<(((((a+b)/2)+m)-a5.1:Nat):Int)))) (cond ((decide (((a:Nat):Int)<((a5.1:Nat):Int))&&decide (((a5.1:Nat):Int)<(((a+b)/2:Nat):Int)))) (cond ((decide ((((a+b)/2:Nat):Int)<(((((a+b)/2)+m)-a5.1:Nat):Int))&&decide ((((((a+b)/2)+m)-a5.1:Nat):Int)<((b:Nat):Int)))) ((A2 z c (A2 z c (Cf z l a5.1 m ((((a+b)/2)+m)-a5.1) cf) a a5.1 ((a+b)/2) cf) ((a+b)/2) ((((a+b)/2)+m)-a5.1) b cf)) ((A2 z c (Cf z l a5.1 m ((((a+b)/2)+m)-a5.1) cf) a a5.1 ((a+b)/2) cf))) (cond ((decide ((((a+b)/2:Nat):Int)<(((((a+b)/2)+m)-a5.1:Nat):Int))&&decide ((((((a+b)/2)+m)-a5.1:Nat):Int)<((b:Nat):Int)))) ((A2 z c (Cf z l a5.1 m ((((a+b)/2)+m)-a5.1) cf) ((a+b)/2) ((((a+b)/2)+m)-a5.1) b cf)) ((Cf z l a5.1 m ((((a+b)/2)+m)-a5.1) cf)))) (cond ((decide (((a:Nat):Int)<((a5.1:Nat):Int))&&decide (((a5.1:Nat):Int)<(((a+b)/2:Nat):Int)))) (cond ((decide ((((a+b)/2:Nat):Int)<(((((a+b)/2)+m)-a5.1:Nat):Int))&&decide ((((((a+b)/2)+m)-a5.1:Nat):Int)<((b:Nat):Int)))) ((A2 z c (A2 z c l a a5.1 ((a+b)/2) cf) ((a+b)/2) ((((a+b)/2)+m)-a5.1) b cf)) ((A2 z c l a a5.1 ((a+b)/2) cf))) (cond ((decide ((((a+b)/2:Nat):Int)<(((((a+b)/2)+m)-a5.1:Nat):Int))&&decide ((((((a+b)/2)+m)-a5.1:Nat):Int)<((b:Nat):Int)))) ((A2 z c l ((a+b)/2) ((((a+b)/2)+m)-a5.1) b cf)) (l)))) (λv=>v) (FM z l a m b cf (m-a+1) a m))))
def Hm{α:Type}(z:α)(n:Nat)(cf:α->α->Int):Nat->Nat->Nat->(List α)->(Nat×Nat×List α) ⊕ (List α)
 |0,c,b,a=>.inl (c,b,a)
 |d+1,c,b,a=>cond (decide (((b:Nat):Int)<=((n:Nat):Int))) (Hm z n cf d b (b+20) (DI z a c b cf)) (.inl (c,b,a))
def Hl{α:Type}(z:α)(n:Nat)(cf:α->α->Int)(d:Nat):Nat->Nat->Nat->(List α)->(Nat×Nat×List α) ⊕ (List α)
 |0,c,a,b=>.inl (c,a,b)
 |e+1,c,a,b=>cond (decide (((a:Nat):Int)<=((n:Nat):Int))) (Hl z n cf d e a (a+(2*d)) (A2 z (a-c+1) b c (c+d) a cf)) (.inl (c,a,b))
def FP{α:Type}(z:α)(n:Nat)(cf:α->α->Int):Nat->Nat->(List α)->(Nat×List α) ⊕ (List α)
 |0,a,b=>.inl (a,b)
 |d+1,a,b=>cond (decide (((a:Nat):Int)<((n:Nat):Int))) (Sum.elim (λc=>cond (decide (((c.1+a:Nat):Int)<((n:Nat):Int))) (FP z n cf d (a*2) (A2 z (n-c.1+1) c.2.2 c.1 (c.1+a) n cf)) (FP z n cf d (a*2) c.2.2)) (λv=>.inr v) (Hl z n cf a (n+1-(2*a)+1) 0 (2*a) b)) (.inl (a,b))
def Ux{α:Type}(z:α)(l:List α)(n:Nat)(cf:α->α->Int):List α:=Sum.elim (λa0=>Sum.elim (λa1=>a1.2) (λv=>v) (FP z n cf (n-20+1) 20 (DI z a0.2.2 a0.1 n cf))) (λv=>v) (Hm z n cf (n+1-20+1) 0 20 l)
def Gy{α:Type}(z:α)(l:List α)(cf:α->α->Int):List α:=(Ux z l l.length cf)
end Go.Eng
namespace Go.Eng
set_option linter.all false
section
variable {α:Type} {z:α}
theorem eH(v:List α)(i j k:Nat)(hi:i<v.length)(a:j<v.length):((v.set i (v.getD j z)).set j (v.getD i z)).getD k z=if k=j then v.getD i z else if k=i then v.getD j z else v.getD k z:=by grind
theorem LB(v:List α)(i j:Nat)(hi:i<v.length)(a:j<v.length):((v.set i (v.getD j z)).set j (v.getD i z)).Perm v:=by
 have e:∀k (h:k<v.length),v.getD k z=v[k]:=λk h=>by rw[Yg,Yd h,YI]
 rw[e i hi,e j a];exact List.set_set_perm hi a
theorem oU(a b n:Nat)(e:a+n<=b):∀(d i:Nat) (v:List α),n-i<d->i<=n->b+n<=v.length->∃f c,Hj z a b n d i v=.inl (f,c)/\c.length=v.length/\c.Perm v/\
  ∀k,c.getD k z=if a+i<=k/\k<a+n then v.getD (b+(k-a)) z else if b+i<=k/\k<b+n then v.getD (a+(k-b)) z else v.getD k z
 |0,i,v,g,_,_=>absurd g (Y2 _)
 |d+1,i,v,g,hi,m=>by
  rw[Hj];by_cases p:i<n
  ·rw[Yq ae,cond_true];obtain⟨f,c,h,j,o,l⟩:=oU a b n e d (i+1) ((v.set (a+i) (v.getD (b+i) z)).set (b+i) (v.getD (a+i) z)) ae ae (by simpa using m);refine⟨f,c,h,by simpa using j,o.trans (LB v _ _ ae ae),λk=>?_⟩;rw[l k];simp only[eH v (a+i) (b+i) _ ae ae]
   repeat' split
   all_goals first|rfl|(exfalso;omega)|(congr 1;omega)
  ·rw[Ys ae,cond_false];refine⟨i,v,rfl,rfl,.refl _,λk=>?_⟩;grind
theorem QO(l:List α)(a b n:Nat)(cf:α->α->Int)(c:a+n<=b)(d:b+n<=l.length):(Dm z l a b n cf).length=l.length/\(Dm z l a b n cf).Perm l/\
  ∀k,(Dm z l a b n cf).getD k z=if a<=k/\k<a+n then l.getD (b+(k-a)) z else if b<=k/\k<b+n then l.getD (a+(k-b)) z else l.getD k z:=by
 rw[Dm];obtain⟨i,j,e,f,h,g⟩:=oU (z:=z) a b n c (n-0+1) 0 l (YS _) (Cn _) d;grind
theorem Zu(m:Nat)(cf:α->α->Int):∀(d i j:Nat) (v:List α),i+j<d->0<i->0<j->i<=m->m+j<=v.length->∃a e b,FO z m cf d i j v=.inl (a,e,b)/\
  (Dm z b (m-a) m a cf).length=v.length/\(Dm z b (m-a) m a cf).Perm v/\
  ∀k,(Dm z b (m-a) m a cf).getD k z=if m-i<=k/\k<m+j then(if k<m-i+j then v.getD (k+i) z else v.getD (k-j) z)else v.getD k z
 |0,i,j,v,p,_,_,_,_=>absurd p (Y2 _)
 |d+1,i,j,v,p,q,r,hi,t=>by
  rw[FO];by_cases he:i=j
  ·subst he;rw[Yq rfl,YN,cond_false];obtain⟨c,f,g⟩:=QO (z:=z) v (m-i) m i cf ae ae;refine⟨i,i,v,rfl,c,f,λk=>?_⟩;rw[g k]
   repeat' split
   all_goals first|rfl|(exfalso;omega)|(congr 1;omega)
  ·rw[Ys ae,YQ,cond_true];by_cases s:j<i
   ·rw[Yq ae,cond_true];obtain⟨c,f,g⟩:=QO (z:=z) v (m-i) m j cf ae ae;obtain⟨a,e,b,h,l,n,o⟩:=Zu m cf d (i-j) j _ ae ae r ae (by rw[c];omega);refine⟨a,e,b,h,l.trans c,n.trans f,λk=>?_⟩;rw[o k];simp only[g]
    repeat' split
    all_goals first|rfl|(exfalso;omega)|(congr 1;omega)
   ·rw[Ys ae,cond_false];obtain⟨c,f,g⟩:=QO (z:=z) v (m-i) (m+j-i) i cf ae ae;obtain⟨a,e,b,h,l,n,o⟩:=Zu m cf d i (j-i) _ ae q ae hi (by rw[c];omega);refine⟨a,e,b,h,l.trans c,n.trans f,λk=>?_⟩;rw[o k];simp only[g]
    repeat' split
    all_goals first|rfl|(exfalso;omega)|(congr 1;omega)
theorem Qp(l:List α)(a m b:Nat)(cf:α->α->Int)(g:a<m)(h:m<b)(i:b<=l.length):(Cf z l a m b cf).length=l.length/\(Cf z l a m b cf).Perm l/\
  ∀k,(Cf z l a m b cf).getD k z=if a<=k/\k<b then(if k<a+(b-m)then l.getD (k+(m-a)) z else l.getD (k-(b-m)) z)else l.getD k z:=by
 rw[Cf];obtain⟨j,n,o,c,d,e,f⟩:=Zu (z:=z) m cf (m-a+(b-m)+1) (m-a) (b-m) l (YS _) ae ae ae ae;grind
end
section
variable {α:Type} {z:α} {lt:α->α->Prop}
def B0(lt:α->α->Prop)(z:α)(v:List α)(a b:Nat):Prop:=∀i j,a<=i->i<j->j<b->lt (v.getD i z) (v.getD j z)
def Hz(lt:α->α->Prop)(z:α)(cf:α->α->Int)(v:List α)(a m b:Nat):Prop:=∀p q,a<=p->p<m->m<=q->q<b->
 (cf (v.getD q z) (v.getD p z)<0->lt (v.getD q z) (v.getD p z))/\(¬cf (v.getD q z) (v.getD p z)<0->lt (v.getD p z) (v.getD q z))
structure Res (lt:α->α->Prop) (z:α) (v r:List α) (a b:Nat):Prop where
 len:r.length=v.length
 perm:r.Perm v
 out:∀k,k<a\/b<=k->r.getD k z=v.getD k z
 inn:∀k,a<=k->k<b->∃k',a<=k'/\k'<b/\r.getD k z=v.getD k' z
 srt:B0 lt z r a b
theorem Res.same{v:List α}{a b:Nat}(h:B0 lt z v a b):Res lt z v v a b:=⟨rfl,.refl _,λ_ _=>rfl,λk c d=>⟨k,c,d,rfl⟩,h⟩
theorem gC(d:∀x y w,lt x y->lt y w->lt x w){l:List α}{a m b:Nat}{cf:α->α->Int}(e:a<m)(hs:B0 lt z l m b)(g:Hz lt z cf l a m b):∀(f i j:Nat),j-i<f->m<=i->i<=j->j<=b->
  (∀q,m<=q->q<i->lt (l.getD q z) (l.getD a z))->(∀q,j<=q->q<b->lt (l.getD a z) (l.getD q z))->
  ∃r,Fc z l a cf f i j=.inl r/\m<=r.1/\r.1<=b/\(∀q,m<=q->q<r.1->lt (l.getD q z) (l.getD a z))/\(∀q,r.1<=q->q<b->lt (l.getD a z) (l.getD q z))
 |0,i,j,h,_,_,_,_,_=>absurd h (Y2 _)
 |f+1,i,j,h,s,C,t,u,v=>by
  rw[Fc];by_cases A:i<j
  ·rw[Yq ae,cond_true];obtain⟨o,p⟩:=g a ((i+j)/2) (Yf _) e ae ae;by_cases c:cf (l.getD ((i+j)/2) z) (l.getD a z)<0
   ·rw[Yq c,cond_true];refine gC d e hs g f _ _ ae ae ae t (λq k n=>?_) v;by_cases B:q=(i+j)/2
    ·grind
    ·exact d _ _ _ (hs q ((i+j)/2) k ae ae) (o c)
   ·rw[Ys c,cond_false];refine gC d e hs g f _ _ ae s ae ae u (λq k n=>?_);by_cases B:q=(i+j)/2
    ·grind
    ·exact d _ _ _ (p c) (hs ((i+j)/2) q ae ae n)
  ·rw[Ys ae,cond_false];grind
theorem wq(a0:Nat×Nat):∀(a k:Nat) (v:List α),a0.1-k<a->k+1<=a0.1->a0.1<=v.length->∃r,Gv z a0 a k v=.inl r/\r.2.length=v.length/\r.2.Perm v/\
  ∀q,r.2.getD q z=if k<=q/\q<a0.1-1 then v.getD (q+1) z else if q=a0.1-1 then v.getD k z else v.getD q z
 |0,k,v,b,_,_=>absurd b (Y2 _)
 |a+1,k,v,b,h,g=>by
  rw[Gv];by_cases i:k<a0.1-1
  ·rw[Yq ae,cond_true];obtain⟨r,c,d,e,f⟩:=wq a0 a (k+1) ((v.set k (v.getD (k+1) z)).set (k+1) (v.getD k z)) ae ae (by simpa using g);refine⟨r,c,by simpa using d,e.trans (LB v _ _ ae ae),λq=>?_⟩;rw[f q];simp only[eH v k (k+1) _ ae ae];grind
  ·rw[Ys ae,cond_false];refine⟨(k,v),rfl,rfl,.refl _,λq=>?_⟩;grind
theorem gD(d:∀x y w,lt x y->lt y w->lt x w){l:List α}{a m b:Nat}{cf:α->α->Int}(e:m<b)(hs:B0 lt z l a m)(g:Hz lt z cf l a m b):∀(f i j:Nat),j-i<f->a<=i->i<=j->j<=m->
  (∀q,a<=q->q<i->lt (l.getD q z) (l.getD m z))->(∀q,j<=q->q<m->lt (l.getD m z) (l.getD q z))->
  ∃r,Fe z l m cf f i j=.inl r/\a<=r.1/\r.1<=m/\(∀q,a<=q->q<r.1->lt (l.getD q z) (l.getD m z))/\(∀q,r.1<=q->q<m->lt (l.getD m z) (l.getD q z))
 |0,i,j,h,_,_,_,_,_=>absurd h (Y2 _)
 |f+1,i,j,h,s,C,t,u,v=>by
  rw[Fe];by_cases A:i<j
  ·rw[Yq ae,cond_true];obtain⟨o,p⟩:=g ((i+j)/2) m ae ae (Yf _) e;by_cases c:cf (l.getD m z) (l.getD ((i+j)/2) z)<0
   ·rw[Yq c,YN,cond_false];refine gD d e hs g f _ _ ae s ae ae u (λq k n=>?_);by_cases B:q=(i+j)/2
    ·grind
    ·exact d _ _ _ (o c) (hs ((i+j)/2) q ae ae n)
   ·rw[Ys c,YQ,cond_true];refine gD d e hs g f _ _ ae ae ae t (λq k n=>?_) v;by_cases B:q=(i+j)/2
    ·grind
    ·exact d _ _ _ (hs q ((i+j)/2) k ae ae) (p c)
  ·rw[Ys ae,cond_false];grind
theorem ws(a:Nat×Nat):∀(b k:Nat) (v:List α),k<b->a.1<=k->k<v.length->∃r,FK z a b k v=.inl r/\r.2.length=v.length/\r.2.Perm v/\
  ∀q,r.2.getD q z=if a.1<q/\q<=k then v.getD (q-1) z else if q=a.1 then v.getD k z else v.getD q z
 |0,k,v,c,_,_=>absurd c (Y2 _)
 |b+1,k,v,c,h,i=>by
  rw[FK];by_cases j:a.1<k
  ·rw[Yq ae,cond_true];obtain⟨r,d,e,f,g⟩:=ws a b (k-1) ((v.set k (v.getD (k-1) z)).set (k-1) (v.getD k z)) ae ae (by simp;omega);refine⟨r,d,by simpa using e,f.trans (LB v _ _ ae ae),λq=>?_⟩;grind
  ·rw[Ys ae,cond_false];refine⟨(k,v),rfl,rfl,.refl _,λq=>?_⟩;grind
end
section
variable {α:Type} {z:α} {lt:α->α->Prop}
theorem WO(d:∀x y w,lt x y->lt y w->lt x w){l:List α}{a m b lo hi p:Nat}{cf:α->α->Int}(hs:B0 lt z l a m)(f:B0 lt z l m b)(s:Hz lt z cf l a m b)
  (h:a<=lo) (g:hi<=m) (k:m+hi<=p+1) (n:p<b+lo) (L:Nat->Nat->Nat->(Nat×Nat) ⊕ (List α)) (o:∀e i j,L (e+1) i j=cond (decide (((i:Nat):Int)<((j:Nat):Int)))
   (cond (!decide (cf (l.getD (p-(i+j)/2) z) (l.getD ((i+j)/2) z)<(0:Int))) (L e ((i+j)/2+1) j) (L e i ((i+j)/2))) (.inl (i,j))):
  ∀(e i j:Nat),j-i<e->lo<=i->i<=j->j<=hi->
  (∀q,lo<=q->q<i->lt (l.getD q z) (l.getD (p-q) z))->(∀q,j<=q->q<hi->lt (l.getD (p-q) z) (l.getD q z))->
  ∃r,L e i j=.inl r/\lo<=r.1/\r.1<=hi/\(∀q,lo<=q->q<r.1->lt (l.getD q z) (l.getD (p-q) z))/\(∀q,r.1<=q->q<hi->lt (l.getD (p-q) z) (l.getD q z))
 |0,i,j,F,_,_,_,_,_=>absurd F (Y2 _)
 |e+1,i,j,F,C,I,G,D,E=>by
  rw[o];by_cases H:i<j
  ·rw[Yq ae,cond_true];obtain⟨A,B⟩:=s ((i+j)/2) (p-(i+j)/2) ae ae ae ae;by_cases c:cf (l.getD (p-(i+j)/2) z) (l.getD ((i+j)/2) z)<0
   ·rw[Yq c,YN,cond_false];refine WO d hs f s h g k n L o e _ _ ae C ae ae D (λq u v=>?_);by_cases t:q=(i+j)/2
    ·rw[t];exact A c
    ·exact d _ _ _ (f (p-q) (p-(i+j)/2) ae ae ae) (d _ _ _ (A c) (hs ((i+j)/2) q ae ae ae))
   ·rw[Ys c,YQ,cond_true];refine WO d hs f s h g k n L o e _ _ ae ae ae G (λq u v=>?_) E;by_cases t:q=(i+j)/2
    ·rw[t];exact B c
    ·exact d _ _ _ (hs q ((i+j)/2) ae ae ae) (d _ _ _ (B c) (f (p-(i+j)/2) (p-q) ae ae ae))
  ·rw[Ys ae,cond_false];exact⟨(i,j),rfl,C,by show i<=hi;omega,D,λq u v=>E q (by have:i<=q:=u;omega) v⟩
theorem Zx1(d:∀x y w,lt x y->lt y w->lt x w){l:List α}{a m b:Nat}{cf:α->α->Int}(n:a+1=m)(p:m<b)(v:b<=l.length)(hs:B0 lt z l m b)(o:Hz lt z cf l a m b):
  ∃r,Fc z l a cf (b-m+1) m b=.inl r/\∃c,Gv z r (r.1-a+1) a l=.inl c/\Res lt z l c.2 a b:=by
 obtain⟨r,f,t,u,g,h⟩:=gC d ae hs o (b-m+1) m b ae (Yf _) ae (Yf _) (λq s e=>absurd e ae) (λq s e=>absurd e ae);obtain⟨c,f1,f2,f3,f4⟩:=wq (z:=z) r (r.1-a+1) a l (YS _) ae ae;refine⟨r,f,c,f1,f2,f3,λk A=>?_,λk E F=>?_,λi j B C D=>?_⟩
 ·grind
 ·grind
 ·rw[f4 i,f4 j]
  repeat' split
  all_goals first|(exfalso;omega)|exact g _ ae ae|exact h _ ae ae|exact hs _ _ ae ae ae|skip
theorem ZtU(d:∀x y w,lt x y->lt y w->lt x w){l:List α}{a m b:Nat}{cf:α->α->Int}(n:a<m)(p:m+1=b)(v:b<=l.length)(hs:B0 lt z l a m)(o:Hz lt z cf l a m b):
  ∃r,Fe z l m cf (m-a+1) a m=.inl r/\∃c,FK z r (m+1) m l=.inl c/\Res lt z l c.2 a b:=by
 obtain⟨r,f,t,u,g,h⟩:=gD d ae hs o (m-a+1) a m ae (Yf _) ae (Yf _) (λq s e=>absurd e ae) (λq s e=>absurd e ae);obtain⟨c,f1,f2,f3,f4⟩:=ws (z:=z) r (m+1) m l (YS _) ae ae;refine⟨r,f,c,f1,f2,f3,λk A=>?_,λk E F=>?_,λi j B C D=>?_⟩
 ·grind
 ·grind
 ·rw[f4 i,f4 j]
  repeat' split
  all_goals first|(exfalso;omega)|exact g _ ae ae|exact h _ ae ae|exact hs _ _ ae ae ae|skip
end
section
variable {α:Type} {z:α} {lt:α->α->Prop}
def FV(z:α)(c:Nat)(l:List α)(a m b:Nat)(cf:α->α->Int)(s:Nat):List α:=
 let d:=cond (decide (((s:Nat):Int)<((m:Nat):Int))&&decide (((m:Nat):Int)<(((((a+b)/2)+m)-s:Nat):Int))) (Cf z l s m ((((a+b)/2)+m)-s) cf) l;let e:=cond (decide (((a:Nat):Int)<((s:Nat):Int))&&decide (((s:Nat):Int)<(((a+b)/2:Nat):Int))) (A2 z c d a s ((a+b)/2) cf) d
 cond (decide ((((a+b)/2:Nat):Int)<(((((a+b)/2)+m)-s:Nat):Int))&&decide ((((((a+b)/2)+m)-s:Nat):Int)<((b:Nat):Int))) (A2 z c e ((a+b)/2) ((((a+b)/2)+m)-s) b cf) e
theorem Eg{x y u w:Nat}(h:x<y/\u<w):(decide (((x:Nat):Int)<((y:Nat):Int))&&decide (((u:Nat):Int)<((w:Nat):Int)))=true:=by simp;omega
theorem Ef{x y u w:Nat}(h:¬(x<y/\u<w)):(decide (((x:Nat):Int)<((y:Nat):Int))&&decide (((u:Nat):Int)<((w:Nat):Int)))=false:=by grind
theorem Zxs{A:Nat}{cf:α->α->Int}(Q:∀(l:List α) (a m b:Nat),b-a<A->a<m->m<b->b<=l.length->B0 lt z l a m->B0 lt z l m b->Hz lt z cf l a m b->Res lt z l (A2 z A l a m b cf) a b)
  (l:List α) (a m b s c e:Nat) (D:c=(a+b)/2) (he:e=(a+b)/2+m-s) (hf:b-a<A+1) (h1:a<m) (h2:m<b) (h3:b<=l.length) (hs:B0 lt z l a m) (w:B0 lt z l m b) (O:Hz lt z cf l a m b)
  (s1:a<=s) (s2:s<=m) (e1:m<=e) (e2:e<=b) (hA:∀x y,a<=x->x<s->e<=y->y<b->lt (l.getD x z) (l.getD y z)) (hB:∀x y,s<=x->x<m->m<=y->y<e->lt (l.getD y z) (l.getD x z)) (h4:2<=b-a):
  Res lt z l (FV z A l a m b cf s) a b:=by
 unfold FV;dsimp only;rw[<-D]at he⊢;rw[<-he];have hmb:c<b:=ae
 have ham:a<c:=ae
 have F:∃g,cond (decide (((s:Nat):Int)<((m:Nat):Int))&&decide (((m:Nat):Int)<((e:Nat):Int))) (Cf z l s m e cf) l=g/\g.length=l.length/\g.Perm l/\
   ∀k,g.getD k z=if s<=k/\k<c then l.getD (k+(m-s)) z else if c<=k/\k<e then l.getD (k-(e-m)) z else l.getD k z:=by
  by_cases d:s<m/\m<e
  ·rw[Eg d,cond_true];obtain⟨I,J,E⟩:=Qp (z:=z) l s m e cf d.1 d.2 ae;grind
  ·rw[Ef d,cond_false];refine⟨l,rfl,rfl,.refl _,λk=>?_⟩;grind
 obtain⟨g,X,T,U,F⟩:=F;rw[X];have K:B0 lt z g a s:=λi j o n t=>by rw[F i,F j,Yk ae,Yk ae,Yk ae,Yk ae];exact hs _ _ ae n ae
 have L:B0 lt z g s c:=λi j o n t=>by rw[F i,F j,Ym ae,Ym ae];exact w _ _ ae ae ae
 have V:B0 lt z g c e:=λi j o n t=>by rw[F i,F j,Yk ae,Ym ae,Yk ae,Ym ae];exact hs _ _ ae ae ae
 have W:B0 lt z g e b:=λi j o n t=>by rw[F i,F j,Yk ae,Yk ae,Yk ae,Yk ae];exact w _ _ ae n ae
 have f:∃r,cond (decide (((a:Nat):Int)<((s:Nat):Int))&&decide (((s:Nat):Int)<((c:Nat):Int))) (A2 z A g a s c cf) g=r/\Res lt z g r a c:=by
  by_cases d:a<s/\s<c
  ·rw[Eg d,cond_true];refine⟨_,rfl,Q g a s c ae d.1 d.2 ae K L λp q H p2 p3 S=>?_⟩;rw[F p,F q,Ym ae,Yk ae,Yk ae];exact O p (q+(m-s)) H ae ae ae
  ·rw[Ef d,cond_false];refine⟨g,rfl,.same ?_⟩;by_cases ha:a<s
   ·have:s=c:=ae;rw[<-this];exact K
   ·have:s=a:=ae;rw[<-this];exact L
 obtain⟨r,Y,f⟩:=f;rw[Y];have h:∃G,cond (decide (((c:Nat):Int)<((e:Nat):Int))&&decide (((e:Nat):Int)<((b:Nat):Int))) (A2 z A r c e b cf) r=G/\Res lt z r G c b:=by
  have M:B0 lt z r c e:=λi j o n t=>by rw[f.out i (.inr o),f.out j (.inr ae)];exact V i j o n t
  have N:B0 lt z r e b:=λi j o n t=>by rw[f.out i (.inr ae),f.out j (.inr ae)];exact W i j o n t
  by_cases d:c<e/\e<b
  ·rw[Eg d,cond_true];refine⟨_,rfl,Q r c e b ae d.1 d.2 (by rw[f.len];omega) M N λp q H p2 p3 S=>?_⟩;rw[f.out p (.inr H),f.out q (.inr ae),F p,F q,Yk ae,Yk ae,Yk ae,Ym ae];exact O (p-(e-m)) q ae ae ae S
  ·rw[Ef d,cond_false];refine⟨r,rfl,.same ?_⟩;by_cases hm:c<e
   ·have:e=b:=ae;rw[<-this];exact M
   ·have:e=c:=ae;rw[<-this];exact N
 obtain⟨G,Z,h⟩:=h;rw[Z];have u:∀k,a<=k->k<b->∃k',a<=k'/\k'<b/\g.getD k z=l.getD k' z:=λk B C=>by
  rw[F k]
  repeat' split
  ·exact⟨_,ae,ae,rfl⟩
  ·exact⟨_,ae,ae,rfl⟩
  ·exact⟨_,ae,ae,rfl⟩
 have v:∀k,a<=k->k<b->∃k',a<=k'/\k'<b/\r.getD k z=l.getD k' z:=λk B C=>by
  by_cases d:k<c
  ·obtain⟨k',I,J,E⟩:=f.inn k B d;rw[E];exact u k' I ae
  ·rw[f.out k (.inr ae)];exact u k B C
 refine⟨h.len.trans (f.len.trans T),h.perm.trans (f.perm.trans U),λk d=>?_,λk B C=>?_,λi j o n t=>?_⟩
 ·rw[h.out k ae,f.out k ae,F k]
  repeat' split
  all_goals first|rfl|(exfalso;omega)
 ·by_cases d:k<c
  ·rw[h.out k (.inl d)];exact v k B C
  ·obtain⟨k',I,J,E⟩:=h.inn k ae C;rw[E];exact v k' ae J
 ·by_cases P:j<c
  ·rw[h.out i (.inl ae),h.out j (.inl P)];exact f.srt i j o n P
  ·by_cases hi:c<=i
   ·exact h.srt i j hi n t
   ·rw[h.out i (.inl ae)];obtain⟨R,j1,j2,j3⟩:=h.inn j ae t;obtain⟨i',B,C,k3⟩:=f.inn i o ae;rw[j3,k3,f.out R (.inr j1),F i',F R]
    repeat' split
    all_goals first|(exfalso;omega)|exact hB _ _ ae ae ae ae|exact hA _ _ ae ae ae ae|exact hs _ _ ae ae ae|exact w _ _ ae ae ae
end
section
variable {α:Type} {z:α} {lt:α->α->Prop}
theorem gv(b:∀x y w,lt x y->lt y w->lt x w){l:List α}{a m x p:Nat}{w:α}(hs:B0 lt z l a m)(h:lt (l.getD p z) w)(c:a<=x)(f:x<=p)(d:p<m):lt (l.getD x z) w:=by
 by_cases e:x=p
 ·grind
 ·exact b _ _ _ (hs x p c ae d) h
theorem jT(a:∀x y w,lt x y->lt y w->lt x w){l:List α}{m b y p:Nat}{w:α}(hs:B0 lt z l m b)(h:lt w (l.getD p z))(c:m<=p)(f:p<=y)(d:y<b):lt w (l.getD y z):=by
 by_cases e:y=p
 ·grind
 ·exact a _ _ _ h (hs p y c ae d)
theorem sF(c:∀x y w,lt x y->lt y w->lt x w){e:Nat}{cf:α->α->Int}(t:∀(l:List α) (a m b:Nat),b-a<e->a<m->m<b->b<=l.length->B0 lt z l a m->B0 lt z l m b->Hz lt z cf l a m b->Res lt z l (A2 z e l a m b cf) a b)
  (l:List α) (a m b:Nat) (o:b-a<e+1) (h:a<m) (i:m<b) (j:b<=l.length) (hs:B0 lt z l a m) (d:B0 lt z l m b) (n:Hz lt z cf l a m b) (k:2<=b-a)
  (lo hi s:Nat) (r:a<=lo) (p:hi<=m) (hm:hi<=(a+b)/2) (A:(a+b)/2+m<=b+lo) (B:lo=a\/lo+b=(a+b)/2+m) (C:hi=m\/hi=(a+b)/2) (s1:lo<=s) (s2:s<=hi)
  (u:∀q,lo<=q->q<s->lt (l.getD q z) (l.getD ((a+b)/2+m-1-q) z)) (v:∀q,s<=q->q<hi->lt (l.getD ((a+b)/2+m-1-q) z) (l.getD q z)):
  Res lt z l (FV z e l a m b cf s) a b:=by
 refine Zxs t l a m b s ((a+b)/2) ((a+b)/2+m-s) rfl rfl o h i j hs d n ae ae ae ae (λx y a1 f a3 a4=>?_) (λx y a1 f a3 a4=>?_) k
 ·have g:lo<s:=ae
  have:=u (s-1) ae ae;exact gv c hs (jT c d this ae ae a4) a1 ae ae
 ·have g:s<hi:=ae
  have:=v s (Yf _) g;exact gv c d (jT c hs this ae a1 f) a3 ae ae
theorem fT(c:∀x y w,lt x y->lt y w->lt x w)(cf:α->α->Int):∀(f:Nat) (l:List α) (a m b:Nat),b-a<f->a<m->m<b->b<=l.length->B0 lt z l a m->B0 lt z l m b->Hz lt z cf l a m b->Res lt z l (A2 z f l a m b cf) a b
 |0,l,a,m,b,t,_,_,_,_,_,_=>absurd t (Y2 _)
 |f+1,l,a,m,b,t,C,D,o,hs,d,k=>by
  have tl:∀s,Res lt z l (FV z f l a m b cf s) a b->∀X,FV z f l a m b cf s=X->Res lt z l X a b:=λs h X e=>e▸h;rw[A2];by_cases G:m-a=1
  ·rw[Yq ae,cond_true];obtain⟨r,n,F,f1,R⟩:=Zx1 c (cf:=cf) ae D o d k;grind
  ·rw[Ys ae,cond_false];by_cases H:b-m=1
   ·rw[Yq ae,cond_true];obtain⟨r,n,F,f1,R⟩:=ZtU c (cf:=cf) C ae o hs k;grind
   ·rw[Ys ae,cond_false];by_cases I:(a+b)/2<m
    ·rw[Yq ae,cond_true];obtain⟨r,n,u,v,A,B⟩:=WO c hs d k (lo:=(a+b)/2+m-b) (hi:=(a+b)/2) (p:=(a+b)/2+m-1) ae ae ae ae (FL z l a m b cf) (λf i j=>by rw[FL])
      ((a+b)/2-((a+b)/2+m-b)+1) ((a+b)/2+m-b) ((a+b)/2) (YS _) (Yf _) ae (Yf _) (λq E g=>absurd g ae) (λq E g=>absurd g ae)
     rw[n,C2];refine tl r.1 (sF c (fT c cf f) l a m b t C D o hs d k ae ((a+b)/2+m-b) ((a+b)/2) r.1 ae ae ae ae (.inr ae) (.inr rfl) u v A B) _ ?_;unfold FV;grind
    ·rw[Ys ae,cond_false];obtain⟨r,n,u,v,A,B⟩:=WO c hs d k (lo:=a) (hi:=m) (p:=(a+b)/2+m-1) ae ae ae ae (FM z l a m b cf) (λf i j=>by rw[FM])
      (m-a+1) a m (YS _) (Yf _) ae (Yf _) (λq E g=>absurd g ae) (λq E g=>absurd g ae)
     rw[n,C2];refine tl r.1 (sF c (fT c cf f) l a m b t C D o hs d k ae a m r.1 ae ae ae ae (.inl rfl) (.inl rfl) u v A B) _ ?_;unfold FV;grind
end
section
variable {α:Type} {z:α} {lt:α->α->Prop}
def Hv(lt:α->α->Prop)(z:α)(cf:α->α->Int)(v:List α)(a b:Nat):Prop:=∀p q,a<=p->p<q->q<b->
 (cf (v.getD q z) (v.getD p z)<0->lt (v.getD q z) (v.getD p z))/\(¬cf (v.getD q z) (v.getD p z)<0->lt (v.getD p z) (v.getD q z))
theorem u2(a:Nat)(cf:α->α->Int):∀(b j:Nat) (v:List α),j<b->a<=j->j<v.length->∃r,Fb z a cf b j v=.inl r/\r.2.length=v.length/\r.2.Perm v/\a<=r.1/\r.1<=j/\
  (∀q,r.2.getD q z=if r.1<q/\q<=j then v.getD (q-1) z else if q=r.1 then v.getD j z else v.getD q z)/\(∀q,r.1<=q->q<j->cf (v.getD j z) (v.getD q z)<0)/\(r.1=a\/¬cf (v.getD j z) (v.getD (r.1-1) z)<0)
 |0,j,v,g,_,_=>absurd g (Y2 _)
 |b+1,j,v,g,t,u=>by
  rw[Fb];by_cases c:a<j/\cf (v.getD j z) (v.getD (j-1) z)<0
  ·rw[show(decide (((a:Nat):Int)<((j:Nat):Int))&&decide (cf (v.getD j z) (v.getD (j-1) z)<(0:Int)))=true from by rw[Yq ae,Yq c.2];rfl,cond_true];obtain⟨r,l,m,n,o,x,y,p,s⟩:=u2 a cf b (j-1) ((v.set j (v.getD (j-1) z)).set (j-1) (v.getD j z)) ae ae (by simp;omega);have d:∀q,((v.set j (v.getD (j-1) z)).set (j-1) (v.getD j z)).getD q z=if q=j-1 then v.getD j z else if q=j then v.getD (j-1) z else v.getD q z:=λq=>eH v j (j-1) q u ae
   refine⟨r,l,by simpa using m,n.trans (LB v _ _ ae ae),o,ae,λq=>?_,λq f k=>?_,?_⟩
   ·grind
   ·by_cases i:q=j-1
    ·rw[i];exact c.2
    ·have:=p q f ae;rw[d,d,Ym rfl,Yk i,Yk ae]at this;exact this
   ·rcases s with h|h
    ·exact .inl h
    ·by_cases w:r.1=a
     ·exact .inl w
     ·rw[d,d,Ym rfl,Yk ae,Yk ae]at h;exact .inr h
  ·rw[show(decide (((a:Nat):Int)<((j:Nat):Int))&&decide (cf (v.getD j z) (v.getD (j-1) z)<(0:Int)))=false from by
    rw[Ia];by_cases h:a<j
    ·exact .inr (Ys (λe=>c ⟨h,e⟩))
    ·exact .inl (Ys ae),cond_false]
   refine⟨(j,v),rfl,rfl,.refl _,t,Yf _,λq=>?_,λq f k=>absurd k (by have:j<=q:=f;omega),?_⟩
   ·repeat' split
    all_goals first|rfl|(exfalso;omega)|(congr 1<;>omega)
   ·by_cases h:a<j
    ·exact .inr λe=>c ⟨h,e⟩
    ·exact .inl (by show j=a;omega)
theorem Zwp(m:∀x y w,lt x y->lt y w->lt x w){cf:α->α->Int}{l v:List α}{a b i:Nat}(R:Res lt z l v a i)(s:Hv lt z cf l a b)(hi:i<b)(L:b<=l.length)(K:a<i):
  ∃r,Fb z a cf (i+1) i v=.inl r/\Res lt z l r.2 a (i+1):=by
 obtain⟨r,B,C,D,I,J,e,E,F⟩:=u2 (z:=z) a cf (i+1) i v (YS _) ae (by rw[R.len];omega);have c:v.getD i z=l.getD i z:=R.out i (.inr (Yf _));have u:∀q,r.1<=q->q<i->lt (v.getD i z) (v.getD q z):=λq H t=>by have h:=E q H t;obtain⟨d,f,g,p⟩:=R.inn q ae t;rw[c,p]at h⊢;exact(s d i f g hi).1 h
 have A:a<r.1->lt (v.getD (r.1-1) z) (v.getD i z):=λh=>by
  rcases F with j|j
  ·omega
  ·obtain⟨d,f,g,p⟩:=R.inn (r.1-1) ae ae;rw[c,p]at j⊢;exact(s d i f g hi).2 j
 refine⟨r,B,C.trans R.len,D.trans R.perm,λk M=>?_,λk f g=>?_,λx y N O P=>?_⟩
 ·rw[e k,Yk ae,Yk ae];exact R.out k ae
 ·rw[e k]
  repeat' split
  ·obtain⟨d,n,G,o⟩:=R.inn (k-1) ae ae;exact⟨d,n,ae,o⟩
  ·exact⟨i,ae,ae,c⟩
  ·obtain⟨d,n,G,o⟩:=R.inn k ae ae;exact⟨d,n,ae,o⟩
 ·rw[e x,e y]
  repeat' split
  all_goals first|(exfalso;omega)|exact u _ ae ae|exact R.srt _ _ ae ae ae|exact gv m R.srt (A ae) ae ae ae
theorem uz(c:∀x y w,lt x y->lt y w->lt x w){cf:α->α->Int}{l:List α}{a b:Nat}(f:Hv lt z cf l a b)(e:b<=l.length):∀(d i:Nat) (v:List α),b-i<d->a<i->i<=b->Res lt z l v a i->
  ∃r,Gz z a b cf d i v=.inl r/\Res lt z l r.2 a b
 |0,i,v,g,_,_,_=>absurd g (Y2 _)
 |d+1,i,v,g,k,m,R=>by
  rw[Gz];by_cases hi:i<b
  ·rw[Yq ae,cond_true];obtain⟨r,j,h⟩:=Zwp c R f hi e k;rw[j,C2];exact uz c f e d (i+1) r.2 ae ae ae h
  ·rw[Ys ae,cond_false];grind
theorem yW(c:∀x y w,lt x y->lt y w->lt x w){cf:α->α->Int}(l:List α)(a b:Nat)(f:Hv lt z cf l a b)(e:b<=l.length):Res lt z l (DI z l a b cf) a b:=by
 rw[DI];by_cases h:a<b
 ·obtain⟨r,m,R⟩:=uz c f e (b-(a+1)+1) (a+1) l (YS _) ae h (.same λi j g k d=>absurd d ae);grind
 ·rw[show b-(a+1)+1=0+1 from by omega,Gz,Ys ae,cond_false];exact .same λi j g k d=>absurd d ae
end
section
variable {α:Type} {z:α} {lt:α->α->Prop}
def GW(lt:α->α->Prop)(z:α)(l v:List α)(x y:Nat):Prop:=B0 lt z v x y/\∀q,x<=q->q<y->∃a,x<=a/\a<y/\v.getD q z=l.getD a z
theorem GW.keep{l v r:List α}{a b x y:Nat}(h:GW lt z l v x y)(R:Res lt z v r a b)(k:y<=a\/b<=x):GW lt z l r x y:=
 ⟨λi j c d e=>by rw[R.out i ae,R.out j ae];exact h.1 i j c d e,λq f g=>by rw[R.out q ae];exact h.2 q f g⟩
theorem uJ(g:∀x y w,lt x y->lt y w->lt x w){cf:α->α->Int}{l v:List α}{a m b:Nat}(o:Hv lt z cf l 0 l.length)(hl:v.length=l.length)(k:a<m)(n:m<b)(E:b<=l.length)
  (e:GW lt z l v a m) (f:GW lt z l v m b):Res lt z v (A2 z (b-a+1) v a m b cf) a b/\GW lt z l (A2 z (b-a+1) v a m b cf) a b:=by
 have R:=fT g cf (b-a+1) v a m b (YS _) k n ae e.1 f.1 (λp q t u A B=>by obtain⟨s,a1,h,a3⟩:=e.2 p t u;obtain⟨c,i,j,d⟩:=f.2 q A B;rw[a3,d];exact o s c (Cn _) ae ae);refine⟨R,R.srt,λq C D=>?_⟩;obtain⟨c,a1,h,a3⟩:=R.inn q C D;rw[a3];by_cases r:c<m
 ·obtain⟨p,i,j,d⟩:=e.2 c a1 r;grind
 ·obtain⟨p,i,j,d⟩:=f.2 c ae h;grind
theorem Qb{x a t k k':Nat}(hx:x=k*t)(f:a=k'*t)(b:a<x+t)(c:x<a+t):x=a:=by
 subst hx;subst f;have d:k*t+t=(k+1)*t:=by rw[Si]
 have e:k'*t+t=(k'+1)*t:=by rw[Si]
 rw[d]at b;rw[e]at c;have:=iK b;have:=iK c;grind
def Tu(lt:α->α->Prop)(z:α)(l v:List α)(s:Nat):Prop:=v.length=l.length/\v.Perm l/\∀x k,x=k*s->x<l.length->GW lt z l v x (min (x+s) l.length)
theorem nr(d:∀x y w,lt x y->lt y w->lt x w){cf:α->α->Int}{l:List α}(n:Hv lt z cf l 0 l.length):∀(e a k:Nat) (v:List α),l.length+1-(a+20)<e->a=k*20->a<=l.length->v.length=l.length->v.Perm l->
  (∀q,a<=q->v.getD q z=l.getD q z)->(∀x j,x=j*20->x+20<=a->GW lt z l v x (x+20))->
  ∃r,Hm z l.length cf e a (a+20) v=.inl r/\Tu lt z l (DI z r.2.2 r.1 l.length cf) 20
 |0,a,k,v,o,_,_,_,_,_,_=>absurd o (Y2 _)
 |e+1,a,k,v,o,m,I,hl,t,f,s=>by
  have ok:Hv lt z cf v a l.length:=λp q h i u=>by rw[f p h,f q ae];exact n p q (Cn _) i u
  have c:∀b,b<=l.length->Res lt z v (DI z v a b cf) a b/\GW lt z l (DI z v a b cf) a b:=λb g=>by have R:=yW d (cf:=cf) v a b (λp q h i u=>ok p q h i ae) ae;exact⟨R,R.srt,λq F H=>by obtain⟨A,a1,B,a3⟩:=R.inn q F H;exact⟨A,a1,B,by rw[a3,f A a1]⟩⟩
  rw[Hm];by_cases g:a+20<=l.length
  ·rw[Yq ae,cond_true];obtain⟨R,G⟩:=c (a+20) g;refine nr d n e (a+20) (k+1) _ ae ae g (R.len.trans hl) (R.perm.trans t) (λq C=>by rw[R.out q (.inr C)];exact f q ae) (λx j hx D=>?_);by_cases he:x+20<=a
   ·exact(s x j hx he).keep R (.inl he)
   ·have:=Qb hx m ae ae;rw[this];exact G
  ·rw[Ys ae,cond_false];obtain⟨R,G⟩:=c l.length (Yf _);refine⟨(a,a+20,v),rfl,R.len.trans hl,R.perm.trans t,λx j hx E=>?_⟩;by_cases he:x+20<=a
   ·rw[FJ ae];exact(s x j hx he).keep R (.inl he)
   ·have:=Qb hx m ae ae;rw[this,XP ae];exact G
end
section
variable {α:Type} {z:α} {lt:α->α->Prop}
theorem nq(c:∀x y w,lt x y->lt y w->lt x w){cf:α->α->Int}{l:List α}(o:Hv lt z cf l 0 l.length){s:Nat}(hs:0<s):∀(m a k:Nat) (v:List α),l.length+1-(a+2*s)<m->a=k*(2*s)->a<=l.length->v.length=l.length->v.Perm l->
  (∀x j,x=j*(2*s)->x+2*s<=a->GW lt z l v x (x+2*s))->(∀x j,x=j*s->a<=x->x<l.length->GW lt z l v x (min (x+s) l.length))->
  ∃r,Hl z l.length cf s m a (a+2*s) v=.inl r/\Tu lt z l (cond (decide (((r.1+s:Nat):Int)<((l.length:Nat):Int))) (A2 z (l.length-r.1+1) r.2.2 r.1 (r.1+s) l.length cf) r.2.2) (s*2)
 |0,a,k,v,u,_,_,_,_,_,_=>absurd u (Y2 _)
 |m+1,a,k,v,u,g,B,hl,p,A,h=>by
  have n:a=(2*k)*s:=by rw[g,<-Nat.mul_assoc,Sg k 2]
  have q:a+s=(2*k+1)*s:=by rw[Si,<-n]
  rw[Hl];by_cases t:a+2*s<=l.length
  ·rw[Yq ae,cond_true];have f:=h a _ n (Yf _) ae;have e:=h (a+s) _ q ae ae;rw[FJ ae]at f e;rw[show a+s+s=a+2*s from by omega]at e;obtain⟨R,G⟩:=uJ c o hl ae ae t f e;refine nq c o hs m (a+2*s) (k+1) _ ae (by rw[Si k (2*s),<-g]) t (R.len.trans hl) (R.perm.trans p) (λx j hx i=>?_) (λx j hx i d=>?_)
   ·by_cases he:x+2*s<=a
    ·exact(A x j hx he).keep R (.inl he)
    ·have:=Qb hx g ae ae;grind
   ·exact(h x j hx ae d).keep R (.inr i)
  ·rw[Ys ae,cond_false];refine⟨(a,a+2*s,v),rfl,?_⟩;show Tu lt z l (cond (decide (((a+s:Nat):Int)<((l.length:Nat):Int))) (A2 z (l.length-a+1) v a (a+s) l.length cf) v) (s*2);by_cases hm:a+s<l.length
   ·rw[Yq ae,cond_true];have f:=h a _ n (Yf _) ae;have e:=h (a+s) _ q ae hm;rw[FJ ae]at f;rw[XP ae]at e;obtain⟨R,G⟩:=uJ c o hl ae hm (Yf _) f e;refine⟨R.len.trans hl,R.perm.trans p,λx j hx d=>?_⟩;have b:x=j*(2*s):=(by rw[hx,Sg s 2]);by_cases he:x+2*s<=a
    ·rw[FJ ae,show x+s*2=x+2*s from by omega];exact(A x j b he).keep R (.inl he)
    ·have:=Qb b g ae ae;grind
   ·rw[Ys ae,cond_false];refine⟨hl,p,λx j hx d=>?_⟩;have b:x=j*(2*s):=(by rw[hx,Sg s 2]);by_cases he:x+2*s<=a
    ·grind
    ·have:=Qb b g ae ae;grind
theorem lV(a:∀x y w,lt x y->lt y w->lt x w){cf:α->α->Int}{l:List α}(g:Hv lt z cf l 0 l.length):∀(c s:Nat) (v:List α),l.length-s<c->0<s->Tu lt z l v s->
  ∃r,FP z l.length cf c s v=.inl r/\r.2.length=l.length/\r.2.Perm l/\B0 lt z r.2 0 l.length
 |0,s,v,k,_,_=>absurd k (Y2 _)
 |c+1,s,v,k,o,p=>by
  obtain⟨hl,m,n⟩:=p;rw[FP];by_cases u:s<l.length
  ·rw[Yq ae,cond_true];obtain⟨r,f,R⟩:=nq a g o (l.length+1-(2*s)+1) 0 0 v ae (by simp) (Cn _) hl m (λx j hx b=>absurd b ae) (λx j hx b e=>n x j hx e);rw[YX]at f;rw[f,C2];have d:=lV a g c (s*2) _ ae ae R;cases h:decide (((r.1+s:Nat):Int)<((l.length:Nat):Int))with
   |true=>rw[h]at d;exact d
   |false=>rw[h]at d;exact d
  ·rw[Ys ae,cond_false];refine⟨(s,v),rfl,hl,m,?_⟩;by_cases q:0<l.length
   ·have:=(n 0 0 (by simp) q).1;rwa [XP ae]at this
   ·exact λi j A B t=>absurd t ae
theorem Zp1(a:∀x y w,lt x y->lt y w->lt x w){cf:α->α->Int}(l:List α)(d:Hv lt z cf l 0 l.length):(Gy z l cf).Perm l/\B0 lt z (Gy z l cf) 0 l.length:=by rw[Gy,Ux];obtain⟨r,c,R⟩:=nr a d (l.length+1-20+1) 0 0 l ae (by simp) (Cn _) rfl (.refl _) (λ_ _=>rfl) (λx j hx b=>absurd b ae);rw[YX]at c;rw[c,C2];obtain⟨e,f1,f2,f3,f4⟩:=lV a d (l.length-20+1) 20 _ ae ae R;grind
end
section
variable {α β:Type} {f:β->α} {z:α} {z':β} {cf:α->α->Int} {cf':β->β->Int}
theorem gm(a:f z'=z)(l:List β)(k:Nat):(l.map f).getD k z=f (l.getD k z'):=by grind
theorem EC{γ δ:Type}(g:γ->δ)(b:Bool)(x y:γ):g (cond b x y)=cond b (g x) (g y):=by cases b<;>rfl
theorem LA{γ δ ε ζ:Type}(g:γ->δ)(F:ε->γ)(G:ζ->γ)(x:ε ⊕ ζ):g (Sum.elim F G x)=Sum.elim (λr=>g (F r)) (λr=>g (G r)) x:=by cases x<;>rfl
theorem Ly{γ ε ζ a b:Type}(F:ε->γ)(G:ζ->γ)(p:a->ε)(q:b->ζ)(x:a ⊕ b):Sum.elim F G (Sum.map p q x)=Sum.elim (λr=>F (p r)) (λr=>G (q r)) x:=by cases x<;>rfl
def m2(f:β->α)(r:Nat×List β):Nat×List α:=(r.1,r.2.map f)
def m3(f:β->α)(r:Nat×Nat×List β):Nat×Nat×List α:=(r.1,r.2.1,r.2.2.map f)
theorem lC(d:f z'=z)(a b n:Nat):∀(c i:Nat) (v:List β),Hj z a b n c i (v.map f)=Sum.map (m2 f) (List.map f) (Hj z' a b n c i v)
 |0,i,v=>rfl
 |c+1,i,v=>by simp only[Hj,gm d,<-OO,lC d a b n c,EC (Sum.map (m2 f) (List.map f))];rfl
theorem pT(c:f z'=z)(l:List β)(a b n:Nat):Dm z (l.map f) a b n cf=(Dm z' l a b n cf').map f:=by simp only[Dm,lC c,Ly,LA (List.map f)];rfl
theorem jE(b:f z'=z)(m:Nat):∀(a i j:Nat) (v:List β),FO z m cf a i j (v.map f)=Sum.map (m3 f) (List.map f) (FO z' m cf' a i j v)
 |0,i,j,v=>rfl
 |a+1,i,j,v=>by simp only[FO,pT (cf':=cf') b,jE b m a,EC (Sum.map (m3 f) (List.map f))];rfl
theorem ZL1(c:f z'=z)(l:List β)(a m b:Nat):Cf z (l.map f) a m b cf=(Cf z' l a m b cf').map f:=by simp only[Cf,jE (cf':=cf') c,Ly,LA (List.map f),m3,pT (cf':=cf') c]
theorem tq(d:f z'=z)(c:∀x y,cf (f x) (f y)=cf' x y)(a:Nat):∀(b i:Nat) (v:List β),Fb z a cf b i (v.map f)=Sum.map (m2 f) (List.map f) (Fb z' a cf' b i v)
 |0,i,v=>rfl
 |b+1,i,v=>by simp only[Fb,gm d,c,<-OO,tq d c a b,EC (Sum.map (m2 f) (List.map f))];rfl
theorem td(e:f z'=z)(d:∀x y,cf (f x) (f y)=cf' x y)(a b:Nat):∀(c i:Nat) (v:List β),Gz z a b cf c i (v.map f)=Sum.map (m2 f) (List.map f) (Gz z' a b cf' c i v)
 |0,i,v=>rfl
 |c+1,i,v=>by simp only[Gz,tq e d,Ly,m2,td e d a b c,EC (Sum.map (m2 f) (List.map f)),LA (Sum.map (m2 f) (List.map f))];rfl
theorem mH(d:f z'=z)(c:∀x y,cf (f x) (f y)=cf' x y)(l:List β)(a b:Nat):DI z (l.map f) a b cf=(DI z' l a b cf').map f:=by simp only[DI,td d c,Ly,LA (List.map f)];rfl
theorem nE(d:f z'=z)(c:∀x y,cf (f x) (f y)=cf' x y)(l:List β)(a:Nat):∀(b i j:Nat),Fc z (l.map f) a cf b i j=Sum.map id (List.map f) (Fc z' l a cf' b i j)
 |0,i,v=>rfl
 |b+1,i,v=>by simp only[Fc,gm d,c,nE d c l a b,EC (Sum.map id (List.map f))];rfl
theorem me(b:f z'=z)(a0:Nat×Nat):∀(a i:Nat) (v:List β),Gv z a0 a i (v.map f)=Sum.map (m2 f) (List.map f) (Gv z' a0 a i v)
 |0,i,v=>rfl
 |a+1,i,v=>by simp only[Gv,gm b,<-OO,me b a0 a,EC (Sum.map (m2 f) (List.map f))];rfl
theorem lA(d:f z'=z)(c:∀x y,cf (f x) (f y)=cf' x y)(l:List β)(a:Nat):∀(b i j:Nat),Fe z (l.map f) a cf b i j=Sum.map id (List.map f) (Fe z' l a cf' b i j)
 |0,i,v=>rfl
 |b+1,i,v=>by simp only[Fe,gm d,c,lA d c l a b,EC (Sum.map id (List.map f))];rfl
theorem lN(b:f z'=z)(a0:Nat×Nat):∀(a i:Nat) (v:List β),FK z a0 a i (v.map f)=Sum.map (m2 f) (List.map f) (FK z' a0 a i v)
 |0,i,v=>rfl
 |a+1,i,v=>by simp only[FK,gm b,<-OO,lN b a0 a,EC (Sum.map (m2 f) (List.map f))];rfl
theorem lJ(e:f z'=z)(d:∀x y,cf (f x) (f y)=cf' x y)(l:List β)(a m b:Nat):∀(c i j:Nat),FL z (l.map f) a m b cf c i j=Sum.map id (List.map f) (FL z' l a m b cf' c i j)
 |0,i,v=>rfl
 |c+1,i,v=>by simp only[FL,gm e,d,lJ e d l a m b c,EC (Sum.map id (List.map f))];rfl
theorem mn(e:f z'=z)(d:∀x y,cf (f x) (f y)=cf' x y)(l:List β)(a m b:Nat):∀(c i j:Nat),FM z (l.map f) a m b cf c i j=Sum.map id (List.map f) (FM z' l a m b cf' c i j)
 |0,i,v=>rfl
 |c+1,i,v=>by simp only[FM,gm e,d,mn e d l a m b c,EC (Sum.map id (List.map f))];rfl
theorem ax(c:f z'=z)(d:∀x y,cf (f x) (f y)=cf' x y):∀(e:Nat) (l:List β) (a m b:Nat),A2 z e (l.map f) a m b cf=(A2 z' e l a m b cf').map f
 |0,l,a,m,b=>rfl
 |e+1,l,a,m,b=>by simp only[A2,nE c d,me c,lA c d,lN c,lJ c d,mn c d,ZL1 (cf':=cf') c,ax c d e,Ly,LA (List.map f),EC (List.map f),m2,id_eq]
theorem mV(c:f z'=z)(b:∀x y,cf (f x) (f y)=cf' x y)(n:Nat):∀(a i j:Nat) (v:List β),Hm z n cf a i j (v.map f)=Sum.map (m3 f) (List.map f) (Hm z' n cf' a i j v)
 |0,i,j,v=>rfl
 |a+1,i,j,v=>by simp only[Hm,mH c b,mV c b n a,EC (Sum.map (m3 f) (List.map f))];rfl
theorem nn(c:f z'=z)(b:∀x y,cf (f x) (f y)=cf' x y)(n s:Nat):∀(a i j:Nat) (v:List β),Hl z n cf s a i j (v.map f)=Sum.map (m3 f) (List.map f) (Hl z' n cf' s a i j v)
 |0,i,j,v=>rfl
 |a+1,i,j,v=>by simp only[Hl,ax c b,nn c b n s a,EC (Sum.map (m3 f) (List.map f))];rfl
theorem kK(c:f z'=z)(b:∀x y,cf (f x) (f y)=cf' x y)(n:Nat):∀(a s:Nat) (v:List β),FP z n cf a s (v.map f)=Sum.map (m2 f) (List.map f) (FP z' n cf' a s v)
 |0,s,v=>rfl
 |a+1,s,v=>by simp only[FP,nn c b,Ly,m3,ax c b,kK c b n a,EC (Sum.map (m2 f) (List.map f)),LA (Sum.map (m2 f) (List.map f))];rfl
theorem Zxr(b:f z'=z)(a:∀x y,cf (f x) (f y)=cf' x y)(l:List β):Gy z (l.map f) cf=(Gy z' l cf').map f:=by simp only[Gy,Ux,YF,mV b a,Ly,m3,mH b a,kK b a,LA (List.map f)];rfl
end
section
variable {α:Type} {z:α} {cf:α->α->Int}
structure CmpLaw (cf:α->α->Int):Prop where
 tr:∀x y w,cf x y<0->cf y w<0->cf x w<0
 ng:∀x y w,¬cf x y<0->¬cf y w<0->¬cf x w<0
 ir:∀x,¬cf x x<0
def Gm(cf:α->α->Int)(a b:α×Nat):Prop:=cf a.1 b.1<0\/(¬cf b.1 a.1<0/\a.2<b.2)
theorem ZJi(h:CmpLaw cf):∀a b c:α×Nat,Gm cf a b->Gm cf b c->Gm cf a c:=by
 rintro⟨x,i⟩ ⟨y,j⟩ ⟨w,k⟩ d f;rcases d with d|⟨d,g⟩<;>rcases f with f|⟨f,l⟩
 ·exact .inl (h.tr _ _ _ d f)
 ·refine .inl ?_;by_cases e:cf x w<0
  ·exact e
  ·exact absurd d (h.ng _ _ _ e f)
 ·refine .inl ?_;by_cases e:cf x w<0
  ·exact e
  ·exact absurd f (h.ng _ _ _ d e)
 ·exact .inr ⟨h.ng _ _ _ f d,Nat.lt_trans g l⟩
theorem ZHK(h:CmpLaw cf)(a b:α×Nat)(c:Gm cf a b)(d:Gm cf b a):False:=by
 rcases c with c|⟨c,e⟩<;>rcases d with d|⟨d,f⟩
 ·exact h.ir _ (h.tr _ _ _ c d)
 ·grind
 ·grind
 ·omega
theorem ZtL(l:List α):Hv (Gm cf) (z,0) (λa b:α×Nat=>cf a.1 b.1) l.zipIdx 0 l.zipIdx.length:=λp q _ c f=>by
 have d:q<l.length:=by simpa using f
 have g:∀k,k<l.length->∃x,l.zipIdx.getD k (z,0)=(x,k):=λk e=>⟨l[k],by simp[Yg,e]⟩;obtain⟨x,hx⟩:=g p ae;obtain⟨y,hy⟩:=g q d;rw[hx,hy];exact⟨λh=>.inl h,λh=>.inr ⟨h,c⟩⟩
theorem ZMn{β:Type}{lt:β->β->Prop}{z:β}{l:List β}(h:B0 lt z l 0 l.length):l.Pairwise lt:=by rw[Sa];intro i j hi b a;have:=h i j (Cn _) a b;grind
theorem ez{β:Type}{lt:β->β->Prop}(d:∀a b,lt a b->lt b a->False):∀{l r:List β},l.Pairwise lt->r.Pairwise lt->l.Perm r->l=r
 |[],r,_,_,c=>(List.Perm.nil_eq c)
 |a::l,[],_,_,c=>absurd c.length_eq (by simp)
 |a::l,b::r,h,i,c=>by
  have e:a=b:=by
   have f:a∈b::r:=c.mem_iff.1 (YJ ..);have g:b∈a::l:=c.mem_iff.2 (YJ ..);rcases Yy.1 f with e|f
   ·exact e
   ·rcases Yy.1 g with e|g
    ·grind
    ·exact(d a b ((DY.1 h).1 b g) ((DY.1 i).1 a f)).elim
  subst e;rw[ez d (DY.1 h).2 (DY.1 i).2 (List.Perm.cons_inv c)]
theorem Zsr(h:CmpLaw cf)(l:List α)(r:List (α×Nat))(d:r.Perm l.zipIdx)(hs:r.Pairwise (Gm cf)):Gy z l cf=r.map (·.1):=by obtain⟨c,g⟩:=Zp1 (z:=(z,0)) (ZJi h) l.zipIdx (ZtL (cf:=cf) l);have e:Gy (z,0) l.zipIdx (λa b:α×Nat=>cf a.1 b.1)=r:=ez (ZHK h) (ZMn (by rw[c.length_eq];exact g)) hs (c.trans d.symm);rw[<-e,<-Zxr (f:=λa:α×Nat=>a.1) (z:=z) rfl (λ_ _=>rfl)];congr 1;simp
end
section
variable {α:Type} {z:α} {cf:α->α->Int}
theorem Zrk(h:CmpLaw cf){x:α}{i:Nat}{A B:List (α×Nat)}(hs:(A++B).Pairwise (Gm cf))(hi:∀a∈A++B,a.2<i)(m:∀b∈B,cf x b.1<0)(l:∀a,A.getLast?=some a->¬cf x a.1<0):
  (A++(x,i)::B).Pairwise (Gm cf):=by
 rw[XD]at hs⊢;obtain⟨g,k,n⟩:=hs;have key:∀a∈A,¬cf x a.1<0:=by
  intro a d;obtain⟨C,c,rfl⟩:∃C c,A=C++[c]:=⟨A.dropLast,A.getLast (List.ne_nil_of_mem d),(iJ (List.ne_nil_of_mem d)).symm⟩;have j:=l c (by simp);rcases Hg.1 d with d|d
  ·rw[XD]at g;rcases g.2.2 a d c (by simp)with e|⟨e,_⟩
   ·exact λe'=>j (h.tr _ _ _ e' e)
   ·exact h.ng _ _ _ j e
  grind
 refine⟨g,DY.2 ⟨λb f=>.inl (m b f),k⟩,λa d b f=>?_⟩;rcases Yy.1 f with rfl|f
 ·exact .inr ⟨key a d,hi a (Ib _ d)⟩
 grind
def insR(cf:α->α->Int)(out:List α)(x:α):List α:=(out.reverse.dropWhile (λy=>decide (cf x y<0))).reverse++x::(out.reverse.takeWhile (λy=>decide (cf x y<0))).reverse
def Cq(cf:α->α->Int)(l:List α):List α:=l.foldl (insR cf) []
theorem Zp0(cf:α->α->Int)(r:List (α×Nat))(x:α):∃A B:List (α×Nat),r=A++B/\insR cf (r.map (·.1)) x=A.map (·.1)++x::B.map (·.1)/\(∀b∈B,cf x b.1<0)/\(∀a,A.getLast?=some a->¬cf x a.1<0):=by
 refine⟨(r.reverse.dropWhile (λy=>decide (cf x y.1<0))).reverse,(r.reverse.takeWhile (λy=>decide (cf x y.1<0))).reverse,?_,?_,?_,?_⟩
 ·rw[<-XH,iN,List.reverse_reverse]
 ·have e:(λy=>decide (cf x y<0))∘(λp:α×Nat=>p.1)=λy:α×Nat=>decide (cf x y.1<0):=rfl;rw[insR,<-XQ,List.dropWhile_map,List.takeWhile_map,e,<-XQ,<-XQ]
 ·intro b d;have:=List.all_takeWhile (p:=λy:α×Nat=>decide (cf x y.1<0)) (l:=r.reverse);grind
 ·intro a c;rw[List.getLast?_reverse]at c;have:=List.head?_dropWhile_not (λy:α×Nat=>decide (cf x y.1<0)) r.reverse;grind
theorem Up(h:CmpLaw cf):∀(l:List α) (i:Nat) (r:List (α×Nat)),r.Pairwise (Gm cf)->(∀a∈r,a.2<i)->∃c:List (α×Nat),l.foldl (insR cf) (r.map (·.1))=c.map (·.1)/\c.Pairwise (Gm cf)/\c.Perm (r++l.zipIdx i)
 |[],i,r,f,d=>⟨r,rfl,f,by simp⟩
 |x::l,i,r,f,d=>by
  obtain⟨A,B,rfl,e,n,m⟩:=Zp0 cf r x;have o:=Zrk h f d n m;obtain⟨c,g,j,k⟩:=Up h l (i+1) (A++(x,i)::B) o (λa b=>by
   rcases Hg.1 b with b|b
   ·exact Xu (d a (Ib _ b))
   ·rcases Yy.1 b with rfl|b
    ·exact YS _
    ·exact Xu (d a (iW _ b)))
  refine⟨c,?_,j,k.trans ?_⟩
  ·rw[OW,e,<-g];simp
  ·rw[List.zipIdx_cons];simp only[DZ,H5];exact List.Perm.append_left A (XR.symm)
theorem cS(h:CmpLaw cf)(l:List α):Gy z l cf=Cq cf l:=by obtain⟨e,f,b,c⟩:=Up h l 0 [] .nil (λa d=>by cases d);rw[Zsr h l e (by simpa using c) b,Cq];grind
end
section
variable {α:Type} {cf:α->α->Int}
theorem ZrE(out:List α)(x:α):(insR cf out x).Perm (x::out):=by rw[insR];refine XR.trans (List.Perm.cons _ ?_);rw[<-XH,iN,List.reverse_reverse]
theorem qs:∀(l out:List α),(l.foldl (insR cf) out).Perm (out++l)
 |[],out=>by simp
 |x::l,out=>by rw[OW];refine(qs l _).trans ?_;refine((ZrE out x).append_right l).trans ?_;exact(XR (l₁:=out) (a:=x) (l₂:=l)).symm
theorem JX(l:List α):(Cq cf l).Perm l:=(qs l []).trans (by simp)
theorem ZmT(l:List α):(Cq cf l).length=l.length:=(JX l).length_eq
theorem ZmB(h:CmpLaw cf)(l:List α):(Cq cf l).Pairwise (λx y=>¬cf y x<0):=by
 obtain⟨i,d,f,_⟩:=Up h l 0 [] .nil (λa g=>by cases g);rw[show Cq cf l=i.map (·.1)from d,R4];refine f.imp fun {a b} c=>?_;rcases c with q|⟨q,_⟩
 ·exact λe=>h.ir _ (h.tr _ _ _ q e)
 ·exact q
end
end Go.Eng
namespace Go.Proofs.YtalafnjhcecdpaaGreatDoor
set_option linter.all false
open Go Go.Eng
section
variable {α:Type} [Rw α] [Tid α]
set_option maxRecDepth 20000 in
theorem u4(l:List α)(a b n:Nat)(hl:l.length<=4194304)(ha:a+n<=l.length)(hb:b+n<=l.length):∀(d i:Nat) (v:List α) (N fu:Nat),i+d=n->d<N->d<fu->v.length=l.length->
  ∃i' v',Hj (Rw.z:α) a b n fu i v=.inl (i',v')/\Aj (J3 l (a:Int) (b:Int) (n:Int)) N (i,v)=some (.inl v')
 |0,i,v,N,fu,hi,hN,hf,hv=>by
  obtain⟨N,rfl⟩:∃m,N=m+1:=⟨N-1,ae⟩;obtain⟨fu,rfl⟩:∃m,fu=m+1:=⟨fu-1,ae⟩;have e:i=n:=ae
  subst e;refine⟨i,v,by rw[Hj];simp,?_⟩;rw[Aj];simp[J3,br,vz,vs,ln,Af,wa,wi,AG,ca,st,Ca,fl,br,AG]
 |d+1,i,v,N,fu,hi,hN,hf,hv=>by
  obtain⟨N,rfl⟩:∃m,N=m+1:=⟨N-1,ae⟩;obtain⟨fu,rfl⟩:∃m,fu=m+1:=⟨fu-1,ae⟩;obtain⟨i',v',h1,h2⟩:=u4 l a b n hl ha hb d (i+1) ((v.set (a+i) (v.getD (b+i) Rw.z)).set (b+i) (v.getD (a+i) Rw.z)) N fu ae ae ae (by simp[hv]);have g1:i<n:=ae
  have g2:i+1<9223372036854775808:=ae
  have ea:((a:Int)+(i:Int))=((a+i:Nat):Int):=ae
  have eb:((b:Int)+(i:Int))=((b+i:Nat):Int):=ae
  have wa1: -9223372036854775808<=((a+i:Nat):Int)/\((a+i:Nat):Int)<9223372036854775808:=ae
  have wb1: -9223372036854775808<=((b+i:Nat):Int)/\((b+i:Nat):Int)<9223372036854775808:=ae
  have ra1:(0:Int)<=((a+i:Nat):Int)/\((a+i:Nat):Int)<(l.length:Int):=ae
  have rb1:(0:Int)<=((b+i:Nat):Int)/\((b+i:Nat):Int)<(l.length:Int):=ae
  have ja:a+i<v.length:=ae
  have jb:b+i<v.length:=ae
  have va:v[a+i]?=some (v.getD (a+i) Rw.z):=by rw[Yg,Yd ja];rfl
  have vb:v[b+i]?=some (v.getD (b+i) Rw.z):=by rw[Yg,Yd jb];rfl
  refine⟨i',v',by rw[Hj,Yq ae,cond_true];exact h1,?_⟩;have hB:J3 l (a:Int) (b:Int) (n:Int) (i,v)=some (.nx (i+1,(v.set (a+i) (v.getD (b+i) Rw.z)).set (b+i) (v.getD (a+i) Rw.z))):=by dsimp only[J3,br,vz,vs,ln,Af,wa,wi,AG,ca,st,Ca,fl,br,AG];grind
  rw[Aj,hB];exact h2
theorem aU(l:List α)(a b n:Nat)(cmp:α->α->Int)(hl:l.length<=4194304)(e:a+n<=l.length)(f:b+n<=l.length):If l (a:Int) (b:Int) (n:Int)=some (Dm Rw.z l a b n cmp):=by obtain⟨g,h,c,d⟩:=u4 l a b n hl e f n 0 l Ah (n+1) ae (AM ae) ae rfl;unfold If Dm;rw[OQ,c];simp only[If,Qs,vz,lr,lc,fl,d,Ya];rfl
end
section
variable {α:Type} [Rw α] [Tid α]
theorem gq(l:List α)(m:Nat)(cmp:α->α->Int)(hl:l.length<=4194304):∀(d i j:Nat) (v:List α) (N b:Nat),i+j<=d->d<N->i+j<b->0<i->0<j->i<=m->m+j<=l.length->v.length=l.length->
  ∃c h e,FO (Rw.z:α) m cmp b i j v=.inl (c,h,e)/\Aj (GK l (m:Int)) N ((i:Int),(j:Int),v)=some (.inl ((c:Int),e))/\c<=m/\m+c<=l.length/\e.length=l.length
 |0,i,j,v,N,b,w,hN,x,r,s,hi,n,k=>ae
 |d+1,i,j,v,N,b,w,hN,x,r,s,hi,n,k=>by
  obtain⟨N,rfl⟩:∃m,N=m+1:=⟨N-1,ae⟩;obtain⟨b,rfl⟩:∃m,b=m+1:=⟨b-1,ae⟩;by_cases he:i=j
  ·subst he;refine⟨i,i,v,by rw[FO];simp,?_,hi,n,k⟩;rw[Aj];have f:GK l (m:Int) ((i:Int),(i:Int),v)=some (.ex ((i:Int),v)):=(by dsimp only[GK,br,vz,vs,v2,ln,Af,lc,wi,fl,br];simp);rw[f]
  ·have g:¬(i:Int)=(j:Int):=ae;by_cases y:j<i
   ·have a:(j:Int)<(i:Int):=ae;have t:(m:Int)-(i:Int)=((m-i:Nat):Int):=ae;have A: -9223372036854775808<=((m-i:Nat):Int)/\((m-i:Nat):Int)<9223372036854775808:=ae;have w2: -9223372036854775808<=((i-j:Nat):Int)/\((i-j:Nat):Int)<9223372036854775808:=ae;have u:(i:Int)-(j:Int)=((i-j:Nat):Int):=ae;have hs:=aU v (m-i) m j cmp ae ae ae;obtain⟨s1,_,_⟩:=QO (z:=(Rw.z:α)) v (m-i) m j cmp ae ae;obtain⟨c,h,e,o,p,q⟩:=gq l m cmp hl d (i-j) j (Dm Rw.z v (m-i) m j cmp) N b ae ae ae ae s ae n (by rw[s1];exact k);refine⟨c,h,e,by rw[FO];simp only[g,a,Yx,Yo,YQ,cond_true];exact o,?_,q⟩;have f:GK l (m:Int) ((i:Int),(j:Int),v)=some (.nx (((i-j:Nat):Int),(j:Int),Dm Rw.z v (m-i) m j cmp)):=(by dsimp only[GK,br,vz,vs,v2,ln,Af,lc,wi,fl,br];grind);rw[Aj,f];exact p
   ·have a:¬(j:Int)<(i:Int):=ae;have t:(m:Int)-(i:Int)=((m-i:Nat):Int):=ae;have u:(j:Int)-(i:Int)=((j-i:Nat):Int):=ae;have B:(m:Int)+(j:Int)=((m+j:Nat):Int):=ae;have C:((m+j:Nat):Int)-(i:Int)=((m+j-i:Nat):Int):=ae;have A: -9223372036854775808<=((m-i:Nat):Int)/\((m-i:Nat):Int)<9223372036854775808:=ae;have w2: -9223372036854775808<=((j-i:Nat):Int)/\((j-i:Nat):Int)<9223372036854775808:=ae;have D: -9223372036854775808<=((m+j:Nat):Int)/\((m+j:Nat):Int)<9223372036854775808:=ae;have E: -9223372036854775808<=((m+j-i:Nat):Int)/\((m+j-i:Nat):Int)<9223372036854775808:=ae;have hs:=aU v (m-i) (m+j-i) i cmp ae ae ae;obtain⟨s1,_,_⟩:=QO (z:=(Rw.z:α)) v (m-i) (m+j-i) i cmp ae ae;obtain⟨c,h,e,o,p,q⟩:=gq l m cmp hl d i (j-i) (Dm Rw.z v (m-i) (m+j-i) i cmp) N b ae ae ae r ae hi ae (by rw[s1];exact k);refine⟨c,h,e,by rw[FO];simp only[g,a,Yx,YQ,cond_true,cond_false];exact o,?_,q⟩;have f:GK l (m:Int) ((i:Int),(j:Int),v)=some (.nx ((i:Int),((j-i:Nat):Int),Dm Rw.z v (m-i) (m+j-i) i cmp)):=(by dsimp only[GK,br,vz,vs,v2,ln,Af,lc,wi,fl,br];grind);rw[Aj,f];exact p
theorem TD(l:List α)(a m b:Nat)(cmp:α->α->Int)(hl:l.length<=4194304)(i:a<m)(j:m<b)(k:b<=l.length):Ln l (a:Int) (m:Int) (b:Int)=some (Cf Rw.z l a m b cmp):=by
 obtain⟨c,n,e,d,o,p,q,r⟩:=gq l m cmp hl ((m-a)+(b-m)) (m-a) (b-m) l Ah ((m-a)+(b-m)+1) (Yf _) (AM ae) ae ae ae ae ae rfl;have f:(m:Int)-(a:Int)=((m-a:Nat):Int):=ae
 have g:(b:Int)-(m:Int)=((b-m:Nat):Int):=ae
 have h:(m:Int)-(c:Int)=((m-c:Nat):Int):=ae
 have s: -9223372036854775808<=((m-a:Nat):Int)/\((m-a:Nat):Int)<9223372036854775808:=ae
 have w2: -9223372036854775808<=((b-m:Nat):Int)/\((b-m:Nat):Int)<9223372036854775808:=ae
 have t: -9223372036854775808<=((m-c:Nat):Int)/\((m-c:Nat):Int)<9223372036854775808:=ae
 have hs:=aU e (m-c) m c cmp ae ae ae;unfold Ln Cf;rw[d];dsimp only[Ln,Qt,vz,vs,lr,lc,wi,fl];grind
end
end Go.Proofs.YtalafnjhcecdpaaGreatDoor
