import Derived.Test.YtalafnjhcecdpaaGreatDoorZc09
import Derived.Test.YtalafnjhcecdpaaGreatDoorZc20
import Derived.Test.YtalafnjhcecdpaaGreatDoorZc00
namespace Go.Eng
set_option linter.all false
def GD{α:Type}(z:α)(a:Nat)(b:Nat)(n:Nat):Nat→Nat→(List α)→(Nat×List α) ⊕ (List α)
 |0,c,d=>.inl (c,d)
 |e+1,c,d=>cond (decide (((c:Nat):Int)<((n:Nat):Int))) (GD z a b n e (c+1) ((d.set (a+c) (d.getD (b+c) z)).set (b+c) (d.getD (a+c) z))) (.inl (c,d))
def C2{α:Type}(z:α)(l:List α)(a:Nat)(b:Nat)(n:Nat)(c:α→α→Int):List α:=Sum.elim (fun a0=>a0.2) (fun v=>v) (GD z a b n (n-0+1) 0 l)
def Ff{α:Type}(z:α)(m:Nat)(cf:α→α→Int):Nat→Nat→Nat→(List α)→(Nat×Nat×List α) ⊕ (List α)
 |0,a,b,c=>.inl (a,b,c)
 |d+1,a,b,c=>cond ((!decide (((a:Nat):Int)=((b:Nat):Int)))) (cond (decide (((b:Nat):Int)<((a:Nat):Int))) (Ff z m cf d (a-b) b (C2 z c (m-a) m b cf)) (Ff z m cf d a (b-a) (C2 z c (m-a) ((m+b)-a) a cf))) (.inl (a,b,c))
def B5{α:Type}(z:α)(l:List α)(a:Nat)(m:Nat)(b:Nat)(cf:α→α→Int):List α:=Sum.elim (fun a0=>(C2 z a0.2.2 (m-a0.1) m a0.1 cf)) (fun v=>v) (Ff z m cf ((m-a)+(b-m)+1) (m-a) (b-m) l)
def EF{α:Type}(z:α)(a:Nat)(cf:α→α→Int):Nat→Nat→(List α)→(Nat×List α) ⊕ (List α)
 |0,c,b=>.inl (c,b)
 |d+1,c,b=>cond ((decide (((a:Nat):Int)<((c:Nat):Int))&&decide ((cf (b.getD c z) (b.getD (c-1) z))<(0:Int)))) (EF z a cf d (c-1) ((b.set c (b.getD (c-1) z)).set (c-1) (b.getD c z))) (.inl (c,b))
def FR{α:Type}(z:α)(a:Nat)(b:Nat)(cf:α→α→Int):Nat→Nat→(List α)→(Nat×List α) ⊕ (List α)
 |0,d,c=>.inl (d,c)
 |e+1,d,c=>cond (decide (((d:Nat):Int)<((b:Nat):Int))) (Sum.elim (fun a1=>FR z a b cf e (d+1) a1.2) (fun v=>.inr v) (EF z a cf (d+1) d c)) (.inl (d,c))
def Dl{α:Type}(z:α)(l:List α)(a:Nat)(b:Nat)(cf:α→α→Int):List α:=Sum.elim (fun a0=>a0.2) (fun v=>v) (FR z a b cf (b-(a+1)+1) (a+1) l)
def ED{α:Type}(z:α)(l:List α)(a:Nat)(cf:α→α→Int):Nat→Nat→Nat→(Nat×Nat) ⊕ (List α)
 |0,b,c=>.inl (b,c)
 |d+1,b,c=>cond (decide (((b:Nat):Int)<((c:Nat):Int))) (cond (decide ((cf (l.getD ((b+c)/2) z) (l.getD a z))<(0:Int))) (ED z l a cf d (((b+c)/2)+1) c) (ED z l a cf d b ((b+c)/2))) (.inl (b,c))
def FT{α:Type}(z:α)(a0:Nat×Nat):Nat→Nat→(List α)→(Nat×List α) ⊕ (List α)
 |0,a,b=>.inl (a,b)
 |c+1,a,b=>cond (decide (((a:Nat):Int)<((a0.1-1:Nat):Int))) (FT z a0 c (a+1) ((b.set a (b.getD (a+1) z)).set (a+1) (b.getD a z))) (.inl (a,b))
def EE{α:Type}(z:α)(l:List α)(m:Nat)(cf:α→α→Int):Nat→Nat→Nat→(Nat×Nat) ⊕ (List α)
 |0,a,b=>.inl (a,b)
 |c+1,a,b=>cond (decide (((a:Nat):Int)<((b:Nat):Int))) (cond ((!(decide ((cf (l.getD m z) (l.getD ((a+b)/2) z))<(0:Int))))) (EE z l m cf c (((a+b)/2)+1) b) (EE z l m cf c a ((a+b)/2))) (.inl (a,b))
def Fg{α:Type}(z:α)(d:Nat×Nat):Nat→Nat→(List α)→(Nat×List α) ⊕ (List α)
 |0,a,b=>.inl (a,b)
 |c+1,a,b=>cond (decide (((d.1:Nat):Int)<((a:Nat):Int))) (Fg z d c (a-1) ((b.set a (b.getD (a-1) z)).set (a-1) (b.getD a z))) (.inl (a,b))
def Fi{α:Type}(z:α)(l:List α)(a:Nat)(m:Nat)(b:Nat)(cf:α→α→Int):Nat→Nat→Nat→(Nat×Nat) ⊕ (List α)
 |0,c,d=>.inl (c,d)
 |e+1,c,d=>cond (decide (((c:Nat):Int)<((d:Nat):Int))) (cond ((!(decide ((cf (l.getD (((((a+b)/2)+m)-1)-((c+d)/2)) z) (l.getD ((c+d)/2) z))<(0:Int))))) (Fi z l a m b cf e (((c+d)/2)+1) d) (Fi z l a m b cf e c ((c+d)/2))) (.inl (c,d))
def Fh{α:Type}(z:α)(l:List α)(a:Nat)(m:Nat)(b:Nat)(cf:α→α→Int):Nat→Nat→Nat→(Nat×Nat) ⊕ (List α)
 |0,c,d=>.inl (c,d)
 |e+1,c,d=>cond (decide (((c:Nat):Int)<((d:Nat):Int))) (cond ((!(decide ((cf (l.getD (((((a+b)/2)+m)-1)-((c+d)/2)) z) (l.getD ((c+d)/2) z))<(0:Int))))) (Fh z l a m b cf e (((c+d)/2)+1) d) (Fh z l a m b cf e c ((c+d)/2))) (.inl (c,d))
def AX{α:Type}(z:α):(Nat)→(List α)→(Nat)→(Nat)→(Nat)→(α→α→Int)→List α
 |0,l,_,_,_,_=>l
 |c+1,l,a,m,b,cf=>cond (decide (((m-a:Nat):Int)=(1:Int))) (Sum.elim (fun a0=>Sum.elim (fun a1=>a1.2) (fun v=>v) (FT z a0 (a0.1-a+1) a l)) (fun v=>v) (ED z l a cf (b-m+1) m b)) (cond (decide (((b-m:Nat):Int)=(1:Int))) (Sum.elim (fun d=>Sum.elim (fun a3=>a3.2) (fun v=>v) (Fg z d (m+1) m l)) (fun v=>v) (EE z l m cf (m-a+1) a m)) (cond (decide ((((a+b)/2:Nat):Int)<((m:Nat):Int))) (Sum.elim (fun a4=>cond ((decide (((a4.1:Nat):Int)<((m:Nat):Int))&&decide (((m:Nat):Int)<(((((a+b)/2)+m)-a4.1:Nat):Int)))) (cond ((decide (((a:Nat):Int)<((a4.1:Nat):Int))&&decide (((a4.1:Nat):Int)<(((a+b)/2:Nat):Int)))) (cond ((decide ((((a+b)/2:Nat):Int)<(((((a+b)/2)+m)-a4.1:Nat):Int))&&decide ((((((a+b)/2)+m)-a4.1:Nat):Int)<((b:Nat):Int)))) ((AX z c (AX z c (B5 z l a4.1 m ((((a+b)/2)+m)-a4.1) cf) a a4.1 ((a+b)/2) cf) ((a+b)/2) ((((a+b)/2)+m)-a4.1) b cf)) ((AX z c (B5 z l a4.1 m ((((a+b)/2)+m)-a4.1) cf) a a4.1 ((a+b)/2) cf))) (cond ((decide ((((a+b)/2:Nat):Int)<(((((a+b)/2)+m)-a4.1:Nat):Int))&&decide ((((((a+b)/2)+m)-a4.1:Nat):Int)<((b:Nat):Int)))) ((AX z c (B5 z l a4.1 m ((((a+b)/2)+m)-a4.1) cf) ((a+b)/2) ((((a+b)/2)+m)-a4.1) b cf)) ((B5 z l a4.1 m ((((a+b)/2)+m)-a4.1) cf)))) (cond ((decide (((a:Nat):Int)<((a4.1:Nat):Int))&&decide (((a4.1:Nat):Int)<(((a+b)/2:Nat):Int)))) (cond ((decide ((((a+b)/2:Nat):Int)<(((((a+b)/2)+m)-a4.1:Nat):Int))&&decide ((((((a+b)/2)+m)-a4.1:Nat):Int)<((b:Nat):Int)))) ((AX z c (AX z c l a a4.1 ((a+b)/2) cf) ((a+b)/2) ((((a+b)/2)+m)-a4.1) b cf)) ((AX z c l a a4.1 ((a+b)/2) cf))) (cond ((decide ((((a+b)/2:Nat):Int)<(((((a+b)/2)+m)-a4.1:Nat):Int))&&decide ((((((a+b)/2)+m)-a4.1:Nat):Int)<((b:Nat):Int)))) ((AX z c l ((a+b)/2) ((((a+b)/2)+m)-a4.1) b cf)) (l)))) (fun v=>v) (Fi z l a m b cf (((a+b)/2)-((((a+b)/2)+m)-b)+1) ((((a+b)/2)+m)-b) ((a+b)/2))) (Sum.elim (fun a5=>cond ((decide (((a5.1:Nat):Int)<((m:Nat):Int))&&decide (((m:Nat):Int)<(((((a+b)/2)+m)-a5.1:Nat):Int)))) (cond ((decide (((a:Nat):Int)<((a5.1:Nat):Int))&&decide (((a5.1:Nat):Int)<(((a+b)/2:Nat):Int)))) (cond ((decide ((((a+b)/2:Nat):Int)<(((((a+b)/2)+m)-a5.1:Nat):Int))&&decide ((((((a+b)/2)+m)-a5.1:Nat):Int)<((b:Nat):Int)))) ((AX z c (AX z c (B5 z l a5.1 m ((((a+b)/2)+m)-a5.1) cf) a a5.1 ((a+b)/2) cf) ((a+b)/2) ((((a+b)/2)+m)-a5.1) b cf)) ((AX z c (B5 z l a5.1 m ((((a+b)/2)+m)-a5.1) cf) a a5.1 ((a+b)/2) cf))) (cond ((decide ((((a+b)/2:Nat):Int)<(((((a+b)/2)+m)-a5.1:Nat):Int))&&decide ((((((a+b)/2)+m)-a5.1:Nat):Int)<((b:Nat):Int)))) ((AX z c (B5 z l a5.1 m ((((a+b)/2)+m)-a5.1) cf) ((a+b)/2) ((((a+b)/2)+m)-a5.1) b cf)) ((B5 z l a5.1 m ((((a+b)/2)+m)-a5.1) cf)))) (cond ((decide (((a:Nat):Int)<((a5.1:Nat):Int))&&decide (((a5.1:Nat):Int)<(((a+b)/2:Nat):Int)))) (cond ((decide ((((a+b)/2:Nat):Int)<(((((a+b)/2)+m)-a5.1:Nat):Int))&&decide ((((((a+b)/2)+m)-a5.1:Nat):Int)<((b:Nat):Int)))) ((AX z c (AX z c l a a5.1 ((a+b)/2) cf) ((a+b)/2) ((((a+b)/2)+m)-a5.1) b cf)) ((AX z c l a a5.1 ((a+b)/2) cf))) (cond ((decide ((((a+b)/2:Nat):Int)<(((((a+b)/2)+m)-a5.1:Nat):Int))&&decide ((((((a+b)/2)+m)-a5.1:Nat):Int)<((b:Nat):Int)))) ((AX z c l ((a+b)/2) ((((a+b)/2)+m)-a5.1) b cf)) (l)))) (fun v=>v) (Fh z l a m b cf (m-a+1) a m))))
def GF{α:Type}(z:α)(n:Nat)(cf:α→α→Int):Nat→Nat→Nat→(List α)→(Nat×Nat×List α) ⊕ (List α)
 |0,c,b,a=>.inl (c,b,a)
 |d+1,c,b,a=>cond (decide (((b:Nat):Int)≤((n:Nat):Int))) (GF z n cf d b (b+20) (Dl z a c b cf)) (.inl (c,b,a))
def GG{α:Type}(z:α)(n:Nat)(cf:α→α→Int)(d:Nat):Nat→Nat→Nat→(List α)→(Nat×Nat×List α) ⊕ (List α)
 |0,c,a,b=>.inl (c,a,b)
 |e+1,c,a,b=>cond (decide (((a:Nat):Int)≤((n:Nat):Int))) (GG z n cf d e a (a+(2*d)) (AX z (a-c+1) b c (c+d) a cf)) (.inl (c,a,b))
def Fe{α:Type}(z:α)(n:Nat)(cf:α→α→Int):Nat→Nat→(List α)→(Nat×List α) ⊕ (List α)
 |0,a,b=>.inl (a,b)
 |d+1,a,b=>cond (decide (((a:Nat):Int)<((n:Nat):Int))) (Sum.elim (fun c=>cond (decide (((c.1+a:Nat):Int)<((n:Nat):Int))) (Fe z n cf d (a*2) (AX z (n-c.1+1) c.2.2 c.1 (c.1+a) n cf)) (Fe z n cf d (a*2) c.2.2)) (fun v=>.inr v) (GG z n cf a (n+1-(2*a)+1) 0 (2*a) b)) (.inl (a,b))
def Ss{α:Type}(z:α)(l:List α)(n:Nat)(cf:α→α→Int):List α:=Sum.elim (fun a0=>Sum.elim (fun a1=>a1.2) (fun v=>v) (Fe z n cf (n-20+1) 20 (Dl z a0.2.2 a0.1 n cf))) (fun v=>v) (GF z n cf (n+1-20+1) 0 20 l)
def FS{α:Type}(z:α)(l:List α)(cf:α→α→Int):List α:=(Ss z l l.length cf)
end Go.Eng
namespace Go.Eng
set_option linter.all false
section
variable {α:Type} {z:α}
theorem aF(v:List α)(i j k:Nat)(hi:i<v.length)(a:j<v.length):((v.set i (v.getD j z)).set j (v.getD i z)).getD k z=if k=j then v.getD i z else if k=i then v.getD j z else v.getD k z:=by
 grind
theorem J4(v:List α)(i j:Nat)(hi:i<v.length)(a:j<v.length):((v.set i (v.getD j z)).set j (v.getD i z)).Perm v:=by
 have e:∀k (h:k<v.length),v.getD k z=v[k]:=fun k h=>by rw[Yj,Ya h,YS]
 rw[e i hi,e j a]
 exact List.set_set_perm hi a
theorem kK(a b n:Nat)(e:a+n≤b):∀(d i:Nat) (v:List α),n-i<d→i≤n→b+n≤v.length→∃f c,GD z a b n d i v=.inl (f,c)∧c.length=v.length∧c.Perm v∧
  ∀k,c.getD k z=if a+i≤k∧k<a+n then v.getD (b+(k-a)) z else if b+i≤k∧k<b+n then v.getD (a+(k-b)) z else v.getD k z
 |0,i,v,g,_,_=>absurd g (Y0 _)
 |d+1,i,v,g,hi,m=>by
  rw[GD]
  by_cases p:i<n
  ·rw[Yo (by omega),cond_true]
   obtain⟨f,c,h,j,o,l⟩:=kK a b n e d (i+1) ((v.set (a+i) (v.getD (b+i) z)).set (b+i) (v.getD (a+i) z)) (by omega) (by omega) (by simpa using m)
   refine⟨f,c,h,by simpa using j,o.trans (J4 v _ _ (by omega) (by omega)),fun k=>?_⟩
   rw[l k]
   simp only[aF v (a+i) (b+i) _ (by omega) (by omega)]
   repeat' split
   all_goals first|rfl|(exfalso;omega)|(congr 1;omega)
  ·rw[Yp (by omega),cond_false]
   refine⟨i,v,rfl,rfl,.refl _,fun k=>?_⟩
   grind
theorem O5(l:List α)(a b n:Nat)(cf:α→α→Int)(c:a+n≤b)(d:b+n≤l.length):(C2 z l a b n cf).length=l.length∧(C2 z l a b n cf).Perm l∧
  ∀k,(C2 z l a b n cf).getD k z=if a≤k∧k<a+n then l.getD (b+(k-a)) z else if b≤k∧k<b+n then l.getD (a+(k-b)) z else l.getD k z:=by
 rw[C2]
 obtain⟨i,j,e,f,h,g⟩:=kK (z:=z) a b n c (n-0+1) 0 l (YN _) (Cn _) d
 grind
theorem Vt(m:Nat)(cf:α→α→Int):∀(d i j:Nat) (v:List α),i+j<d→0<i→0<j→i≤m→m+j≤v.length→∃a e b,Ff z m cf d i j v=.inl (a,e,b)∧
  (C2 z b (m-a) m a cf).length=v.length∧(C2 z b (m-a) m a cf).Perm v∧
  ∀k,(C2 z b (m-a) m a cf).getD k z=if m-i≤k∧k<m+j then(if k<m-i+j then v.getD (k+i) z else v.getD (k-j) z)else v.getD k z
 |0,i,j,v,p,_,_,_,_=>absurd p (Y0 _)
 |d+1,i,j,v,p,q,r,hi,t=>by
  rw[Ff]
  by_cases he:i=j
  ·subst he
   rw[Yo rfl,Y3,cond_false]
   obtain⟨c,f,g⟩:=O5 (z:=z) v (m-i) m i cf (by omega) (by omega)
   refine⟨i,i,v,rfl,c,f,fun k=>?_⟩
   rw[g k]
   repeat' split
   all_goals first|rfl|(exfalso;omega)|(congr 1;omega)
  ·rw[Yp (by omega),Y1,cond_true]
   by_cases s:j<i
   ·rw[Yo (by omega),cond_true]
    obtain⟨c,f,g⟩:=O5 (z:=z) v (m-i) m j cf (by omega) (by omega)
    obtain⟨a,e,b,h,l,n,o⟩:=Vt m cf d (i-j) j _ (by omega) (by omega) r (by omega) (by rw[c];omega)
    refine⟨a,e,b,h,l.trans c,n.trans f,fun k=>?_⟩
    rw[o k]
    simp only[g]
    repeat' split
    all_goals first|rfl|(exfalso;omega)|(congr 1;omega)
   ·rw[Yp (by omega),cond_false]
    obtain⟨c,f,g⟩:=O5 (z:=z) v (m-i) (m+j-i) i cf (by omega) (by omega)
    obtain⟨a,e,b,h,l,n,o⟩:=Vt m cf d i (j-i) _ (by omega) q (by omega) hi (by rw[c];omega)
    refine⟨a,e,b,h,l.trans c,n.trans f,fun k=>?_⟩
    rw[o k]
    simp only[g]
    repeat' split
    all_goals first|rfl|(exfalso;omega)|(congr 1;omega)
theorem OK(l:List α)(a m b:Nat)(cf:α→α→Int)(g:a<m)(h:m<b)(i:b≤l.length):(B5 z l a m b cf).length=l.length∧(B5 z l a m b cf).Perm l∧
  ∀k,(B5 z l a m b cf).getD k z=if a≤k∧k<b then(if k<a+(b-m)then l.getD (k+(m-a)) z else l.getD (k-(b-m)) z)else l.getD k z:=by
 rw[B5]
 obtain⟨j,n,o,c,d,e,f⟩:=Vt (z:=z) m cf (m-a+(b-m)+1) (m-a) (b-m) l (YN _) (by omega) (by omega) (by omega) (by omega)
 grind
end
section
variable {α:Type} {z:α} {lt:α→α→Prop}
def BR(lt:α→α→Prop)(z:α)(v:List α)(a b:Nat):Prop:=∀i j,a≤i→i<j→j<b→lt (v.getD i z) (v.getD j z)
def GM(lt:α→α→Prop)(z:α)(cf:α→α→Int)(v:List α)(a m b:Nat):Prop:=∀p q,a≤p→p<m→m≤q→q<b→
 (cf (v.getD q z) (v.getD p z)<0→lt (v.getD q z) (v.getD p z))∧(¬cf (v.getD q z) (v.getD p z)<0→lt (v.getD p z) (v.getD q z))
structure Res (lt:α→α→Prop) (z:α) (v r:List α) (a b:Nat):Prop where
 len:r.length=v.length
 perm:r.Perm v
 out:∀k,k<a∨b≤k→r.getD k z=v.getD k z
 inn:∀k,a≤k→k<b→∃k',a≤k'∧k'<b∧r.getD k z=v.getD k' z
 srt:BR lt z r a b
theorem Res.same{v:List α}{a b:Nat}(h:BR lt z v a b):Res lt z v v a b:=⟨rfl,.refl _,fun _ _=>rfl,fun k c d=>⟨k,c,d,rfl⟩,h⟩
theorem cH(d:∀x y w,lt x y→lt y w→lt x w){l:List α}{a m b:Nat}{cf:α→α→Int}(e:a<m)(hs:BR lt z l m b)(g:GM lt z cf l a m b):∀(f i j:Nat),j-i<f→m≤i→i≤j→j≤b→
  (∀q,m≤q→q<i→lt (l.getD q z) (l.getD a z))→(∀q,j≤q→q<b→lt (l.getD a z) (l.getD q z))→
  ∃r,ED z l a cf f i j=.inl r∧m≤r.1∧r.1≤b∧(∀q,m≤q→q<r.1→lt (l.getD q z) (l.getD a z))∧(∀q,r.1≤q→q<b→lt (l.getD a z) (l.getD q z))
 |0,i,j,h,_,_,_,_,_=>absurd h (Y0 _)
 |f+1,i,j,h,s,C,t,u,v=>by
  rw[ED]
  by_cases A:i<j
  ·rw[Yo (by omega),cond_true]
   obtain⟨o,p⟩:=g a ((i+j)/2) (Ye _) e (by omega) (by omega)
   by_cases c:cf (l.getD ((i+j)/2) z) (l.getD a z)<0
   ·rw[Yo c,cond_true]
    refine cH d e hs g f _ _ (by omega) (by omega) (by omega) t (fun q k n=>?_) v
    by_cases B:q=(i+j)/2
    ·grind
    ·exact d _ _ _ (hs q ((i+j)/2) k (by omega) (by omega)) (o c)
   ·rw[Yp c,cond_false]
    refine cH d e hs g f _ _ (by omega) s (by omega) (by omega) u (fun q k n=>?_)
    by_cases B:q=(i+j)/2
    ·grind
    ·exact d _ _ _ (p c) (hs ((i+j)/2) q (by omega) (by omega) n)
  ·rw[Yp (by omega),cond_false]
   grind
theorem qS(a0:Nat×Nat):∀(a k:Nat) (v:List α),a0.1-k<a→k+1≤a0.1→a0.1≤v.length→∃r,FT z a0 a k v=.inl r∧r.2.length=v.length∧r.2.Perm v∧
  ∀q,r.2.getD q z=if k≤q∧q<a0.1-1 then v.getD (q+1) z else if q=a0.1-1 then v.getD k z else v.getD q z
 |0,k,v,b,_,_=>absurd b (Y0 _)
 |a+1,k,v,b,h,g=>by
  rw[FT]
  by_cases i:k<a0.1-1
  ·rw[Yo (by omega),cond_true]
   obtain⟨r,c,d,e,f⟩:=qS a0 a (k+1) ((v.set k (v.getD (k+1) z)).set (k+1) (v.getD k z)) (by omega) (by omega) (by simpa using g)
   refine⟨r,c,by simpa using d,e.trans (J4 v _ _ (by omega) (by omega)),fun q=>?_⟩
   rw[f q]
   simp only[aF v k (k+1) _ (by omega) (by omega)]
   grind
  ·rw[Yp (by omega),cond_false]
   refine⟨(k,v),rfl,rfl,.refl _,fun q=>?_⟩
   grind
theorem cI(d:∀x y w,lt x y→lt y w→lt x w){l:List α}{a m b:Nat}{cf:α→α→Int}(e:m<b)(hs:BR lt z l a m)(g:GM lt z cf l a m b):∀(f i j:Nat),j-i<f→a≤i→i≤j→j≤m→
  (∀q,a≤q→q<i→lt (l.getD q z) (l.getD m z))→(∀q,j≤q→q<m→lt (l.getD m z) (l.getD q z))→
  ∃r,EE z l m cf f i j=.inl r∧a≤r.1∧r.1≤m∧(∀q,a≤q→q<r.1→lt (l.getD q z) (l.getD m z))∧(∀q,r.1≤q→q<m→lt (l.getD m z) (l.getD q z))
 |0,i,j,h,_,_,_,_,_=>absurd h (Y0 _)
 |f+1,i,j,h,s,C,t,u,v=>by
  rw[EE]
  by_cases A:i<j
  ·rw[Yo (by omega),cond_true]
   obtain⟨o,p⟩:=g ((i+j)/2) m (by omega) (by omega) (Ye _) e
   by_cases c:cf (l.getD m z) (l.getD ((i+j)/2) z)<0
   ·rw[Yo c,Y3,cond_false]
    refine cI d e hs g f _ _ (by omega) s (by omega) (by omega) u (fun q k n=>?_)
    by_cases B:q=(i+j)/2
    ·grind
    ·exact d _ _ _ (o c) (hs ((i+j)/2) q (by omega) (by omega) n)
   ·rw[Yp c,Y1,cond_true]
    refine cI d e hs g f _ _ (by omega) (by omega) (by omega) t (fun q k n=>?_) v
    by_cases B:q=(i+j)/2
    ·grind
    ·exact d _ _ _ (hs q ((i+j)/2) k (by omega) (by omega)) (p c)
  ·rw[Yp (by omega),cond_false]
   grind
theorem qT(a:Nat×Nat):∀(b k:Nat) (v:List α),k<b→a.1≤k→k<v.length→∃r,Fg z a b k v=.inl r∧r.2.length=v.length∧r.2.Perm v∧
  ∀q,r.2.getD q z=if a.1<q∧q≤k then v.getD (q-1) z else if q=a.1 then v.getD k z else v.getD q z
 |0,k,v,c,_,_=>absurd c (Y0 _)
 |b+1,k,v,c,h,i=>by
  rw[Fg]
  by_cases j:a.1<k
  ·rw[Yo (by omega),cond_true]
   obtain⟨r,d,e,f,g⟩:=qT a b (k-1) ((v.set k (v.getD (k-1) z)).set (k-1) (v.getD k z)) (by omega) (by omega) (by simp;omega)
   refine⟨r,d,by simpa using e,f.trans (J4 v _ _ (by omega) (by omega)),fun q=>?_⟩
   grind
  ·rw[Yp (by omega),cond_false]
   refine⟨(k,v),rfl,rfl,.refl _,fun q=>?_⟩
   grind
end
section
variable {α:Type} {z:α} {lt:α→α→Prop}
theorem Um(d:∀x y w,lt x y→lt y w→lt x w){l:List α}{a m b lo hi p:Nat}{cf:α→α→Int}(hs:BR lt z l a m)(f:BR lt z l m b)(s:GM lt z cf l a m b)
  (h:a≤lo) (g:hi≤m) (k:m+hi≤p+1) (n:p<b+lo) (L:Nat→Nat→Nat→(Nat×Nat) ⊕ (List α)) (o:∀e i j,L (e+1) i j=cond (decide (((i:Nat):Int)<((j:Nat):Int)))
   (cond (!decide (cf (l.getD (p-(i+j)/2) z) (l.getD ((i+j)/2) z)<(0:Int))) (L e ((i+j)/2+1) j) (L e i ((i+j)/2))) (.inl (i,j))):
  ∀(e i j:Nat),j-i<e→lo≤i→i≤j→j≤hi→
  (∀q,lo≤q→q<i→lt (l.getD q z) (l.getD (p-q) z))→(∀q,j≤q→q<hi→lt (l.getD (p-q) z) (l.getD q z))→
  ∃r,L e i j=.inl r∧lo≤r.1∧r.1≤hi∧(∀q,lo≤q→q<r.1→lt (l.getD q z) (l.getD (p-q) z))∧(∀q,r.1≤q→q<hi→lt (l.getD (p-q) z) (l.getD q z))
 |0,i,j,F,_,_,_,_,_=>absurd F (Y0 _)
 |e+1,i,j,F,C,I,G,D,E=>by
  rw[o]
  by_cases H:i<j
  ·rw[Yo (by omega),cond_true]
   obtain⟨A,B⟩:=s ((i+j)/2) (p-(i+j)/2) (by omega) (by omega) (by omega) (by omega)
   by_cases c:cf (l.getD (p-(i+j)/2) z) (l.getD ((i+j)/2) z)<0
   ·rw[Yo c,Y3,cond_false]
    refine Um d hs f s h g k n L o e _ _ (by omega) C (by omega) (by omega) D (fun q u v=>?_)
    by_cases t:q=(i+j)/2
    ·rw[t];exact A c
    ·exact d _ _ _ (f (p-q) (p-(i+j)/2) (by omega) (by omega) (by omega)) (d _ _ _ (A c) (hs ((i+j)/2) q (by omega) (by omega) (by omega)))
   ·rw[Yp c,Y1,cond_true]
    refine Um d hs f s h g k n L o e _ _ (by omega) (by omega) (by omega) G (fun q u v=>?_) E
    by_cases t:q=(i+j)/2
    ·rw[t];exact B c
    ·exact d _ _ _ (hs q ((i+j)/2) (by omega) (by omega) (by omega)) (d _ _ _ (B c) (f (p-(i+j)/2) (p-q) (by omega) (by omega) (by omega)))
  ·rw[Yp (by omega),cond_false]
   exact⟨(i,j),rfl,C,by show i≤hi;omega,D,fun q u v=>E q (by have:i≤q:=u;omega) v⟩
theorem ZtS(d:∀x y w,lt x y→lt y w→lt x w){l:List α}{a m b:Nat}{cf:α→α→Int}(n:a+1=m)(p:m<b)(v:b≤l.length)(hs:BR lt z l m b)(o:GM lt z cf l a m b):
  ∃r,ED z l a cf (b-m+1) m b=.inl r∧∃c,FT z r (r.1-a+1) a l=.inl c∧Res lt z l c.2 a b:=by
 obtain⟨r,f,t,u,g,h⟩:=cH d (by omega) hs o (b-m+1) m b (by omega) (Ye _) (by omega) (Ye _) (fun q s e=>absurd e (by omega)) (fun q s e=>absurd e (by omega))
 obtain⟨c,f1,f2,f3,f4⟩:=qS (z:=z) r (r.1-a+1) a l (YN _) (by omega) (by omega)
 refine⟨r,f,c,f1,f2,f3,fun k A=>?_,fun k E F=>?_,fun i j B C D=>?_⟩
 ·grind
 ·grind
 ·rw[f4 i,f4 j]
  repeat' split
  all_goals first|(exfalso;omega)|exact g _ (by omega) (by omega)|exact h _ (by omega) (by omega)|exact hs _ _ (by omega) (by omega) (by omega)|skip
theorem zS(d:∀x y w,lt x y→lt y w→lt x w){l:List α}{a m b:Nat}{cf:α→α→Int}(n:a<m)(p:m+1=b)(v:b≤l.length)(hs:BR lt z l a m)(o:GM lt z cf l a m b):
  ∃r,EE z l m cf (m-a+1) a m=.inl r∧∃c,Fg z r (m+1) m l=.inl c∧Res lt z l c.2 a b:=by
 obtain⟨r,f,t,u,g,h⟩:=cI d (by omega) hs o (m-a+1) a m (by omega) (Ye _) (by omega) (Ye _) (fun q s e=>absurd e (by omega)) (fun q s e=>absurd e (by omega))
 obtain⟨c,f1,f2,f3,f4⟩:=qT (z:=z) r (m+1) m l (YN _) (by omega) (by omega)
 refine⟨r,f,c,f1,f2,f3,fun k A=>?_,fun k E F=>?_,fun i j B C D=>?_⟩
 ·grind
 ·grind
 ·rw[f4 i,f4 j]
  repeat' split
  all_goals first|(exfalso;omega)|exact g _ (by omega) (by omega)|exact h _ (by omega) (by omega)|exact hs _ _ (by omega) (by omega) (by omega)|skip
end
section
variable {α:Type} {z:α} {lt:α→α→Prop}
def Fp(z:α)(c:Nat)(l:List α)(a m b:Nat)(cf:α→α→Int)(s:Nat):List α:=
 let d:=cond (decide (((s:Nat):Int)<((m:Nat):Int))&&decide (((m:Nat):Int)<(((((a+b)/2)+m)-s:Nat):Int))) (B5 z l s m ((((a+b)/2)+m)-s) cf) l
 let e:=cond (decide (((a:Nat):Int)<((s:Nat):Int))&&decide (((s:Nat):Int)<(((a+b)/2:Nat):Int))) (AX z c d a s ((a+b)/2) cf) d
 cond (decide ((((a+b)/2:Nat):Int)<(((((a+b)/2)+m)-s:Nat):Int))&&decide ((((((a+b)/2)+m)-s:Nat):Int)<((b:Nat):Int))) (AX z c e ((a+b)/2) ((((a+b)/2)+m)-s) b cf) e
theorem DT{x y u w:Nat}(h:x<y∧u<w):(decide (((x:Nat):Int)<((y:Nat):Int))&&decide (((u:Nat):Int)<((w:Nat):Int)))=true:=by simp;omega
theorem DR{x y u w:Nat}(h:¬(x<y∧u<w)):(decide (((x:Nat):Int)<((y:Nat):Int))&&decide (((u:Nat):Int)<((w:Nat):Int)))=false:=by
 grind
theorem Ztb{A:Nat}{cf:α→α→Int}(Q:∀(l:List α) (a m b:Nat),b-a<A→a<m→m<b→b≤l.length→BR lt z l a m→BR lt z l m b→GM lt z cf l a m b→Res lt z l (AX z A l a m b cf) a b)
  (l:List α) (a m b s c e:Nat) (D:c=(a+b)/2) (he:e=(a+b)/2+m-s) (hf:b-a<A+1) (h1:a<m) (h2:m<b) (h3:b≤l.length) (hs:BR lt z l a m) (w:BR lt z l m b) (O:GM lt z cf l a m b)
  (s1:a≤s) (s2:s≤m) (e1:m≤e) (e2:e≤b) (hA:∀x y,a≤x→x<s→e≤y→y<b→lt (l.getD x z) (l.getD y z)) (hB:∀x y,s≤x→x<m→m≤y→y<e→lt (l.getD y z) (l.getD x z)) (h4:2≤b-a):
  Res lt z l (Fp z A l a m b cf s) a b:=by
 unfold Fp
 dsimp only
 rw[←D]at he⊢
 rw[←he]
 have hmb:c<b:=by omega
 have ham:a<c:=by omega
 have F:∃g,cond (decide (((s:Nat):Int)<((m:Nat):Int))&&decide (((m:Nat):Int)<((e:Nat):Int))) (B5 z l s m e cf) l=g∧g.length=l.length∧g.Perm l∧
   ∀k,g.getD k z=if s≤k∧k<c then l.getD (k+(m-s)) z else if c≤k∧k<e then l.getD (k-(e-m)) z else l.getD k z:=by
  by_cases d:s<m∧m<e
  ·rw[DT d,cond_true]
   obtain⟨I,J,E⟩:=OK (z:=z) l s m e cf d.1 d.2 (by omega)
   grind
  ·rw[DR d,cond_false]
   refine⟨l,rfl,rfl,.refl _,fun k=>?_⟩
   grind
 obtain⟨g,X,T,U,F⟩:=F
 rw[X]
 have K:BR lt z g a s:=fun i j o n t=>by
  rw[F i,F j,Yi (by omega),Yi (by omega),Yi (by omega),Yi (by omega)]
  exact hs _ _ (by omega) n (by omega)
 have L:BR lt z g s c:=fun i j o n t=>by
  rw[F i,F j,Yk (by omega),Yk (by omega)]
  exact w _ _ (by omega) (by omega) (by omega)
 have V:BR lt z g c e:=fun i j o n t=>by
  rw[F i,F j,Yi (by omega),Yk (by omega),Yi (by omega),Yk (by omega)]
  exact hs _ _ (by omega) (by omega) (by omega)
 have W:BR lt z g e b:=fun i j o n t=>by
  rw[F i,F j,Yi (by omega),Yi (by omega),Yi (by omega),Yi (by omega)]
  exact w _ _ (by omega) n (by omega)
 have f:∃r,cond (decide (((a:Nat):Int)<((s:Nat):Int))&&decide (((s:Nat):Int)<((c:Nat):Int))) (AX z A g a s c cf) g=r∧Res lt z g r a c:=by
  by_cases d:a<s∧s<c
  ·rw[DT d,cond_true]
   refine⟨_,rfl,Q g a s c (by omega) d.1 d.2 (by omega) K L fun p q H p2 p3 S=>?_⟩
   rw[F p,F q,Yk (by omega),Yi (by omega),Yi (by omega)]
   exact O p (q+(m-s)) H (by omega) (by omega) (by omega)
  ·rw[DR d,cond_false]
   refine⟨g,rfl,.same ?_⟩
   by_cases ha:a<s
   ·have:s=c:=by omega
    rw[←this];exact K
   ·have:s=a:=by omega
    rw[←this];exact L
 obtain⟨r,Y,f⟩:=f
 rw[Y]
 have h:∃G,cond (decide (((c:Nat):Int)<((e:Nat):Int))&&decide (((e:Nat):Int)<((b:Nat):Int))) (AX z A r c e b cf) r=G∧Res lt z r G c b:=by
  have M:BR lt z r c e:=fun i j o n t=>by
   rw[f.out i (.inr o),f.out j (.inr (by omega))];exact V i j o n t
  have N:BR lt z r e b:=fun i j o n t=>by
   rw[f.out i (.inr (by omega)),f.out j (.inr (by omega))];exact W i j o n t
  by_cases d:c<e∧e<b
  ·rw[DT d,cond_true]
   refine⟨_,rfl,Q r c e b (by omega) d.1 d.2 (by rw[f.len];omega) M N fun p q H p2 p3 S=>?_⟩
   rw[f.out p (.inr H),f.out q (.inr (by omega)),F p,F q,Yi (by omega),Yi (by omega),Yi (by omega),Yk (by omega)]
   exact O (p-(e-m)) q (by omega) (by omega) (by omega) S
  ·rw[DR d,cond_false]
   refine⟨r,rfl,.same ?_⟩
   by_cases hm:c<e
   ·have:e=b:=by omega
    rw[←this];exact M
   ·have:e=c:=by omega
    rw[←this];exact N
 obtain⟨G,Z,h⟩:=h
 rw[Z]
 have u:∀k,a≤k→k<b→∃k',a≤k'∧k'<b∧g.getD k z=l.getD k' z:=fun k B C=>by
  rw[F k]
  repeat' split
  ·exact⟨_,by omega,by omega,rfl⟩
  ·exact⟨_,by omega,by omega,rfl⟩
  ·exact⟨_,by omega,by omega,rfl⟩
 have v:∀k,a≤k→k<b→∃k',a≤k'∧k'<b∧r.getD k z=l.getD k' z:=fun k B C=>by
  by_cases d:k<c
  ·obtain⟨k',I,J,E⟩:=f.inn k B d
   rw[E];exact u k' I (by omega)
  ·rw[f.out k (.inr (by omega))];exact u k B C
 refine⟨h.len.trans (f.len.trans T),h.perm.trans (f.perm.trans U),fun k d=>?_,fun k B C=>?_,fun i j o n t=>?_⟩
 ·rw[h.out k (by omega),f.out k (by omega),F k]
  repeat' split
  all_goals first|rfl|(exfalso;omega)
 ·by_cases d:k<c
  ·rw[h.out k (.inl d)];exact v k B C
  ·obtain⟨k',I,J,E⟩:=h.inn k (by omega) C
   rw[E];exact v k' (by omega) J
 ·by_cases P:j<c
  ·rw[h.out i (.inl (by omega)),h.out j (.inl P)];exact f.srt i j o n P
  ·by_cases hi:c≤i
   ·exact h.srt i j hi n t
   ·rw[h.out i (.inl (by omega))]
    obtain⟨R,j1,j2,j3⟩:=h.inn j (by omega) t
    obtain⟨i',B,C,k3⟩:=f.inn i o (by omega)
    rw[j3,k3,f.out R (.inr j1),F i',F R]
    repeat' split
    all_goals first|(exfalso;omega)|exact hB _ _ (by omega) (by omega) (by omega) (by omega)|exact hA _ _ (by omega) (by omega) (by omega) (by omega)|exact hs _ _ (by omega) (by omega) (by omega)|exact w _ _ (by omega) (by omega) (by omega)
end
section
variable {α:Type} {z:α} {lt:α→α→Prop}
theorem bd(b:∀x y w,lt x y→lt y w→lt x w){l:List α}{a m x p:Nat}{w:α}(hs:BR lt z l a m)(h:lt (l.getD p z) w)(c:a≤x)(f:x≤p)(d:p<m):lt (l.getD x z) w:=by
 by_cases e:x=p
 ·grind
 ·exact b _ _ _ (hs x p c (by omega) d) h
theorem qj(a:∀x y w,lt x y→lt y w→lt x w){l:List α}{m b y p:Nat}{w:α}(hs:BR lt z l m b)(h:lt w (l.getD p z))(c:m≤p)(f:p≤y)(d:y<b):lt w (l.getD y z):=by
 by_cases e:y=p
 ·grind
 ·exact a _ _ _ h (hs p y c (by omega) d)
theorem mO(c:∀x y w,lt x y→lt y w→lt x w){e:Nat}{cf:α→α→Int}(t:∀(l:List α) (a m b:Nat),b-a<e→a<m→m<b→b≤l.length→BR lt z l a m→BR lt z l m b→GM lt z cf l a m b→Res lt z l (AX z e l a m b cf) a b)
  (l:List α) (a m b:Nat) (o:b-a<e+1) (h:a<m) (i:m<b) (j:b≤l.length) (hs:BR lt z l a m) (d:BR lt z l m b) (n:GM lt z cf l a m b) (k:2≤b-a)
  (lo hi s:Nat) (r:a≤lo) (p:hi≤m) (hm:hi≤(a+b)/2) (A:(a+b)/2+m≤b+lo) (B:lo=a∨lo+b=(a+b)/2+m) (C:hi=m∨hi=(a+b)/2) (s1:lo≤s) (s2:s≤hi)
  (u:∀q,lo≤q→q<s→lt (l.getD q z) (l.getD ((a+b)/2+m-1-q) z)) (v:∀q,s≤q→q<hi→lt (l.getD ((a+b)/2+m-1-q) z) (l.getD q z)):
  Res lt z l (Fp z e l a m b cf s) a b:=by
 refine Ztb t l a m b s ((a+b)/2) ((a+b)/2+m-s) rfl rfl o h i j hs d n (by omega) (by omega) (by omega) (by omega) (fun x y a1 f a3 a4=>?_) (fun x y a1 f a3 a4=>?_) k
 ·have g:lo<s:=by omega
  have:=u (s-1) (by omega) (by omega)
  exact bd c hs (qj c d this (by omega) (by omega) a4) a1 (by omega) (by omega)
 ·have g:s<hi:=by omega
  have:=v s (Ye _) g
  exact bd c d (qj c hs this (by omega) a1 f) a3 (by omega) (by omega)
theorem bY(c:∀x y w,lt x y→lt y w→lt x w)(cf:α→α→Int):∀(f:Nat) (l:List α) (a m b:Nat),b-a<f→a<m→m<b→b≤l.length→BR lt z l a m→BR lt z l m b→GM lt z cf l a m b→Res lt z l (AX z f l a m b cf) a b
 |0,l,a,m,b,t,_,_,_,_,_,_=>absurd t (Y0 _)
 |f+1,l,a,m,b,t,C,D,o,hs,d,k=>by
  have tl:∀s,Res lt z l (Fp z f l a m b cf s) a b→∀X,Fp z f l a m b cf s=X→Res lt z l X a b:=fun s h X e=>e▸h
  rw[AX]
  by_cases G:m-a=1
  ·rw[Yo (by omega),cond_true]
   obtain⟨r,n,F,f1,R⟩:=ZtS c (cf:=cf) (by omega) D o d k
   grind
  ·rw[Yp (by omega),cond_false]
   by_cases H:b-m=1
   ·rw[Yo (by omega),cond_true]
    obtain⟨r,n,F,f1,R⟩:=zS c (cf:=cf) C (by omega) o hs k
    grind
   ·rw[Yp (by omega),cond_false]
    by_cases I:(a+b)/2<m
    ·rw[Yo (by omega),cond_true]
     obtain⟨r,n,u,v,A,B⟩:=Um c hs d k (lo:=(a+b)/2+m-b) (hi:=(a+b)/2) (p:=(a+b)/2+m-1) (by omega) (by omega) (by omega) (by omega) (Fi z l a m b cf) (fun f i j=>by rw[Fi])
      ((a+b)/2-((a+b)/2+m-b)+1) ((a+b)/2+m-b) ((a+b)/2) (YN _) (Ye _) (by omega) (Ye _) (fun q E g=>absurd g (by omega)) (fun q E g=>absurd g (by omega))
     rw[n,D9]
     refine tl r.1 (mO c (bY c cf f) l a m b t C D o hs d k (by omega) ((a+b)/2+m-b) ((a+b)/2) r.1 (by omega) (by omega) (by omega) (by omega) (.inr (by omega)) (.inr rfl) u v A B) _ ?_
     unfold Fp
     grind
    ·rw[Yp (by omega),cond_false]
     obtain⟨r,n,u,v,A,B⟩:=Um c hs d k (lo:=a) (hi:=m) (p:=(a+b)/2+m-1) (by omega) (by omega) (by omega) (by omega) (Fh z l a m b cf) (fun f i j=>by rw[Fh])
      (m-a+1) a m (YN _) (Ye _) (by omega) (Ye _) (fun q E g=>absurd g (by omega)) (fun q E g=>absurd g (by omega))
     rw[n,D9]
     refine tl r.1 (mO c (bY c cf f) l a m b t C D o hs d k (by omega) a m r.1 (by omega) (by omega) (by omega) (by omega) (.inl rfl) (.inl rfl) u v A B) _ ?_
     unfold Fp
     grind
end
section
variable {α:Type} {z:α} {lt:α→α→Prop}
def GR(lt:α→α→Prop)(z:α)(cf:α→α→Int)(v:List α)(a b:Nat):Prop:=∀p q,a≤p→p<q→q<b→
 (cf (v.getD q z) (v.getD p z)<0→lt (v.getD q z) (v.getD p z))∧(¬cf (v.getD q z) (v.getD p z)<0→lt (v.getD p z) (v.getD q z))
theorem qh(a:Nat)(cf:α→α→Int):∀(b j:Nat) (v:List α),j<b→a≤j→j<v.length→∃r,EF z a cf b j v=.inl r∧r.2.length=v.length∧r.2.Perm v∧a≤r.1∧r.1≤j∧
  (∀q,r.2.getD q z=if r.1<q∧q≤j then v.getD (q-1) z else if q=r.1 then v.getD j z else v.getD q z)∧(∀q,r.1≤q→q<j→cf (v.getD j z) (v.getD q z)<0)∧(r.1=a∨¬cf (v.getD j z) (v.getD (r.1-1) z)<0)
 |0,j,v,g,_,_=>absurd g (Y0 _)
 |b+1,j,v,g,t,u=>by
  rw[EF]
  by_cases c:a<j∧cf (v.getD j z) (v.getD (j-1) z)<0
  ·rw[show(decide (((a:Nat):Int)<((j:Nat):Int))&&decide (cf (v.getD j z) (v.getD (j-1) z)<(0:Int)))=true from by rw[Yo (by omega),Yo c.2];rfl,cond_true]
   obtain⟨r,l,m,n,o,x,y,p,s⟩:=qh a cf b (j-1) ((v.set j (v.getD (j-1) z)).set (j-1) (v.getD j z)) (by omega) (by omega) (by simp;omega)
   have d:∀q,((v.set j (v.getD (j-1) z)).set (j-1) (v.getD j z)).getD q z=if q=j-1 then v.getD j z else if q=j then v.getD (j-1) z else v.getD q z:=fun q=>aF v j (j-1) q u (by omega)
   refine⟨r,l,by simpa using m,n.trans (J4 v _ _ (by omega) (by omega)),o,by omega,fun q=>?_,fun q f k=>?_,?_⟩
   ·grind
   ·by_cases i:q=j-1
    ·rw[i];exact c.2
    ·have:=p q f (by omega)
     rw[d,d,Yk rfl,Yi i,Yi (by omega)]at this
     exact this
   ·rcases s with h|h
    ·exact .inl h
    ·by_cases w:r.1=a
     ·exact .inl w
     ·rw[d,d,Yk rfl,Yi (by omega),Yi (by omega)]at h
      exact .inr h
  ·rw[show(decide (((a:Nat):Int)<((j:Nat):Int))&&decide (cf (v.getD j z) (v.getD (j-1) z)<(0:Int)))=false from by
    rw[La]
    by_cases h:a<j
    ·exact .inr (Yp (fun e=>c ⟨h,e⟩))
    ·exact .inl (Yp (by omega)),cond_false]
   refine⟨(j,v),rfl,rfl,.refl _,t,Ye _,fun q=>?_,fun q f k=>absurd k (by have:j≤q:=f;omega),?_⟩
   ·repeat' split
    all_goals first|rfl|(exfalso;omega)|(congr 1<;>omega)
   ·by_cases h:a<j
    ·exact .inr fun e=>c ⟨h,e⟩
    ·exact .inl (by show j=a;omega)
theorem ZtX(m:∀x y w,lt x y→lt y w→lt x w){cf:α→α→Int}{l v:List α}{a b i:Nat}(R:Res lt z l v a i)(s:GR lt z cf l a b)(hi:i<b)(L:b≤l.length)(K:a<i):
  ∃r,EF z a cf (i+1) i v=.inl r∧Res lt z l r.2 a (i+1):=by
 obtain⟨r,B,C,D,I,J,e,E,F⟩:=qh (z:=z) a cf (i+1) i v (YN _) (by omega) (by rw[R.len];omega)
 have c:v.getD i z=l.getD i z:=R.out i (.inr (Ye _))
 have u:∀q,r.1≤q→q<i→lt (v.getD i z) (v.getD q z):=fun q H t=>by
  have h:=E q H t
  obtain⟨d,f,g,p⟩:=R.inn q (by omega) t
  rw[c,p]at h⊢
  exact(s d i f g hi).1 h
 have A:a<r.1→lt (v.getD (r.1-1) z) (v.getD i z):=fun h=>by
  rcases F with j|j
  ·omega
  ·obtain⟨d,f,g,p⟩:=R.inn (r.1-1) (by omega) (by omega)
   rw[c,p]at j⊢
   exact(s d i f g hi).2 j
 refine⟨r,B,C.trans R.len,D.trans R.perm,fun k M=>?_,fun k f g=>?_,fun x y N O P=>?_⟩
 ·rw[e k,Yi (by omega),Yi (by omega)]
  exact R.out k (by omega)
 ·rw[e k]
  repeat' split
  ·obtain⟨d,n,G,o⟩:=R.inn (k-1) (by omega) (by omega)
   exact⟨d,n,by omega,o⟩
  ·exact⟨i,by omega,by omega,c⟩
  ·obtain⟨d,n,G,o⟩:=R.inn k (by omega) (by omega)
   exact⟨d,n,by omega,o⟩
 ·rw[e x,e y]
  repeat' split
  all_goals first|(exfalso;omega)|exact u _ (by omega) (by omega)|exact R.srt _ _ (by omega) (by omega) (by omega)|exact bd m R.srt (A (by omega)) (by omega) (by omega) (by omega)
theorem pc(c:∀x y w,lt x y→lt y w→lt x w){cf:α→α→Int}{l:List α}{a b:Nat}(f:GR lt z cf l a b)(e:b≤l.length):∀(d i:Nat) (v:List α),b-i<d→a<i→i≤b→Res lt z l v a i→
  ∃r,FR z a b cf d i v=.inl r∧Res lt z l r.2 a b
 |0,i,v,g,_,_,_=>absurd g (Y0 _)
 |d+1,i,v,g,k,m,R=>by
  rw[FR]
  by_cases hi:i<b
  ·rw[Yo (by omega),cond_true]
   obtain⟨r,j,h⟩:=ZtX c R f hi e k
   rw[j,D9]
   exact pc c f e d (i+1) r.2 (by omega) (by omega) (by omega) h
  ·rw[Yp (by omega),cond_false]
   grind
theorem Zzp(c:∀x y w,lt x y→lt y w→lt x w){cf:α→α→Int}(l:List α)(a b:Nat)(f:GR lt z cf l a b)(e:b≤l.length):Res lt z l (Dl z l a b cf) a b:=by
 rw[Dl]
 by_cases h:a<b
 ·obtain⟨r,m,R⟩:=pc c f e (b-(a+1)+1) (a+1) l (YN _) (by omega) h (.same fun i j g k d=>absurd d (by omega))
  grind
 ·rw[show b-(a+1)+1=0+1 from by omega,FR,Yp (by omega),cond_false]
  exact .same fun i j g k d=>absurd d (by omega)
end
section
variable {α:Type} {z:α} {lt:α→α→Prop}
def Gh(lt:α→α→Prop)(z:α)(l v:List α)(x y:Nat):Prop:=BR lt z v x y∧∀q,x≤q→q<y→∃a,x≤a∧a<y∧v.getD q z=l.getD a z
theorem Gh.keep{l v r:List α}{a b x y:Nat}(h:Gh lt z l v x y)(R:Res lt z v r a b)(k:y≤a∨b≤x):Gh lt z l r x y:=
 ⟨fun i j c d e=>by rw[R.out i (by omega),R.out j (by omega)];exact h.1 i j c d e,fun q f g=>by rw[R.out q (by omega)];exact h.2 q f g⟩
theorem oN(g:∀x y w,lt x y→lt y w→lt x w){cf:α→α→Int}{l v:List α}{a m b:Nat}(o:GR lt z cf l 0 l.length)(hl:v.length=l.length)(k:a<m)(n:m<b)(E:b≤l.length)
  (e:Gh lt z l v a m) (f:Gh lt z l v m b):Res lt z v (AX z (b-a+1) v a m b cf) a b∧Gh lt z l (AX z (b-a+1) v a m b cf) a b:=by
 have R:=bY g cf (b-a+1) v a m b (YN _) k n (by omega) e.1 f.1 (fun p q t u A B=>by
  obtain⟨s,a1,h,a3⟩:=e.2 p t u
  obtain⟨c,i,j,d⟩:=f.2 q A B
  rw[a3,d]
  exact o s c (Cn _) (by omega) (by omega))
 refine⟨R,R.srt,fun q C D=>?_⟩
 obtain⟨c,a1,h,a3⟩:=R.inn q C D
 rw[a3]
 by_cases r:c<m
 ·obtain⟨p,i,j,d⟩:=e.2 c a1 r
  grind
 ·obtain⟨p,i,j,d⟩:=f.2 c (by omega) h
  grind
theorem OB{x a t k k':Nat}(hx:x=k*t)(f:a=k'*t)(b:a<x+t)(c:x<a+t):x=a:=by
 subst hx;subst f
 have d:k*t+t=(k+1)*t:=by rw[Qk]
 have e:k'*t+t=(k'+1)*t:=by rw[Qk]
 rw[d]at b
 rw[e]at c
 have:=dU b
 have:=dU c
 grind
def Q9(lt:α→α→Prop)(z:α)(l v:List α)(s:Nat):Prop:=v.length=l.length∧v.Perm l∧∀x k,x=k*s→x<l.length→Gh lt z l v x (min (x+s) l.length)
theorem ij(d:∀x y w,lt x y→lt y w→lt x w){cf:α→α→Int}{l:List α}(n:GR lt z cf l 0 l.length):∀(e a k:Nat) (v:List α),l.length+1-(a+20)<e→a=k*20→a≤l.length→v.length=l.length→v.Perm l→
  (∀q,a≤q→v.getD q z=l.getD q z)→(∀x j,x=j*20→x+20≤a→Gh lt z l v x (x+20))→
  ∃r,GF z l.length cf e a (a+20) v=.inl r∧Q9 lt z l (Dl z r.2.2 r.1 l.length cf) 20
 |0,a,k,v,o,_,_,_,_,_,_=>absurd o (Y0 _)
 |e+1,a,k,v,o,m,I,hl,t,f,s=>by
  have ok:GR lt z cf v a l.length:=fun p q h i u=>by rw[f p h,f q (by omega)];exact n p q (Cn _) i u
  have c:∀b,b≤l.length→Res lt z v (Dl z v a b cf) a b∧Gh lt z l (Dl z v a b cf) a b:=fun b g=>by
   have R:=Zzp d (cf:=cf) v a b (fun p q h i u=>ok p q h i (by omega)) (by omega)
   exact⟨R,R.srt,fun q F H=>by
    obtain⟨A,a1,B,a3⟩:=R.inn q F H
    exact⟨A,a1,B,by rw[a3,f A a1]⟩⟩
  rw[GF]
  by_cases g:a+20≤l.length
  ·rw[Yo (by omega),cond_true]
   obtain⟨R,G⟩:=c (a+20) g
   refine ij d n e (a+20) (k+1) _ (by omega) (by omega) g (R.len.trans hl) (R.perm.trans t) (fun q C=>by rw[R.out q (.inr C)];exact f q (by omega)) (fun x j hx D=>?_)
   by_cases he:x+20≤a
   ·exact(s x j hx he).keep R (.inl he)
   ·have:=OB hx m (by omega) (by omega)
    rw[this];exact G
  ·rw[Yp (by omega),cond_false]
   obtain⟨R,G⟩:=c l.length (Ye _)
   refine⟨(a,a+20,v),rfl,R.len.trans hl,R.perm.trans t,fun x j hx E=>?_⟩
   by_cases he:x+20≤a
   ·rw[Fc (by omega)]
    exact(s x j hx he).keep R (.inl he)
   ·have:=OB hx m (by omega) (by omega)
    rw[this,Vm (by omega)];exact G
end
section
variable {α:Type} {z:α} {lt:α→α→Prop}
theorem gK(c:∀x y w,lt x y→lt y w→lt x w){cf:α→α→Int}{l:List α}(o:GR lt z cf l 0 l.length){s:Nat}(hs:0<s):∀(m a k:Nat) (v:List α),l.length+1-(a+2*s)<m→a=k*(2*s)→a≤l.length→v.length=l.length→v.Perm l→
  (∀x j,x=j*(2*s)→x+2*s≤a→Gh lt z l v x (x+2*s))→(∀x j,x=j*s→a≤x→x<l.length→Gh lt z l v x (min (x+s) l.length))→
  ∃r,GG z l.length cf s m a (a+2*s) v=.inl r∧Q9 lt z l (cond (decide (((r.1+s:Nat):Int)<((l.length:Nat):Int))) (AX z (l.length-r.1+1) r.2.2 r.1 (r.1+s) l.length cf) r.2.2) (s*2)
 |0,a,k,v,u,_,_,_,_,_,_=>absurd u (Y0 _)
 |m+1,a,k,v,u,g,B,hl,p,A,h=>by
  have n:a=(2*k)*s:=by rw[g,←Nat.mul_assoc,P4 k 2]
  have q:a+s=(2*k+1)*s:=by rw[Qk,←n]
  rw[GG]
  by_cases t:a+2*s≤l.length
  ·rw[Yo (by omega),cond_true]
   have f:=h a _ n (Ye _) (by omega)
   have e:=h (a+s) _ q (by omega) (by omega)
   rw[Fc (by omega)]at f e
   rw[show a+s+s=a+2*s from by omega]at e
   obtain⟨R,G⟩:=oN c o hl (by omega) (by omega) t f e
   refine gK c o hs m (a+2*s) (k+1) _ (by omega) (by rw[Qk k (2*s),←g]) t (R.len.trans hl) (R.perm.trans p) (fun x j hx i=>?_) (fun x j hx i d=>?_)
   ·by_cases he:x+2*s≤a
    ·exact(A x j hx he).keep R (.inl he)
    ·have:=OB hx g (by omega) (by omega)
     grind
   ·exact(h x j hx (by omega) d).keep R (.inr i)
  ·rw[Yp (by omega),cond_false]
   refine⟨(a,a+2*s,v),rfl,?_⟩
   show Q9 lt z l (cond (decide (((a+s:Nat):Int)<((l.length:Nat):Int))) (AX z (l.length-a+1) v a (a+s) l.length cf) v) (s*2)
   by_cases hm:a+s<l.length
   ·rw[Yo (by omega),cond_true]
    have f:=h a _ n (Ye _) (by omega)
    have e:=h (a+s) _ q (by omega) hm
    rw[Fc (by omega)]at f
    rw[Vm (by omega)]at e
    obtain⟨R,G⟩:=oN c o hl (by omega) hm (Ye _) f e
    refine⟨R.len.trans hl,R.perm.trans p,fun x j hx d=>?_⟩
    have b:x=j*(2*s):=by rw[hx,P4 s 2]
    by_cases he:x+2*s≤a
    ·rw[Fc (by omega),show x+s*2=x+2*s from by omega]
     exact(A x j b he).keep R (.inl he)
    ·have:=OB b g (by omega) (by omega)
     grind
   ·rw[Yp (by omega),cond_false]
    refine⟨hl,p,fun x j hx d=>?_⟩
    have b:x=j*(2*s):=by rw[hx,P4 s 2]
    by_cases he:x+2*s≤a
    ·grind
    ·have:=OB b g (by omega) (by omega)
     grind
theorem fe(a:∀x y w,lt x y→lt y w→lt x w){cf:α→α→Int}{l:List α}(g:GR lt z cf l 0 l.length):∀(c s:Nat) (v:List α),l.length-s<c→0<s→Q9 lt z l v s→
  ∃r,Fe z l.length cf c s v=.inl r∧r.2.length=l.length∧r.2.Perm l∧BR lt z r.2 0 l.length
 |0,s,v,k,_,_=>absurd k (Y0 _)
 |c+1,s,v,k,o,p=>by
  obtain⟨hl,m,n⟩:=p
  rw[Fe]
  by_cases u:s<l.length
  ·rw[Yo (by omega),cond_true]
   obtain⟨r,f,R⟩:=gK a g o (l.length+1-(2*s)+1) 0 0 v (by omega) (by simp) (Cn _) hl m (fun x j hx b=>absurd b (by omega)) (fun x j hx b e=>n x j hx e)
   rw[YP]at f
   rw[f,D9]
   have d:=fe a g c (s*2) _ (by omega) (by omega) R
   cases h:decide (((r.1+s:Nat):Int)<((l.length:Nat):Int))with
   |true=>rw[h]at d;exact d
   |false=>rw[h]at d;exact d
  ·rw[Yp (by omega),cond_false]
   refine⟨(s,v),rfl,hl,m,?_⟩
   by_cases q:0<l.length
   ·have:=(n 0 0 (by simp) q).1
    rwa [Vm (by omega)]at this
   ·exact fun i j A B t=>absurd t (by omega)
theorem yL(a:∀x y w,lt x y→lt y w→lt x w){cf:α→α→Int}(l:List α)(d:GR lt z cf l 0 l.length):(FS z l cf).Perm l∧BR lt z (FS z l cf) 0 l.length:=by
 rw[FS,Ss]
 obtain⟨r,c,R⟩:=ij a d (l.length+1-20+1) 0 0 l (by omega) (by simp) (Cn _) rfl (.refl _) (fun _ _=>rfl) (fun x j hx b=>absurd b (by omega))
 rw[YP]at c
 rw[c,D9]
 obtain⟨e,f1,f2,f3,f4⟩:=fe a d (l.length-20+1) 20 _ (by omega) (by omega) R
 grind
end
section
variable {α β:Type} {f:β→α} {z:α} {z':β} {cf:α→α→Int} {cf':β→β→Int}
theorem gm(a:f z'=z)(l:List β)(k:Nat):(l.map f).getD k z=f (l.getD k z'):=by
 grind
theorem Ec{γ δ:Type}(g:γ→δ)(b:Bool)(x y:γ):g (cond b x y)=cond b (g x) (g y):=by cases b<;>rfl
theorem JZ{γ δ ε ζ:Type}(g:γ→δ)(F:ε→γ)(G:ζ→γ)(x:ε ⊕ ζ):g (Sum.elim F G x)=Sum.elim (fun r=>g (F r)) (fun r=>g (G r)) x:=by cases x<;>rfl
theorem J1{γ ε ζ a b:Type}(F:ε→γ)(G:ζ→γ)(p:a→ε)(q:b→ζ)(x:a ⊕ b):Sum.elim F G (Sum.map p q x)=Sum.elim (fun r=>F (p r)) (fun r=>G (q r)) x:=by cases x<;>rfl
def m2(f:β→α)(r:Nat×List β):Nat×List α:=(r.1,r.2.map f)
def m3(f:β→α)(r:Nat×Nat×List β):Nat×Nat×List α:=(r.1,r.2.1,r.2.2.map f)
theorem fU(d:f z'=z)(a b n:Nat):∀(c i:Nat) (v:List β),GD z a b n c i (v.map f)=Sum.map (m2 f) (List.map f) (GD z' a b n c i v)
 |0,i,v=>rfl
 |c+1,i,v=>by simp only[GD,gm d,←Nq,fU d a b n c,Ec (Sum.map (m2 f) (List.map f))];rfl
theorem kj(c:f z'=z)(l:List β)(a b n:Nat):C2 z (l.map f) a b n cf=(C2 z' l a b n cf').map f:=by
 simp only[C2,fU c,J1,JZ (List.map f)];rfl
theorem qm(b:f z'=z)(m:Nat):∀(a i j:Nat) (v:List β),Ff z m cf a i j (v.map f)=Sum.map (m3 f) (List.map f) (Ff z' m cf' a i j v)
 |0,i,j,v=>rfl
 |a+1,i,j,v=>by simp only[Ff,kj (cf':=cf') b,qm b m a,Ec (Sum.map (m3 f) (List.map f))];rfl
theorem uP(c:f z'=z)(l:List β)(a m b:Nat):B5 z (l.map f) a m b cf=(B5 z' l a m b cf').map f:=by
 simp only[B5,qm (cf':=cf') c,J1,JZ (List.map f),m3,kj (cf':=cf') c]
theorem oz(d:f z'=z)(c:∀x y,cf (f x) (f y)=cf' x y)(a:Nat):∀(b i:Nat) (v:List β),EF z a cf b i (v.map f)=Sum.map (m2 f) (List.map f) (EF z' a cf' b i v)
 |0,i,v=>rfl
 |b+1,i,v=>by simp only[EF,gm d,c,←Nq,oz d c a b,Ec (Sum.map (m2 f) (List.map f))];rfl
theorem nJ(e:f z'=z)(d:∀x y,cf (f x) (f y)=cf' x y)(a b:Nat):∀(c i:Nat) (v:List β),FR z a b cf c i (v.map f)=Sum.map (m2 f) (List.map f) (FR z' a b cf' c i v)
 |0,i,v=>rfl
 |c+1,i,v=>by simp only[FR,oz e d,J1,m2,nJ e d a b c,Ec (Sum.map (m2 f) (List.map f)),JZ (Sum.map (m2 f) (List.map f))];rfl
theorem gu(d:f z'=z)(c:∀x y,cf (f x) (f y)=cf' x y)(l:List β)(a b:Nat):Dl z (l.map f) a b cf=(Dl z' l a b cf').map f:=by
 simp only[Dl,nJ d c,J1,JZ (List.map f)];rfl
theorem eZ(d:f z'=z)(c:∀x y,cf (f x) (f y)=cf' x y)(l:List β)(a:Nat):∀(b i j:Nat),ED z (l.map f) a cf b i j=Sum.map id (List.map f) (ED z' l a cf' b i j)
 |0,i,v=>rfl
 |b+1,i,v=>by simp only[ED,gm d,c,eZ d c l a b,Ec (Sum.map id (List.map f))];rfl
theorem fy(b:f z'=z)(a0:Nat×Nat):∀(a i:Nat) (v:List β),FT z a0 a i (v.map f)=Sum.map (m2 f) (List.map f) (FT z' a0 a i v)
 |0,i,v=>rfl
 |a+1,i,v=>by simp only[FT,gm b,←Nq,fy b a0 a,Ec (Sum.map (m2 f) (List.map f))];rfl
theorem eX(d:f z'=z)(c:∀x y,cf (f x) (f y)=cf' x y)(l:List β)(a:Nat):∀(b i j:Nat),EE z (l.map f) a cf b i j=Sum.map id (List.map f) (EE z' l a cf' b i j)
 |0,i,v=>rfl
 |b+1,i,v=>by simp only[EE,gm d,c,eX d c l a b,Ec (Sum.map id (List.map f))];rfl
theorem fZ(b:f z'=z)(a0:Nat×Nat):∀(a i:Nat) (v:List β),Fg z a0 a i (v.map f)=Sum.map (m2 f) (List.map f) (Fg z' a0 a i v)
 |0,i,v=>rfl
 |a+1,i,v=>by simp only[Fg,gm b,←Nq,fZ b a0 a,Ec (Sum.map (m2 f) (List.map f))];rfl
theorem ft(e:f z'=z)(d:∀x y,cf (f x) (f y)=cf' x y)(l:List β)(a m b:Nat):∀(c i j:Nat),Fi z (l.map f) a m b cf c i j=Sum.map id (List.map f) (Fi z' l a m b cf' c i j)
 |0,i,v=>rfl
 |c+1,i,v=>by simp only[Fi,gm e,d,ft e d l a m b c,Ec (Sum.map id (List.map f))];rfl
theorem ip(e:f z'=z)(d:∀x y,cf (f x) (f y)=cf' x y)(l:List β)(a m b:Nat):∀(c i j:Nat),Fh z (l.map f) a m b cf c i j=Sum.map id (List.map f) (Fh z' l a m b cf' c i j)
 |0,i,v=>rfl
 |c+1,i,v=>by simp only[Fh,gm e,d,ip e d l a m b c,Ec (Sum.map id (List.map f))];rfl
theorem Wy(c:f z'=z)(d:∀x y,cf (f x) (f y)=cf' x y):∀(e:Nat) (l:List β) (a m b:Nat),AX z e (l.map f) a m b cf=(AX z' e l a m b cf').map f
 |0,l,a,m,b=>rfl
 |e+1,l,a,m,b=>by
  simp only[AX,eZ c d,fy c,eX c d,fZ c,ft c d,ip c d,uP (cf':=cf') c,Wy c d e,J1,JZ (List.map f),Ec (List.map f),m2,id_eq]
theorem fY(c:f z'=z)(b:∀x y,cf (f x) (f y)=cf' x y)(n:Nat):∀(a i j:Nat) (v:List β),GF z n cf a i j (v.map f)=Sum.map (m3 f) (List.map f) (GF z' n cf' a i j v)
 |0,i,j,v=>rfl
 |a+1,i,j,v=>by simp only[GF,gu c b,fY c b n a,Ec (Sum.map (m3 f) (List.map f))];rfl
theorem ez(c:f z'=z)(b:∀x y,cf (f x) (f y)=cf' x y)(n s:Nat):∀(a i j:Nat) (v:List β),GG z n cf s a i j (v.map f)=Sum.map (m3 f) (List.map f) (GG z' n cf' s a i j v)
 |0,i,j,v=>rfl
 |a+1,i,j,v=>by simp only[GG,Wy c b,ez c b n s a,Ec (Sum.map (m3 f) (List.map f))];rfl
theorem hP(c:f z'=z)(b:∀x y,cf (f x) (f y)=cf' x y)(n:Nat):∀(a s:Nat) (v:List β),Fe z n cf a s (v.map f)=Sum.map (m2 f) (List.map f) (Fe z' n cf' a s v)
 |0,s,v=>rfl
 |a+1,s,v=>by simp only[Fe,ez c b,J1,m3,Wy c b,hP c b n a,Ec (Sum.map (m2 f) (List.map f)),JZ (Sum.map (m2 f) (List.map f))];rfl
theorem ZvI(b:f z'=z)(a:∀x y,cf (f x) (f y)=cf' x y)(l:List β):FS z (l.map f) cf=(FS z' l cf').map f:=by
 simp only[FS,Ss,YE,fY b a,J1,m3,gu b a,hP b a,JZ (List.map f)];rfl
end
section
variable {α:Type} {z:α} {cf:α→α→Int}
structure CmpLaw (cf:α→α→Int):Prop where
 tr:∀x y w,cf x y<0→cf y w<0→cf x w<0
 ng:∀x y w,¬cf x y<0→¬cf y w<0→¬cf x w<0
 ir:∀x,¬cf x x<0
def FL(cf:α→α→Int)(a b:α×Nat):Prop:=cf a.1 b.1<0∨(¬cf b.1 a.1<0∧a.2<b.2)
theorem s3(h:CmpLaw cf):∀a b c:α×Nat,FL cf a b→FL cf b c→FL cf a c:=by
 rintro⟨x,i⟩ ⟨y,j⟩ ⟨w,k⟩ d f
 rcases d with d|⟨d,g⟩<;>rcases f with f|⟨f,l⟩
 ·exact .inl (h.tr _ _ _ d f)
 ·refine .inl ?_
  by_cases e:cf x w<0
  ·exact e
  ·exact absurd d (h.ng _ _ _ e f)
 ·refine .inl ?_
  by_cases e:cf x w<0
  ·exact e
  ·exact absurd f (h.ng _ _ _ d e)
 ·exact .inr ⟨h.ng _ _ _ f d,Nat.lt_trans g l⟩
theorem tN(h:CmpLaw cf)(a b:α×Nat)(c:FL cf a b)(d:FL cf b a):False:=by
 rcases c with c|⟨c,e⟩<;>rcases d with d|⟨d,f⟩
 ·exact h.ir _ (h.tr _ _ _ c d)
 ·grind
 ·grind
 ·omega
theorem zx(l:List α):GR (FL cf) (z,0) (fun a b:α×Nat=>cf a.1 b.1) l.zipIdx 0 l.zipIdx.length:=fun p q _ c f=>by
 have d:q<l.length:=by simpa using f
 have g:∀k,k<l.length→∃x,l.zipIdx.getD k (z,0)=(x,k):=fun k e=>⟨l[k],by simp[Yj,e]⟩
 obtain⟨x,hx⟩:=g p (by omega)
 obtain⟨y,hy⟩:=g q d
 rw[hx,hy]
 exact⟨fun h=>.inl h,fun h=>.inr ⟨h,c⟩⟩
theorem u2{β:Type}{lt:β→β→Prop}{z:β}{l:List β}(h:BR lt z l 0 l.length):l.Pairwise lt:=by
 rw[JE]
 intro i j hi b a
 have:=h i j (Cn _) a b
 grind
theorem aj{β:Type}{lt:β→β→Prop}(d:∀a b,lt a b→lt b a→False):∀{l r:List β},l.Pairwise lt→r.Pairwise lt→l.Perm r→l=r
 |[],r,_,_,c=>(List.Perm.nil_eq c)
 |a::l,[],_,_,c=>absurd c.length_eq (by simp)
 |a::l,b::r,h,i,c=>by
  have e:a=b:=by
   have f:a∈b::r:=c.mem_iff.1 (Yz ..)
   have g:b∈a::l:=c.mem_iff.2 (Yz ..)
   rcases Yu.1 f with e|f
   ·exact e
   ·rcases Yu.1 g with e|g
    ·grind
    ·exact(d a b ((Y7.1 h).1 b g) ((Y7.1 i).1 a f)).elim
  subst e
  rw[aj d (Y7.1 h).2 (Y7.1 i).2 (List.Perm.cons_inv c)]
theorem zK(h:CmpLaw cf)(l:List α)(r:List (α×Nat))(d:r.Perm l.zipIdx)(hs:r.Pairwise (FL cf)):FS z l cf=r.map (·.1):=by
 obtain⟨c,g⟩:=yL (z:=(z,0)) (s3 h) l.zipIdx (zx (cf:=cf) l)
 have e:FS (z,0) l.zipIdx (fun a b:α×Nat=>cf a.1 b.1)=r:=aj (tN h) (u2 (by rw[c.length_eq];exact g)) hs (c.trans d.symm)
 rw[←e,←ZvI (f:=fun a:α×Nat=>a.1) (z:=z) rfl (fun _ _=>rfl)]
 congr 1
 simp
end
section
variable {α:Type} {z:α} {cf:α→α→Int}
theorem zI(h:CmpLaw cf){x:α}{i:Nat}{A B:List (α×Nat)}(hs:(A++B).Pairwise (FL cf))(hi:∀a∈A++B,a.2<i)(m:∀b∈B,cf x b.1<0)(l:∀a,A.getLast?=some a→¬cf x a.1<0):
  (A++(x,i)::B).Pairwise (FL cf):=by
 rw[U4]at hs⊢
 obtain⟨g,k,n⟩:=hs
 have key:∀a∈A,¬cf x a.1<0:=by
  intro a d
  obtain⟨C,c,rfl⟩:∃C c,A=C++[c]:=⟨A.dropLast,A.getLast (List.ne_nil_of_mem d),(dZ (List.ne_nil_of_mem d)).symm⟩
  have j:=l c (by simp)
  rcases Iz.1 d with d|d
  ·rw[U4]at g
   rcases g.2.2 a d c (by simp)with e|⟨e,_⟩
   ·exact fun e'=>j (h.tr _ _ _ e' e)
   ·exact h.ng _ _ _ j e
  grind
 refine⟨g,Y7.2 ⟨fun b f=>.inl (m b f),k⟩,fun a d b f=>?_⟩
 rcases Yu.1 f with rfl|f
 ·exact .inr ⟨key a d,hi a (Ho _ d)⟩
 grind
def insR(cf:α→α→Int)(out:List α)(x:α):List α:=(out.reverse.dropWhile (fun y=>decide (cf x y<0))).reverse++x::(out.reverse.takeWhile (fun y=>decide (cf x y<0))).reverse
def B1(cf:α→α→Int)(l:List α):List α:=l.foldl (insR cf) []
theorem zc(cf:α→α→Int)(r:List (α×Nat))(x:α):∃A B:List (α×Nat),r=A++B∧insR cf (r.map (·.1)) x=A.map (·.1)++x::B.map (·.1)∧(∀b∈B,cf x b.1<0)∧(∀a,A.getLast?=some a→¬cf x a.1<0):=by
 refine⟨(r.reverse.dropWhile (fun y=>decide (cf x y.1<0))).reverse,(r.reverse.takeWhile (fun y=>decide (cf x y.1<0))).reverse,?_,?_,?_,?_⟩
 ·rw[←U8,dX,List.reverse_reverse]
 ·have e:(fun y=>decide (cf x y<0))∘(fun p:α×Nat=>p.1)=fun y:α×Nat=>decide (cf x y.1<0):=rfl
  rw[insR,←Vn,List.dropWhile_map,List.takeWhile_map,e,←Vn,←Vn]
 ·intro b d
  have:=List.all_takeWhile (p:=fun y:α×Nat=>decide (cf x y.1<0)) (l:=r.reverse)
  grind
 ·intro a c
  rw[List.getLast?_reverse]at c
  have:=List.head?_dropWhile_not (fun y:α×Nat=>decide (cf x y.1<0)) r.reverse
  grind
theorem Sb(h:CmpLaw cf):∀(l:List α) (i:Nat) (r:List (α×Nat)),r.Pairwise (FL cf)→(∀a∈r,a.2<i)→∃c:List (α×Nat),l.foldl (insR cf) (r.map (·.1))=c.map (·.1)∧c.Pairwise (FL cf)∧c.Perm (r++l.zipIdx i)
 |[],i,r,f,d=>⟨r,rfl,f,by simp⟩
 |x::l,i,r,f,d=>by
  obtain⟨A,B,rfl,e,n,m⟩:=zc cf r x
  have o:=zI h f d n m
  obtain⟨c,g,j,k⟩:=Sb h l (i+1) (A++(x,i)::B) o (fun a b=>by
   rcases Iz.1 b with b|b
   ·exact UW (d a (Ho _ b))
   ·rcases Yu.1 b with rfl|b
    ·exact YN _
    ·exact UW (d a (eo _ b)))
  refine⟨c,?_,j,k.trans ?_⟩
  ·rw[P7,e,←g]
   simp
  ·rw[List.zipIdx_cons]
   simp only[DO,JC]
   exact List.Perm.append_left A (Vo.symm)
theorem Zn(h:CmpLaw cf)(l:List α):FS z l cf=B1 cf l:=by
 obtain⟨e,f,b,c⟩:=Sb h l 0 [] .nil (fun a d=>by cases d)
 rw[zK h l e (by simpa using c) b,B1]
 grind
end
section
variable {α:Type} {cf:α→α→Int}
theorem z6(out:List α)(x:α):(insR cf out x).Perm (x::out):=by
 rw[insR]
 refine Vo.trans (List.Perm.cons _ ?_)
 rw[←U8,dX,List.reverse_reverse]
theorem lz:∀(l out:List α),(l.foldl (insR cf) out).Perm (out++l)
 |[],out=>by simp
 |x::l,out=>by
  rw[P7]
  refine(lz l _).trans ?_
  refine((z6 out x).append_right l).trans ?_
  exact(Vo (l₁:=out) (a:=x) (l₂:=l)).symm
theorem FV(l:List α):(B1 cf l).Perm l:=(lz l []).trans (by simp)
theorem yd(l:List α):(B1 cf l).length=l.length:=(FV l).length_eq
theorem lC(h:CmpLaw cf)(l:List α):(B1 cf l).Pairwise (fun x y=>¬cf y x<0):=by
 obtain⟨i,d,f,_⟩:=Sb h l 0 [] .nil (fun a g=>by cases g)
 rw[show B1 cf l=i.map (·.1)from d,Nx]
 refine f.imp fun {a b} c=>?_
 rcases c with q|⟨q,_⟩
 ·exact fun e=>h.ir _ (h.tr _ _ _ q e)
 ·exact q
end
end Go.Eng
namespace Go.Proofs.YtalafnjhcecdpaaGreatDoor
set_option linter.all false
open Go Go.Eng
section
variable {α:Type} [Rw α] [Tid α]
set_option maxRecDepth 20000 in
theorem p4(l:List α)(a b n:Nat)(hl:l.length≤4194304)(ha:a+n≤l.length)(hb:b+n≤l.length):∀(d i:Nat) (v:List α) (N fu:Nat),i+d=n→d<N→d<fu→v.length=l.length→
  ∃i' v',GD (Rw.z:α) a b n fu i v=.inl (i',v')∧Ag (IQ l (a:Int) (b:Int) (n:Int)) N (i,v)=some (.inl v')
 |0,i,v,N,fu,hi,hN,hf,hv=>by
  obtain⟨N,rfl⟩:∃m,N=m+1:=⟨N-1,by omega⟩
  obtain⟨fu,rfl⟩:∃m,fu=m+1:=⟨fu-1,by omega⟩
  have e:i=n:=by omega
  subst e
  refine⟨i,v,by rw[GD];simp,?_⟩
  rw[Ag]
  simp[IQ,br,vz,vs,ln,Af,wa,wi,AC,ca,st,B0,fl,br,AC]
 |d+1,i,v,N,fu,hi,hN,hf,hv=>by
  obtain⟨N,rfl⟩:∃m,N=m+1:=⟨N-1,by omega⟩
  obtain⟨fu,rfl⟩:∃m,fu=m+1:=⟨fu-1,by omega⟩
  obtain⟨i',v',h1,h2⟩:=p4 l a b n hl ha hb d (i+1) ((v.set (a+i) (v.getD (b+i) Rw.z)).set (b+i) (v.getD (a+i) Rw.z)) N fu (by omega) (by omega) (by omega) (by simp[hv])
  have g1:i<n:=by omega
  have g2:i+1<9223372036854775808:=by omega
  have ea:((a:Int)+(i:Int))=((a+i:Nat):Int):=by omega
  have eb:((b:Int)+(i:Int))=((b+i:Nat):Int):=by omega
  have wa1: -9223372036854775808≤((a+i:Nat):Int)∧((a+i:Nat):Int)<9223372036854775808:=by omega
  have wb1: -9223372036854775808≤((b+i:Nat):Int)∧((b+i:Nat):Int)<9223372036854775808:=by omega
  have ra1:(0:Int)≤((a+i:Nat):Int)∧((a+i:Nat):Int)<(l.length:Int):=by omega
  have rb1:(0:Int)≤((b+i:Nat):Int)∧((b+i:Nat):Int)<(l.length:Int):=by omega
  have ja:a+i<v.length:=by omega
  have jb:b+i<v.length:=by omega
  have va:v[a+i]?=some (v.getD (a+i) Rw.z):=by rw[Yj,Ya ja];rfl
  have vb:v[b+i]?=some (v.getD (b+i) Rw.z):=by rw[Yj,Ya jb];rfl
  refine⟨i',v',by rw[GD,Yo (by omega),cond_true];exact h1,?_⟩
  have hB:IQ l (a:Int) (b:Int) (n:Int) (i,v)=some (.nx (i+1,(v.set (a+i) (v.getD (b+i) Rw.z)).set (b+i) (v.getD (a+i) Rw.z))):=by
   dsimp only[IQ,br,vz,vs,ln,Af,wa,wi,AC,ca,st,B0,fl,br,AC]
   grind
  rw[Ag,hB]
  exact h2
theorem Xa(l:List α)(a b n:Nat)(cmp:α→α→Int)(hl:l.length≤4194304)(e:a+n≤l.length)(f:b+n≤l.length):Hs l (a:Int) (b:Int) (n:Int)=some (C2 Rw.z l a b n cmp):=by
 obtain⟨g,h,c,d⟩:=p4 l a b n hl e f n 0 l Aj (n+1) (by omega) (A6 (by omega)) (by omega) rfl
 unfold Hs C2
 rw[Qj,c]
 simp only[Hs,O7,vz,lr,lc,fl,d,Yd]
 rfl
end
section
variable {α:Type} [Rw α] [Tid α]
theorem bB(l:List α)(m:Nat)(cmp:α→α→Int)(hl:l.length≤4194304):∀(d i j:Nat) (v:List α) (N b:Nat),i+j≤d→d<N→i+j<b→0<i→0<j→i≤m→m+j≤l.length→v.length=l.length→
  ∃c h e,Ff (Rw.z:α) m cmp b i j v=.inl (c,h,e)∧Ag (F9 l (m:Int)) N ((i:Int),(j:Int),v)=some (.inl ((c:Int),e))∧c≤m∧m+c≤l.length∧e.length=l.length
 |0,i,j,v,N,b,w,hN,x,r,s,hi,n,k=>by omega
 |d+1,i,j,v,N,b,w,hN,x,r,s,hi,n,k=>by
  obtain⟨N,rfl⟩:∃m,N=m+1:=⟨N-1,by omega⟩
  obtain⟨b,rfl⟩:∃m,b=m+1:=⟨b-1,by omega⟩
  by_cases he:i=j
  ·subst he
   refine⟨i,i,v,by rw[Ff];simp,?_,hi,n,k⟩
   rw[Ag]
   have f:F9 l (m:Int) ((i:Int),(i:Int),v)=some (.ex ((i:Int),v)):=by
    dsimp only[F9,br,vz,vs,v2,ln,Af,lc,wi,fl,br]
    simp
   rw[f]
  ·have g:¬(i:Int)=(j:Int):=by omega
   by_cases y:j<i
   ·have a:(j:Int)<(i:Int):=by omega
    have t:(m:Int)-(i:Int)=((m-i:Nat):Int):=by omega
    have A: -9223372036854775808≤((m-i:Nat):Int)∧((m-i:Nat):Int)<9223372036854775808:=by omega
    have w2: -9223372036854775808≤((i-j:Nat):Int)∧((i-j:Nat):Int)<9223372036854775808:=by omega
    have u:(i:Int)-(j:Int)=((i-j:Nat):Int):=by omega
    have hs:=Xa v (m-i) m j cmp (by omega) (by omega) (by omega)
    obtain⟨s1,_,_⟩:=O5 (z:=(Rw.z:α)) v (m-i) m j cmp (by omega) (by omega)
    obtain⟨c,h,e,o,p,q⟩:=bB l m cmp hl d (i-j) j (C2 Rw.z v (m-i) m j cmp) N b (by omega) (by omega) (by omega) (by omega) s (by omega) n (by rw[s1];exact k)
    refine⟨c,h,e,by rw[Ff];simp only[g,a,YK,Yv,Y1,cond_true];exact o,?_,q⟩
    have f:F9 l (m:Int) ((i:Int),(j:Int),v)=some (.nx (((i-j:Nat):Int),(j:Int),C2 Rw.z v (m-i) m j cmp)):=by
     dsimp only[F9,br,vz,vs,v2,ln,Af,lc,wi,fl,br]
     grind
    rw[Ag,f]
    exact p
   ·have a:¬(j:Int)<(i:Int):=by omega
    have t:(m:Int)-(i:Int)=((m-i:Nat):Int):=by omega
    have u:(j:Int)-(i:Int)=((j-i:Nat):Int):=by omega
    have B:(m:Int)+(j:Int)=((m+j:Nat):Int):=by omega
    have C:((m+j:Nat):Int)-(i:Int)=((m+j-i:Nat):Int):=by omega
    have A: -9223372036854775808≤((m-i:Nat):Int)∧((m-i:Nat):Int)<9223372036854775808:=by omega
    have w2: -9223372036854775808≤((j-i:Nat):Int)∧((j-i:Nat):Int)<9223372036854775808:=by omega
    have D: -9223372036854775808≤((m+j:Nat):Int)∧((m+j:Nat):Int)<9223372036854775808:=by omega
    have E: -9223372036854775808≤((m+j-i:Nat):Int)∧((m+j-i:Nat):Int)<9223372036854775808:=by omega
    have hs:=Xa v (m-i) (m+j-i) i cmp (by omega) (by omega) (by omega)
    obtain⟨s1,_,_⟩:=O5 (z:=(Rw.z:α)) v (m-i) (m+j-i) i cmp (by omega) (by omega)
    obtain⟨c,h,e,o,p,q⟩:=bB l m cmp hl d i (j-i) (C2 Rw.z v (m-i) (m+j-i) i cmp) N b (by omega) (by omega) (by omega) r (by omega) hi (by omega) (by rw[s1];exact k)
    refine⟨c,h,e,by rw[Ff];simp only[g,a,YK,Y1,cond_true,cond_false];exact o,?_,q⟩
    have f:F9 l (m:Int) ((i:Int),(j:Int),v)=some (.nx ((i:Int),((j-i:Nat):Int),C2 Rw.z v (m-i) (m+j-i) i cmp)):=by
     dsimp only[F9,br,vz,vs,v2,ln,Af,lc,wi,fl,br]
     grind
    rw[Ag,f]
    exact p
theorem QX(l:List α)(a m b:Nat)(cmp:α→α→Int)(hl:l.length≤4194304)(i:a<m)(j:m<b)(k:b≤l.length):JU l (a:Int) (m:Int) (b:Int)=some (B5 Rw.z l a m b cmp):=by
 obtain⟨c,n,e,d,o,p,q,r⟩:=bB l m cmp hl ((m-a)+(b-m)) (m-a) (b-m) l Aj ((m-a)+(b-m)+1) (Ye _) (A6 (by omega)) (by omega) (by omega) (by omega) (by omega) (by omega) rfl
 have f:(m:Int)-(a:Int)=((m-a:Nat):Int):=by omega
 have g:(b:Int)-(m:Int)=((b-m:Nat):Int):=by omega
 have h:(m:Int)-(c:Int)=((m-c:Nat):Int):=by omega
 have s: -9223372036854775808≤((m-a:Nat):Int)∧((m-a:Nat):Int)<9223372036854775808:=by omega
 have w2: -9223372036854775808≤((b-m:Nat):Int)∧((b-m:Nat):Int)<9223372036854775808:=by omega
 have t: -9223372036854775808≤((m-c:Nat):Int)∧((m-c:Nat):Int)<9223372036854775808:=by omega
 have hs:=Xa e (m-c) m c cmp (by omega) (by omega) (by omega)
 unfold JU B5
 rw[d]
 dsimp only[JU,Pb,vz,vs,lr,lc,wi,fl]
 grind
end
end Go.Proofs.YtalafnjhcecdpaaGreatDoor
