import Derived.Test.YtifefgdogdecnaaGreatDoorEb06
import Derived.Test.YtifefgdogdecnaaGreatDoorEb00
namespace Go.Eng
set_option linter.all false
open Go Go.RowKit
section
variable {P:Program} {T:Nat→Option TI} {n:Nat} {C:Cx} {τ σ:St} {Q:Exit→St→Prop}
theorem Wk.refl(σ:St):Wk n C σ σ:=fun _ _ h=>h
theorem Wk.trans{σ c b:St}(h:Wk n C σ c)(k:Wk n C c b):Wk n C σ b:=fun a w d=>k a w (h a w d)
theorem R.weaken{l:Nat}{B:Base}{s s':Nat→AV}{H:Hp}{a:Act}{w:World}(h:R l n B ⟨s,H⟩ a w)(hs:∀j,s' j=s j∨s' j=.top):R l n B ⟨s',H⟩ a w:=by
 obtain⟨m,S,d,g,b,f,c⟩:=h.un
 refine⟨m,S,d,g,b,fun i=>?_,c⟩
 show RepA w S H m (l+1) (s' i) _
 rcases hs i with e|e
 ·rw[e];exact f i
 ·rw[e];exact .top _
theorem Is.mono{Φ Ψ:St→Prop}(h:Is n C Φ σ)(e:∀τ,Φ τ→Ψ τ):Is n C Ψ σ:=by
 obtain⟨γ,τ,f,a,b,c,d⟩:=h;exact⟨γ,τ,f,a,e _ b,c,d⟩
theorem A5.weak{c:Code}{QQ:Exit→St→Prop}{b:St}(h:A5 P C.l n C.B c QQ b)(e:Wk n C σ b):A5 P C.l n C.B c QQ σ:=fun a w d=>h a w (e a w d)
theorem Lu.weak{c:Code}{QQ:Exit→St→Prop}{b:St}(h:Lu P C.l n C.B c QQ b)(e:Wk n C σ b):Lu P C.l n C.B c QQ σ:=fun a w d=>h a w (e a w d)
theorem LW.mono{c:Code}{a:Exit→St→Prop}(h:LW P n C c τ Q)(f:∀e τ,Q e τ→a e τ):LW P n C c τ a:=fun γ σ d b=>Ey (h γ σ d b) fun e g hi=>hi.mono (f e)
theorem ja{x y:Code}(h:LW P n C x τ (fun e τ'=>match e with|.normal=>LW P n C y τ' Q|e=>Q e τ')):LW P n C (.seq x y) τ Q:=by
 intro γ σ i g
 refine ON (Ey (h γ σ i g) fun e k hi=>?_)
 cases e with
 |normal=>
  obtain⟨j,τ',a,b,c,d,f⟩:=hi
  exact A5.weak (c j a b d) f
 |_=>exact hi
theorem fg{id:Nat}{c:Code}(h:LW P n C c τ (fun e τ'=>match e with|.exit i=>if i=id then Q .normal τ' else Q (.exit i) τ'|e=>Q e τ')):LW P n C (.block id c) τ Q:=by
 intro γ σ b a
 refine SO (Ey (h γ σ b a) fun e d hi=>?_)
 cases e with
 |exit i=>
  unfold K9
  simp only at hi⊢
  split
  ·rename_i he;exact hi.mono fun τ' h=>by rw[Yj he]at h;exact h
  ·rename_i he;exact hi.mono fun τ' h=>by rw[Yq he]at h;exact h
 |_=>exact hi
theorem iF{c:Operand}{x y:Code}{b:Bool}(h:ev τ.s c=.d (.bool b))(f:b=true→LW P n C x τ Q)(g:b=false→LW P n C y τ Q):LW P n C (.cond c x y) τ Q:=by
 intro γ σ d a
 have he:ev σ.s c=.d (.bool b):=by
  rw[Gy (c:=[]) a AJ (by cases c<;>rfl),h];simp[ren]
 exact IX he (fun e=>f e γ σ d a) (fun e=>g e γ σ d a)
theorem fU{c:Code}(h:LL P n C c τ Q):LW P n C (.loop c) τ Q:=by
 intro γ σ l i a w j b k cs
 obtain⟨e,d,w',f,g⟩:=h γ σ l i a w j b k cs
 exact⟨e,d,w',f,.of_steps (.one step_loop) g⟩
theorem eZ{c:Code}(h:LW P n C c τ (fun e τ'=>match e with|.normal=>LL P n C c τ' Q|e=>Q e τ')):LL P n C c τ Q:=by
 intro γ σ A y a w z b k cs
 obtain⟨e,i,l,⟨m,j,f⟩,d⟩:=h γ σ A y a w z b (.inLoop c::k) cs
 cases e with
 |normal=>
  obtain⟨D,τ',p,s,t,u,v⟩:=j
  obtain⟨r,q,B,o,g⟩:=t D p s u i l (v _ _ f) b k cs
  exact⟨r,q,B,o,.of_steps (Steps.trans d (.one step_inLoop)) g⟩
 |exit id=>exact⟨_,i,l,⟨m,j,f⟩,.pass (x:=.inLoop c) rfl (fun _ _=>.inl (by simp)) d⟩
 |goto id=>exact⟨_,i,l,⟨m,j,f⟩,.pass (x:=.inLoop c) rfl (fun _ _=>.inl (by simp)) d⟩
 |ret=>exact⟨_,i,l,⟨m,j,f⟩,.pass (x:=.inLoop c) rfl (fun _ _=>.inl (by simp)) d⟩
 |panic ch=>exact⟨_,i,l,⟨m,j,f⟩,.pass (x:=.inLoop c) rfl (fun _ _=>.inl (by simp)) d⟩
 |outgrown=>exact⟨_,i,l,⟨m,j,f⟩,.pass (x:=.inLoop c) rfl (fun _ _=>.inl (by simp)) d⟩
theorem Is.of{γ:Aa→Nat}{Φ:St→Prop}(b:C.G γ)(a:RG (C.r γ) C.l C.outs [] τ σ)(h:Φ τ):Is n C Φ σ:=⟨γ,τ,σ,b,h,a,Wk.refl σ⟩
theorem Bq{a b:Aa}:AY a b=true↔a=b:=by
 obtain⟨a1,c⟩:=a
 obtain⟨d,e⟩:=b
 simp[AY]
theorem SI{H:Hp}{s:Nat→AV}:∀(ls:List Nat) (j:Nat),As (Hu H s ls) j=Qi H (s j)∨As (Hu H s ls) j=.top
 |[],j=>.inr rfl
 |i::r,j=>by
  simp only[Hu,As]
  split
  ·rename_i h;rw[Ya h];exact .inl rfl
  ·exact SI r j
def rebase(γ:Aa→Nat)(H:Hp):Aa→Nat:=fun k=>γ k+(H k).g
mutual
theorem TS{γ:Aa→Nat}{H:Hp}:∀{x y:AV},Cv H x=some y→ren (C.r (rebase γ H)) y=ren (C.r γ) x
 |.ref k g off m,y,h=>by
  simp only[Cv]at h
  split at h
  ·rename_i hl;cases h;obtain⟨b,_⟩:=CA hl;subst b;simp[ren,Cx.r,rebase]
  ·cases h
 |.ptr k g off,y,h=>by
  simp only[Cv]at h
  split at h
  ·rename_i hl;cases h;obtain⟨b,_⟩:=CA hl;subst b;simp[ren,Cx.r,rebase]
  ·cases h
 |.mp k g,y,h=>by
  simp only[Cv]at h
  split at h
  ·rename_i hl;cases h;obtain⟨b,_⟩:=CA hl;subst b;simp[ren,Cx.r,rebase]
  ·cases h
 |.fn f xs ys,y,h=>by
  simp only[Cv]at h
  split at h
  ·rename_i xs' i b e
   cases h
   have c:=Hm (γ:=γ) b
   have d:=Hm (γ:=γ) e
   cases f<;>simp only[ren,c,d]<;>rfl
  ·cases h
 |.agg xs,y,h=>by
  simp only[Cv]at h
  split at h
  ·rename_i xs' b;cases h;simp only[ren,Hm (γ:=γ) b]
  ·cases h
 |.tup xs,y,h=>by
  simp only[Cv]at h
  split at h
  ·rename_i xs' b;cases h;simp only[ren,Hm (γ:=γ) b]
  ·cases h
 |.top,y,h=>by simp only[Cv]at h;cases h;simp[ren]
 |.d x,y,h=>by simp only[Cv]at h;cases h;simp[ren]
 |.e0,y,h=>by simp only[Cv]at h;cases h;simp[ren]
 |.p x,y,h=>by simp only[Cv]at h;cases h;simp[ren]
 |.iptr cs off,y,h=>by simp only[Cv]at h;cases h;simp[ren]
 |.ifc t ds a,y,h=>by simp only[Cv]at h;cases h;simp[ren]
theorem Hm{γ:Aa→Nat}{H:Hp}:∀{xs ys:List AV},EQ H xs=some ys→Ae (C.r (rebase γ H)) ys=Ae (C.r γ) xs
 |[],ys,h=>by simp only[EQ]at h;cases h;simp[Ae]
 |x::xs,ys,h=>by
  simp only[EQ]at h
  split at h
  ·rename_i x' xs' a b;cases h;simp only[Ae,TS (γ:=γ) a,Hm (γ:=γ) b]
  ·cases h
end
def JL(C:Cx)(γ:Aa→Nat)(H:Hp)(hs:List (Aa×Blk)):Prop:=
 (∀k,(Ak hs k).g=0)∧∀k,(Ak hs k).live=true→(H k).live=true∧(Ak hs k).e=(H k).e∧(Ak hs k).sz=(H k).sz∧Ae (C.r (rebase γ H)) (Ak hs k).cells=Ae (C.r γ) (H k).cells
theorem Fq{r:Ren}{cs:List AV}(h:EN cs):Ae r cs=cs:=Gq (Yo.2 h)
theorem JL.cons{γ:Aa→Nat}{H:Hp}{hs:List (Aa×Blk)}(h:JL C γ H hs){k:Aa}{cs:List AV}(hl:(H k).live=true)(b:Ae (C.r (rebase γ H)) cs=Ae (C.r γ) (H k).cells):JL C γ H ((k,⟨0,true,(H k).e,(H k).sz,cs⟩)::hs):=by
 refine⟨fun q=>?_,fun q a=>?_⟩
 ·simp only[Ak]
  split
  ·rfl
  ·exact h.1 q
 ·simp only[Ak]at a⊢
  split at a
  ·rename_i he
   have he:=Bq.1 he
   grind
  ·exact h.2 q a
theorem Kw{γ:Aa→Nat}{H:Hp}:∀(ks:List (Aa×Bool)) {K:List (Aa×Blk)→Prop},Hz H ks K→∃hs,K hs∧JL C γ H hs
 |[],K,h=>⟨[],h,fun k=>rfl,fun k d=>by simp[Ak,CW]at d⟩
 |(k,fl)::r,K,h=>by
  simp only[Hz]at h
  split at h
  ·exact Kw r h
  ·rename_i hl
   split at h
   ·obtain⟨hs,a,b⟩:=Kw (γ:=γ) r h.2
    exact⟨_,a,b.cons hl (by rw[Fq h.1,Fq h.1])⟩
   ·split at h
    ·rename_i cs c
     obtain⟨hs,a,b⟩:=Kw (γ:=γ) r h
     exact⟨_,a,b.cons hl (Hm c)⟩
    grind
theorem V9{H:Hp}:∀{fx:List Nat},gz H fx=true→∀i∈fx,(H (0,i)).g=0
 |i::r,h,j,a=>by
  simp only[gz,Yc]at h
  rcases YJ.1 a with rfl|a
  ·exact Ya h.1
  ·exact V9 h.2 j a
theorem OR{x:AV}(h:Mp x=true):x=.e0:=by cases x<;>first|rfl|cases h
theorem N5(c:CxOk C){Φ:St→Prop}{γ:Aa→Nat}:∀(ad:List (Nat×Nat×TypeId×Nat)) (τ σ:St),I6 ad τ Φ→RG (C.r γ) C.l C.outs [] τ σ→∃τ' f,Φ τ'∧RG (C.r γ) C.l C.outs [] τ' f∧Wk n C σ f
 |[],τ,σ,h,b=>⟨τ,σ,h,b,Wk.refl σ⟩
 |(j,d,e,sz)::r,τ,σ,h,b=>by
  simp only[I6]at h
  split at h
  ·rename_i he hl
   have k:σ.s j=.e0:=by rw[(b.s j).1 AJ,OR he];simp[ren]
   have o:=b.put (e:=j) (ch:=[]) rfl rfl (v:=.ref (1,d) ((τ.H (1,d)).g+1) 0 0) (y:=.ref (C.l+1,d) ((σ.H (C.l+1,d)).g+1) 0 0) (fun _=>by rw[b.g];simp only[ren];rw[show(C.r γ).κ (1,d)=(C.l+1,d)from c.own d,Yu]) (fun g=>absurd AJ g)
   have a:=RG.updH (c.ren γ) o (1,d) ⟨(τ.H (1,d)).g+1,true,e,sz,[]⟩ rfl (.inl rfl)
   have m:An (C.r γ) (1,d) ⟨(τ.H (1,d)).g+1,true,e,sz,[]⟩=⟨(σ.H (C.l+1,d)).g+1,true,e,sz,[]⟩:=by
    simp only[An,b.g,Ae,Yu]
   rw[m,show(C.r γ).κ (1,d)=(C.l+1,d)from c.own d]at a
   have p:RG (C.r γ) C.l C.outs [] ⟨upd τ.s j (.ref (1,d) ((τ.H (1,d)).g+1) 0 0),updH τ.H (1,d) ⟨(τ.H (1,d)).g+1,true,e,sz,[]⟩⟩ ⟨upd σ.s j (.ref (C.l+1,d) ((σ.H (C.l+1,d)).g+1) 0 0),updH σ.H (C.l+1,d) ⟨(σ.H (C.l+1,d)).g+1,true,e,sz,[]⟩⟩:=
    ⟨fun i=>⟨fun _=>(a.s i).1 (by rw[O1];split<;>exact AJ),fun g=>absurd AJ g⟩,a.h,a.g,a.go,a.k,a.o⟩
   obtain⟨τ',f,t,u,x⟩:=N5 c r _ _ h p
   refine⟨τ',f,t,u,Wk.trans (fun l w q=>?_) x⟩
   obtain⟨s,H⟩:=σ
   exact R.adopt (e:=e) (sz:=sz) q (C.l+1,d) rfl _ (Y9 _) k
  ·grind
  ·exact N5 c r τ σ h b
theorem OB{γ:Aa→Nat}:∀(ze:List Nat) (τ σ:St),RG (C.r γ) C.l C.outs [] τ σ→∃f,RG (C.r γ) C.l C.outs [] (Ih ze τ) f∧Wk n C σ f
 |[],τ,σ,b=>⟨σ,b,Wk.refl σ⟩
 |j::r,τ,σ,b=>by
  simp only[Ih]
  split
  ·rename_i he
   have d:σ.s j=.e0:=by rw[(b.s j).1 AJ,OR he];simp[ren]
   have a:=b.put (e:=j) (ch:=[]) rfl rfl (v:=.d (.list [])) (y:=.d (.list [])) (fun _=>by simp[ren]) (fun c=>absurd AJ c)
   have o:RG (C.r γ) C.l C.outs [] ⟨upd τ.s j (.d (.list [])),τ.H⟩ ⟨upd σ.s j (.d (.list [])),σ.H⟩:=
    ⟨fun i=>⟨fun _=>(a.s i).1 (by rw[O1];split<;>exact AJ),fun c=>absurd AJ c⟩,a.h,a.g,a.go,a.k,a.o⟩
   obtain⟨f,t,u⟩:=OB r _ _ o
   refine⟨f,t,Wk.trans (fun l w q=>?_) u⟩
   obtain⟨s,H⟩:=σ
   obtain⟨m,S,p,c,g,k,h⟩:=q.un
   refine⟨m,S,p,c,g,fun i=>?_,h⟩
   show RepA w S H m (C.l+1) (upd s j (.d (.list [])) i) _
   unfold upd
   by_cases hi:i=j
   ·subst hi
    rw[Yj rfl]
    have:=k i
    simp only at d
    rw[d]at this
    exact this.e0_d
   ·rw[Yq hi];exact k i
  ·exact OB r τ σ b
theorem Ez(t:CxOk C){Φ:St→Prop}{γ:Aa→Nat}{f:Lf}(h:Co C.fx f τ Φ)(F:C.G γ)(D:RG (C.r γ) C.l C.outs [] τ σ):Is n C Φ σ:=by
 obtain⟨K,o,r⟩:=OB (n:=n) f.ze τ σ D
 obtain⟨a,g,l,b,m⟩:=N5 (n:=n) t f.ad (Ih f.ze τ) K h o
 replace m:=Wk.trans r m
 split at l
 case h_2=>exact l.elim
 rename_i p
 obtain⟨hs,J,c⟩:=Kw (C:=C) (γ:=γ) f.ks l
 refine⟨rebase γ a.H,_,⟨fun j=>ren (C.r (rebase γ a.H)) (As (Hu a.H a.s f.ls) j),g.H⟩,t.G γ _ (fun i hi=>by unfold rebase;rw[V9 p i hi];rfl) F,J,⟨fun j=>⟨fun _=>rfl,fun G=>absurd AJ G⟩,fun k q=>?_,fun d=>?_,fun i hi=>?_,fun k q=>?_,b.o⟩,m.trans fun u w E=>?_⟩
 ·obtain⟨x,z,A,B⟩:=c.2 k q
  have y:=c.1 k
  show g.H (C.κ k)=_
  have:=b.h k x
  rw[show(C.r γ).κ k=C.κ k from rfl]at this
  rw[this]
  simp only[An]
  show _=Blk.mk (rebase γ a.H k+(Ak hs k).g) true (Ak hs k).e (Ak hs k).sz (Ae (C.r (rebase γ a.H)) (Ak hs k).cells)
  rw[y,z,A,B]
  rfl
 ·show(g.H (C.l+1,d)).g=rebase γ a.H (1,d)+(Ak hs (1,d)).g
  have e0:(Ak hs (1,d)).g=0:=c.1 _
  rw[e0,b.g]
  rfl
 ·show(g.H (C.κ (0,i))).g=rebase γ a.H (0,i)+(Ak hs (0,i)).g
  have e0:(Ak hs (0,i)).g=0:=c.1 _
  rw[e0]
  exact b.go i hi
 ·exact b.k k (c.2 k q).1
 ·obtain⟨s,H⟩:=g
  refine R.weaken E fun j=>?_
  rcases SI (H:=a.H) (s:=a.s) f.ls j with e|e
  ·simp only[e]
   unfold Qi
   split
   ·rename_i v I
    left
    rw[TS (γ:=γ) I]
    exact((b.s j).1 AJ).symm
   ·right;simp[ren]
  ·right;simp only[e];simp[ren]
end
end Go.Eng
namespace Go.Eng
set_option linter.all false
open Go Go.RowKit
def KF(T:Nat→Option TI)(c:List ResultVar)(os:Nat)(b:AV→List Blk→Prop):Exit→St→AT→Prop
 |.normal,τ,a=>JB T c os τ a b
 |.ret,τ,a=>JB T c os τ a b
 |_,_,_=>False
def KB(T:Nat→Option TI)(d:List ResultVar)(os:Nat)(fx:List Nat)(r:Ren)(b:AV→List Blk→Prop)(lf c:Lf)(Q:Exit→St→Prop):Exit→St→AT→Prop
 |.ret,τ,a=>JB T d os τ a b
 |.normal,τ,a=>AG r os a τ (fun τ _=>Co fx lf τ (Q .normal))
 |.exit i,τ,a=>AG r os a τ (fun τ _=>Co fx c τ (Q (.exit i)))
 |_,_,_=>False
section
variable {P:Program} {T:Nat→Option TI} {n:Nat} {C:Cx} {τ σ:St} {Q:Exit→St→Prop}
theorem KE{l:Nat}{ds:List (Option Nat)}:∀(ops:List Oper) {K c:St→Prop} {σ:St},(∀σ,K σ→c σ)→Cf P l n ds ops K σ→Cf P l n ds ops c σ
 |[],K,c,σ,b,h=>b _ h
 |o::a,K,c,σ,b,h=>by
  unfold Cf at h⊢
  split at h
  ·exact KH (fun σ h=>KE a b h) h
  ·split at h
   ·refine⟨fun e=>KH (fun σ h=>KE a b h) (h.1 e),fun e=>?_⟩
    have d:=h.2 e
    split at d
    ·exact⟨d.1,KE a b d.2⟩
    grind
   grind
theorem IQ{γ:Aa→Nat}{env:AR}(h:RG (C.r γ) C.l C.outs env τ σ):∃a,RG (C.r γ) C.l C.outs [] (B3 env τ) a∧Wk n C σ a:=by
 refine⟨⟨fun j=>ren (C.r γ) ((B3 env τ).s j),σ.H⟩,⟨fun j=>⟨fun _=>rfl,fun d=>absurd AJ d⟩,h.h,h.g,h.go,h.k,h.o⟩,fun b w c=>?_⟩
 obtain⟨s,H⟩:=σ
 refine R.weaken c fun j=>?_
 simp only[B3]
 split
 ·rename_i he
  left
  exact((h.s j).1 (by rw[he];exact AJ)).symm
 ·right;simp[ren]
def P7(n:Nat)(C:Cx)(γ:Aa→Nat)(K:Exit→St→AT→Prop)(e:Exit)(σ:St):Prop:=∃τ a b,K e τ a∧RG (C.r γ) C.l C.outs [] τ b∧Wk n C σ b
theorem SU{r:Ren}{H a:Hp}(l:RenOk r C.l C.outs)(o:B7 r H a){d:Nat}{s s':Nat→AV}(hs:∀j,s' j=ren r (s j)){A:Prop}:∀{m:List (Nat×List (List D))},MH H d s A m→A∧∀p∈m,∃off c,s' p.1=.ref (C.l+1,d) (a (C.l+1,d)).g off c∧
  p.2.length=c∧(∀e∈p.2,e.length=(a (C.l+1,d)).sz)∧(off+c)*(a (C.l+1,d)).sz≤(a (C.l+1,d)).cells.length∧((a (C.l+1,d)).cells.drop (off*(a (C.l+1,d)).sz)).take (c*(a (C.l+1,d)).sz)=p.2.flatten.map .d
 |[],h=>⟨h,fun p f=>by cases f⟩
 |(j,x)::m,h=>by
  simp only[MH]at h
  split at h
  case h_2=>exact h.elim
  rename_i k q off c w
  split at h
  case h_2=>exact h.elim
  rename_i i hl
  have i:=Bq.1 i
  subst i
  obtain⟨⟨f1,f2,f3,f4,f5⟩,h⟩:=h
  obtain⟨v,y⟩:=SU l o hs h
  obtain⟨n,t,u,b,g⟩:=o.at hl
  rw[l.own]at n t u b g
  refine⟨v,fun p f=>?_⟩
  rcases YJ.1 f with rfl|f
  ·refine⟨off,c,by rw[hs,w];simp[ren,l.own,n],f1,by rw[b];exact f3,by rw[b,g,Bx];exact f4,?_⟩
   rw[b,g,CL,Da,f5,Fv]
  grind
theorem SS{r:Ren}{H a:Hp}(s:RenOk r C.l C.outs)(m:B7 r H a){d:Nat}{A:Prop}:∀{cs:List (Aa×Nat×List (List D))},ME H d A cs→A∧∀p∈cs,p.1.1=1∧p.1≠(1,d)∧(H p.1).live=true∧∃off c,(a (r.κ p.1)).cells[p.2.1]?=some (.ref (C.l+1,d) (a (C.l+1,d)).g off c)∧
  p.2.2.length=c∧(∀e∈p.2.2,e.length=(a (C.l+1,d)).sz)∧(off+c)*(a (C.l+1,d)).sz≤(a (C.l+1,d)).cells.length∧((a (C.l+1,d)).cells.drop (off*(a (C.l+1,d)).sz)).take (c*(a (C.l+1,d)).sz)=p.2.2.flatten.map .d
 |[],h=>⟨h,fun p j=>by cases j⟩
 |(k,i,B)::cs,h=>by
  simp only[ME]at h
  split at h
  case h_2=>exact h.elim
  rename_i k' q off c z f b u
  split at h
  case h_2=>exact h.elim
  rename_i n hl
  have n:=Bq.1 n
  subst n
  obtain⟨⟨f1,f2,f3,f4,f5⟩,h⟩:=h
  obtain⟨x,E⟩:=SS s m h
  obtain⟨t,v,w,g,l⟩:=m.at hl
  rw[s.own]at t v w g l
  refine⟨x,fun p j=>?_⟩
  rcases YJ.1 j with rfl|j
  ·have y:=m k b
   have o:k≠(1,d):=fun e=>by rw[Bq.2 e]at f;cases f
   refine⟨Ya z,o,b,off,c,?_,f1,by rw[g];exact f3,by rw[g,l,Bx];exact f4,?_⟩
   ·rw[y]
    simp only[An,ED]
    rw[Bk]at u
    rw[u]
    simp[ren,s.own,t]
   ·rw[g,l,CL,Da,f5,Fv]
  grind
theorem Tc{r:Ren}:∀(b:List (Nat×List (List D))) {s s':Nat→AV},(∀j,s' j=ren r (s j))→∀j,FI b s' j=ren r (FI b s j)
 |[],s,s',h,j=>h j
 |(i,c)::b,s,s',h,j=>Tc b (s:=upd s i (.d (.list c))) (s':=upd s' i (.d (.list c))) (fun q=>by
   simp only[upd]
   by_cases a:q=i
   ·rw[Yj a,Yj a];simp[ren]
   ·rw[Yq a,Yq a];exact h q) j
theorem KJ{r:Ren}(xs:List AV)(i:Nat)(x:AV):(Ae r xs).set i (ren r x)=Ae r (xs.set i x):=by rw[Dc,Dc,List.map_set]
theorem TV{γ:Aa→Nat}(d:CxOk C):∀(cs:List (Aa×Nat×List (List D))) {τ σ:St},(∀p∈cs,p.1.1=1∧(τ.H p.1).live=true)→RG (C.r γ) C.l C.outs [] τ σ→
  RG (C.r γ) C.l C.outs [] ⟨τ.s,ES cs τ.H⟩ ⟨σ.s,ES (cs.map fun p=>((C.r γ).κ p.1,p.2)) σ.H⟩
 |[],τ,σ,_,h=>h
 |(k,i,a)::cs,τ,σ,e,h=>by
  obtain⟨j,b⟩:=e _ (YH ..)
  have l:=h.h k b
  have c:=RG.updH (d.ren γ) h k ⟨(τ.H k).g,true,(τ.H k).e,(τ.H k).sz,(τ.H k).cells.set i (.d (.list a))⟩ rfl (.inl j)
  have f:An (C.r γ) k ⟨(τ.H k).g,true,(τ.H k).e,(τ.H k).sz,(τ.H k).cells.set i (.d (.list a))⟩=⟨(σ.H ((C.r γ).κ k)).g,(σ.H ((C.r γ).κ k)).live,(σ.H ((C.r γ).κ k)).e,(σ.H ((C.r γ).κ k)).sz,(σ.H ((C.r γ).κ k)).cells.set i (.d (.list a))⟩:=by
   rw[l]
   simp only[An]
   rw[←KJ]
   simp[ren]
  rw[f]at c
  have g:(⟨(τ.H k).g,true,(τ.H k).e,(τ.H k).sz,(τ.H k).cells.set i (.d (.list a))⟩:Blk)=⟨(τ.H k).g,(τ.H k).live,(τ.H k).e,(τ.H k).sz,(τ.H k).cells.set i (.d (.list a))⟩:=by rw[b]
  rw[g]at c
  have:=TV d cs (fun p m=>by
   obtain⟨n,o⟩:=e p (Yy _ m)
   refine⟨n,?_⟩
   show(updH τ.H k _ p.1).live=true
   unfold updH
   split
   ·exact b
   ·exact o) c
  exact this
theorem NZ{r:Ren}{cs:List AV}(h:DF cs):DF (Ae r cs):=fun x hx=>by
 rw[Dc]at hx
 obtain⟨y,hy,rfl⟩:=YO.1 hx
 have:=h y hy
 cases y with
 |d d=>simp[ren]
 |_=>cases this
theorem Uo{H:Hp}{d:Nat}{s:Nat→AV}:∀{b:List Nat},ML H d s b=true→∀j∈b,∃g,s j=.mp (1,d) g∧A7 H (1,d) g=true
 |[],_,j,a=>by cases a
 |i::r,h,j,a=>by
  simp only[ML]at h
  split at h
  ·rename_i k g he
   simp only[Yc]at h
   have c:=Bq.1 h.1.1
   subst c
   rcases YJ.1 a with rfl|a
   ·grind
   ·exact Uo h.2 j a
  ·cases h
theorem Uj{H:Hp}{d:Nat}{s:Nat→AV}:∀{b:List Nat},MM H d s b=true→∀j∈b,∃g,s j=.ptr (1,d) g 0∧A7 H (1,d) g=true
 |[],_,j,a=>by cases a
 |i::r,h,j,a=>by
  simp only[MM]at h
  split at h
  ·rename_i k g he
   simp only[Yc]at h
   have c:=Bq.1 h.1.1
   subst c
   rcases YJ.1 a with rfl|a
   ·grind
   ·exact Uj h.2 j a
  ·cases h
theorem Bh(I:CxOk C){γ:Aa→Nat}:∀(a:AT) {τ σ:St} {K:St→AT→Prop},AG (C.r γ) C.outs a τ K→RG (C.r γ) C.l C.outs [] τ σ→∃τ' G F,K τ' G∧RG (C.r γ) C.l C.outs [] τ' F∧Wk n C σ F
 |.frz d V cs b,τ,σ,K,h,f=>by
  have l:=I.ren γ
  have hs:∀j,σ.s j=ren (C.r γ) (τ.s j):=fun j=>(f.s j).1 AJ
  simp only[AG]at h
  split at h
  case h_2=>exact h.elim
  rename_i hl hz
  have hz:=Yd hz
  obtain⟨h,hjs⟩:=SU l f.h hs h
  obtain⟨h,hcs⟩:=SS l f.h h
  have t:=f.h _ hl
  rw[l.own]at t
  have z:(σ.H (C.l+1,d)).live=true:=by rw[t];rfl
  have U:(σ.H (C.l+1,d)).sz=(τ.H (1,d)).sz:=by rw[t];rfl
  have o:(σ.H (C.l+1,d)).g=(C.r γ).γ (1,d)+(τ.H (1,d)).g:=by rw[t];rfl
  have u:=RG.updK l f (1,d) ⟨(τ.H (1,d)).g,false,(τ.H (1,d)).e,(τ.H (1,d)).sz,(τ.H (1,d)).cells⟩ {σ.H (C.l+1,d)with live:=false } (fun e=>by cases e) o (.inl rfl)
  rw[l.own]at u
  have A:=TV I cs (fun p hp=>by
   obtain⟨q1,q2,q3,_⟩:=hcs p hp
   refine⟨q1,?_⟩
   show(updH τ.H (1,d) _ p.1).live=true
   rw[Al _ _ q2]
   exact q3) u
  have Q:RG (C.r γ) C.l C.outs [] ⟨FI V τ.s,ES cs (updH τ.H (1,d) ⟨(τ.H (1,d)).g,false,(τ.H (1,d)).e,(τ.H (1,d)).sz,(τ.H (1,d)).cells⟩)⟩
    ⟨FI V σ.s,ES (cs.map fun p=>((C.r γ).κ p.1,p.2)) (updH σ.H (C.l+1,d) {σ.H (C.l+1,d)with live:=false })⟩:=
   ⟨fun j=>⟨fun _=>Tc V hs j,fun T=>absurd AJ T⟩,A.h,A.g,A.go,A.k,A.o⟩
  obtain⟨τ',G,F,N,v,O⟩:=Bh I b h Q
  refine⟨τ',G,F,N,v,Wk.trans (fun L w M=>?_) O⟩
  obtain⟨s,H⟩:=σ
  refine R.freeze M (k:=(C.l+1,d)) (Ye _) z (by rw[U];omega) V (cs.map fun p=>((C.r γ).κ p.1,p.2)) hjs (fun p hp=>?_)
  obtain⟨pp,hpp,rfl⟩:=YO.1 hp
  obtain⟨q1,q2,q3,q4⟩:=hcs pp hpp
  obtain⟨⟨p1,p2⟩,p3⟩:=pp
  simp only at q1 q2 q3 q4
  subst q1
  have hlv:(H ((C.r γ).κ (1,p2))).live=true:=by have:=f.h _ q3;simp only at this;rw[this];rfl
  exact⟨by simp only;rw[l.own];intro e;simp at e;exact q2 (by rw[e]),by simp only;rw[l.own];exact Ye _,hlv,q4⟩
 |.adc k i d e sz b,τ,σ,K,h,f=>by
  have l:=I.ren γ
  simp only[AG]at h
  split at h
  case h_2=>exact h.elim
  rename_i P hne hlv E
  have P:=Ya P
  have hne:k≠(1,d):=fun e=>by rw[Bq.2 e]at hne;cases hne
  obtain⟨N,v⟩:=k
  simp only at P
  subst P
  have t:=f.h _ hlv
  have u:=RG.updH l f (1,d) ⟨(τ.H (1,d)).g+1,true,e,sz,[]⟩ rfl (.inl rfl)
  have A:=RG.updH l u (1,v) ⟨(τ.H (1,v)).g,true,(τ.H (1,v)).e,(τ.H (1,v)).sz,(τ.H (1,v)).cells.set i (.ref (1,d) ((τ.H (1,d)).g+1) 0 0)⟩ rfl (.inl rfl)
  have e1:An (C.r γ) (1,d) ⟨(τ.H (1,d)).g+1,true,e,sz,[]⟩=⟨(σ.H (C.l+1,d)).g+1,true,e,sz,[]⟩:=by simp only[An,f.g,Ae,Yu]
  have e2:An (C.r γ) (1,v) ⟨(τ.H (1,v)).g,true,(τ.H (1,v)).e,(τ.H (1,v)).sz,(τ.H (1,v)).cells.set i (.ref (1,d) ((τ.H (1,d)).g+1) 0 0)⟩=
    ⟨(σ.H (C.l+1,v)).g,(σ.H (C.l+1,v)).live,(σ.H (C.l+1,v)).e,(σ.H (C.l+1,v)).sz,(σ.H (C.l+1,v)).cells.set i (.ref (C.l+1,d) ((σ.H (C.l+1,d)).g+1) 0 0)⟩:=by
   rw[l.own]at t
   rw[t]
   simp only[An]
   rw[←KJ]
   simp[ren,l.own,f.g,Yu]
  rw[e1,e2,l.own,l.own]at A
  obtain⟨τ',G,F,j1,j2,j3⟩:=Bh I b h A
  refine⟨τ',G,F,j1,j2,Wk.trans (fun L w M=>?_) j3⟩
  obtain⟨s,H⟩:=σ
  rw[Bk]at E
  exact R.adoptC M (k:=(C.l+1,d)) (kp:=(C.l+1,v)) rfl rfl (fun e=>by simp at e;exact hne (by rw[e])) (by rw[l.own]at t;simp only at t;rw[t];rfl) (by rw[l.own]at t;simp only at t;rw[t];simp only[An,ED,E];simp[ren])
 |.ads j d e sz b,τ,σ,K,h,f=>by
  have l:=I.ren γ
  simp only[AG]at h
  split at h
  case h_2=>exact h.elim
  rename_i he
  have hsj:σ.s j=.e0:=by rw[(f.s j).1 AJ,OR he];simp[ren]
  have u:=RG.updH l f (1,d) ⟨(τ.H (1,d)).g+1,true,e,sz,[]⟩ rfl (.inl rfl)
  have e1:An (C.r γ) (1,d) ⟨(τ.H (1,d)).g+1,true,e,sz,[]⟩=⟨(σ.H (C.l+1,d)).g+1,true,e,sz,[]⟩:=by simp only[An,f.g,Ae,Yu]
  rw[e1,l.own]at u
  have Q:RG (C.r γ) C.l C.outs [] ⟨upd τ.s j (.ref (1,d) ((τ.H (1,d)).g+1) 0 0),updH τ.H (1,d) ⟨(τ.H (1,d)).g+1,true,e,sz,[]⟩⟩ ⟨upd σ.s j (.ref (C.l+1,d) ((σ.H (C.l+1,d)).g+1) 0 0),updH σ.H (C.l+1,d) ⟨(σ.H (C.l+1,d)).g+1,true,e,sz,[]⟩⟩:=
   ⟨fun i=>⟨fun _=>by
    simp only[upd]
    by_cases hi:i=j
    ·rw[Yj hi,Yj hi];simp[ren,l.own,f.g,Yu]
    ·rw[Yq hi,Yq hi];exact(f.s i).1 AJ,fun T=>absurd AJ T⟩,u.h,u.g,u.go,u.k,u.o⟩
  obtain⟨τ',G,F,N,v,O⟩:=Bh I b h Q
  refine⟨τ',G,F,N,v,Wk.trans (fun L w M=>?_) O⟩
  obtain⟨s,H⟩:=σ
  exact R.adopt (e:=e) (sz:=sz) M (C.l+1,d) rfl _ (Y9 _) hsj
 |.trim k c b,τ,σ,K,h,f=>by
  have l:=I.ren γ
  simp only[AG]at h
  split at h
  case h_2=>exact h.elim
  rename_i hl
  obtain⟨⟨m,hm⟩,h⟩:=h
  have t:=f.h k hl
  have hko:AG (C.r γ) C.outs b ⟨τ.s,updH τ.H k ⟨(τ.H k).g,true,(τ.H k).e,(τ.H k).sz,c⟩⟩ K∧GK (C.r γ) C.outs k:=by
   unfold ZM at h
   split at h
   ·rename_i P;exact⟨h,.inl (Ya P)⟩
   ·rcases f.k k hl with h5|⟨_,h5⟩
    ·have:=h.1.1;omega
    ·exact⟨h.2,.inr ⟨h.1.1,h5,h.1.2⟩⟩
  obtain⟨h,hko⟩:=hko
  have u:=RG.updH l f k ⟨(τ.H k).g,true,(τ.H k).e,(τ.H k).sz,c⟩ rfl hko
  have e1:An (C.r γ) k ⟨(τ.H k).g,true,(τ.H k).e,(τ.H k).sz,c⟩=⟨(σ.H ((C.r γ).κ k)).g,(σ.H ((C.r γ).κ k)).live,(σ.H ((C.r γ).κ k)).e,(σ.H ((C.r γ).κ k)).sz,(σ.H ((C.r γ).κ k)).cells.take m⟩:=by
   rw[t]
   simp only[An,Da,hm]
  rw[e1]at u
  obtain⟨τ',G,F,N,v,O⟩:=Bh I b h u
  refine⟨τ',G,F,N,v,Wk.trans (fun L w M=>?_) O⟩
  obtain⟨s,H⟩:=σ
  have hle:((C.r γ).κ k).1≤C.l+1:=by
   obtain⟨N,v⟩:=k
   have:=hko.lk
   simp only at this
   rcases this with rfl|⟨rfl,A⟩
   ·rw[l.own];exact Ye _
   ·exact Nq (l.out v A)
  exact R.trim M hle (by have B:=t;simp only at B;rw[B];rfl) m
 |.reb j d m c b,τ,σ,K,h,f=>by
  have l:=I.ren γ
  simp only[AG]at h
  split at h
  case h_2=>exact h.elim
  rename_i k q off n hsj
  split at h
  case h_2=>exact h.elim
  rename_i hkd hq
  have P:k=(1,d):=Bq.1 hkd
  subst P
  obtain⟨hq1,hl⟩:=CA hq
  subst hq1
  obtain⟨⟨hnm,hlen,E⟩,h⟩:=h
  subst E
  subst hnm
  have t:=f.h (1,d) hl
  rw[l.own]at t
  have z:(σ.H (C.l+1,d)).live=true:=by rw[t];rfl
  have U:(σ.H (C.l+1,d)).sz=(τ.H (1,d)).sz:=by rw[t];rfl
  have o:(σ.H (C.l+1,d)).g=(C.r γ).γ (1,d)+(τ.H (1,d)).g:=by rw[t];rfl
  have hcr:(σ.H (C.l+1,d)).cells=Ae (C.r γ) (τ.H (1,d)).cells:=by rw[t];rfl
  have Z:(σ.H (C.l+1,d)).e=(τ.H (1,d)).e:=by rw[t];rfl
  have hs:σ.s j=.ref (C.l+1,d) (σ.H (C.l+1,d)).g off n:=by rw[(f.s j).1 AJ,hsj];simp only[ren];rw[l.own,o]
  have u:=RG.updH l f (1,d) ⟨(τ.H (1,d)).g+1,true,.t (τ.H (1,d)).e.ty,(τ.H (1,d)).sz,(τ.H (1,d)).cells.drop (off*(τ.H (1,d)).sz)⟩ rfl (.inl rfl)
  have e1:An (C.r γ) (1,d) ⟨(τ.H (1,d)).g+1,true,.t (τ.H (1,d)).e.ty,(τ.H (1,d)).sz,(τ.H (1,d)).cells.drop (off*(τ.H (1,d)).sz)⟩=⟨(σ.H (C.l+1,d)).g+1,true,.t (σ.H (C.l+1,d)).e.ty,(σ.H (C.l+1,d)).sz,(σ.H (C.l+1,d)).cells.drop (off*(σ.H (C.l+1,d)).sz)⟩:=by
   simp only[An,o,Z,U,hcr,CL,Yu]
  rw[e1,l.own]at u
  have Q:RG (C.r γ) C.l C.outs [] ⟨upd τ.s j (.ref (1,d) ((τ.H (1,d)).g+1) 0 n),updH τ.H (1,d) ⟨(τ.H (1,d)).g+1,true,.t (τ.H (1,d)).e.ty,(τ.H (1,d)).sz,(τ.H (1,d)).cells.drop (off*(τ.H (1,d)).sz)⟩⟩
    ⟨upd σ.s j (.ref (C.l+1,d) ((σ.H (C.l+1,d)).g+1) 0 n),updH σ.H (C.l+1,d) ⟨(σ.H (C.l+1,d)).g+1,true,.t (σ.H (C.l+1,d)).e.ty,(σ.H (C.l+1,d)).sz,(σ.H (C.l+1,d)).cells.drop (off*(σ.H (C.l+1,d)).sz)⟩⟩:=
   ⟨fun i=>⟨fun _=>by
    simp only[upd]
    by_cases hi:i=j
    ·rw[Yj hi,Yj hi];simp only[ren];rw[l.own,o,Yu]
    ·rw[Yq hi,Yq hi];exact(f.s i).1 AJ,fun T=>absurd AJ T⟩,u.h,u.g,u.go,u.k,u.o⟩
  obtain⟨τ',G,F,N,v,O⟩:=Bh I b h Q
  refine⟨τ',G,F,N,v,Wk.trans (fun L w M=>?_) O⟩
  obtain⟨s,H⟩:=σ
  exact R.rebase M (Ye _) z hs (by rw[U,hcr,Bx];exact hlen)
 |.mv d j b,τ,σ,K,h,f=>by
  have l:=I.ren γ
  have hs:∀j,σ.s j=ren (C.r γ) (τ.s j):=fun j=>(f.s j).1 AJ
  simp only[AG]at h
  split at h
  case h_2=>exact h.elim
  rename_i hl
  obtain⟨hf,⟨J,hno⟩,h⟩:=h
  have t:=f.h _ hl
  have X:=f.go j J
  rw[l.own]at t
  have z:(σ.H (C.l+1,d)).live=true:=by rw[t];rfl
  have o:(σ.H (C.l+1,d)).g=(C.r γ).γ (1,d)+(τ.H (1,d)).g:=by rw[t];rfl
  have u:=RG.updK l f (1,d) ⟨(τ.H (1,d)).g,false,(τ.H (1,d)).e,(τ.H (1,d)).sz,(τ.H (1,d)).cells⟩ {σ.H (C.l+1,d)with live:=false } (fun e=>by cases e) o (.inl rfl)
  rw[l.own]at u
  have A:=RG.updH l u (0,j) ⟨(τ.H (0,j)).g+1,true,(τ.H (1,d)).e,(τ.H (1,d)).sz,(τ.H (1,d)).cells⟩ rfl (.inr ⟨rfl,J,hno⟩)
  have e2:An (C.r γ) (0,j) ⟨(τ.H (0,j)).g+1,true,(τ.H (1,d)).e,(τ.H (1,d)).sz,(τ.H (1,d)).cells⟩={σ.H (C.l+1,d)with g:=(σ.H ((C.r γ).κ (0,j))).g+1 }:=by
   rw[t]
   simp only[An,X,Yu]
  rw[e2]at A
  have Q:RG (C.r γ) C.l C.outs [] ⟨fun i=>C5 (1,d) (0,j) (τ.H (1,d)).g ((τ.H (0,j)).g+1) (τ.s i),updH (updH τ.H (1,d) ⟨(τ.H (1,d)).g,false,(τ.H (1,d)).e,(τ.H (1,d)).sz,(τ.H (1,d)).cells⟩) (0,j) ⟨(τ.H (0,j)).g+1,true,(τ.H (1,d)).e,(τ.H (1,d)).sz,(τ.H (1,d)).cells⟩⟩
    ⟨fun i=>ren (C.r γ) (C5 (1,d) (0,j) (τ.H (1,d)).g ((τ.H (0,j)).g+1) (τ.s i)),updH (updH σ.H (C.l+1,d) {σ.H (C.l+1,d)with live:=false }) ((C.r γ).κ (0,j)) {σ.H (C.l+1,d)with g:=(σ.H ((C.r γ).κ (0,j))).g+1 }⟩:=
   ⟨fun i=>⟨fun _=>rfl,fun T=>absurd AJ T⟩,A.h,A.g,A.go,A.k,A.o⟩
  obtain⟨τ',G,F,N,v,O⟩:=Bh I b h Q
  refine⟨τ',G,F,N,v,Wk.trans (fun L w M=>?_) O⟩
  obtain⟨s,H⟩:=σ
  refine R.handout M (k:=(C.l+1,d)) rfl (l.out j J) z (by have B:=t;simp only at B;rw[B];exact NZ hf) (fun i=>?_)
  have r:=hs i
  simp only at r
  cases hx:τ.s i with
  |ref q g off c=>
   rw[hx]at r
   rw[OZ]
   split
   ·rename_i E
    obtain⟨rfl,rfl⟩:=E
    refine .inr (.inl ⟨off,c,?_,?_⟩)
    ·rw[r];simp only[ren];rw[l.own];simp only at o;rw[o]
    ·simp only[ren];simp only at X;rw[X,Yu]
   ·left;rw[r]
  |mp q g=>
   rw[hx]at r
   rw[Pd]
   split
   ·rename_i E
    obtain⟨rfl,rfl⟩:=E
    refine .inr (.inr ⟨?_,?_⟩)
    ·rw[r];simp only[ren];rw[l.own];simp only at o;rw[o]
    ·simp only[ren];simp only at X;rw[X,Yu]
   ·left;rw[r]
  |_=>left;rw[r,hx];rfl
 |.rnm d d' e i b,τ,σ,K,h,f=>by
  have l:=I.ren γ
  have hs:∀j,σ.s j=ren (C.r γ) (τ.s j):=fun j=>(f.s j).1 AJ
  simp only[AG]at h
  split at h
  case h_2=>exact h.elim
  rename_i k g off c hl hdd S Y hle E
  split at h
  case h_2=>exact h.elim
  rename_i P hg
  obtain⟨hf,h⟩:=h
  have P:=Bq.1 P
  subst P
  have hg:=Ya hg
  subst hg
  have hdd:d≠d':=fun q=>by subst q;simp at hdd
  have S:e≠d:=fun q=>by subst q;simp at S
  have Y:e≠d':=fun q=>by subst q;simp at Y
  have t:=f.h _ hl
  have D:=f.h _ hle
  rw[l.own]at t D
  have z:(σ.H (C.l+1,d)).live=true:=by rw[t];rfl
  have hler:(σ.H (C.l+1,e)).live=true:=by rw[D];rfl
  have o:(σ.H (C.l+1,d)).g=(C.r γ).γ (1,d)+(τ.H (1,d)).g:=by rw[t];rfl
  have y:=f.g d'
  have u:=RG.updK l f (1,d) ⟨(τ.H (1,d)).g,false,(τ.H (1,d)).e,(τ.H (1,d)).sz,(τ.H (1,d)).cells⟩ {σ.H (C.l+1,d)with live:=false } (fun e=>by cases e) o (.inl rfl)
  rw[l.own]at u
  have A:=RG.updH l u (1,d') ⟨(τ.H (1,d')).g+1,true,(τ.H (1,d)).e,(τ.H (1,d)).sz,(τ.H (1,d)).cells⟩ rfl (.inl rfl)
  have e2:An (C.r γ) (1,d') ⟨(τ.H (1,d')).g+1,true,(τ.H (1,d)).e,(τ.H (1,d)).sz,(τ.H (1,d)).cells⟩={σ.H (C.l+1,d)with g:=(σ.H (C.l+1,d')).g+1 }:=by
   rw[t]
   simp only[An,y,Yu]
  rw[e2,l.own]at A
  have W:=RG.updH l A (1,e) ⟨(τ.H (1,e)).g,true,(τ.H (1,e)).e,(τ.H (1,e)).sz,(τ.H (1,e)).cells.set i (.ref (1,d') ((τ.H (1,d')).g+1) off c)⟩ rfl (.inl rfl)
  have e4:An (C.r γ) (1,e) ⟨(τ.H (1,e)).g,true,(τ.H (1,e)).e,(τ.H (1,e)).sz,(τ.H (1,e)).cells.set i (.ref (1,d') ((τ.H (1,d')).g+1) off c)⟩=
    ⟨(σ.H (C.l+1,e)).g,true,(σ.H (C.l+1,e)).e,(σ.H (C.l+1,e)).sz,(σ.H (C.l+1,e)).cells.set i (.ref (C.l+1,d') ((σ.H (C.l+1,d')).g+1) off c)⟩:=by
   rw[D]
   simp only[An]
   rw[←KJ]
   simp[ren,l.own,y,Yu]
  rw[e4,l.own]at W
  have Q:RG (C.r γ) C.l C.outs [] ⟨fun j=>C5 (1,d) (1,d') (τ.H (1,d)).g ((τ.H (1,d')).g+1) (τ.s j),_⟩
    ⟨fun j=>ren (C.r γ) (C5 (1,d) (1,d') (τ.H (1,d)).g ((τ.H (1,d')).g+1) (τ.s j)),_⟩:=
   ⟨fun i=>⟨fun _=>rfl,fun T=>absurd AJ T⟩,W.h,W.g,W.go,W.k,W.o⟩
  obtain⟨τ',G,F,N,v,O⟩:=Bh I b h Q
  refine⟨τ',G,F,N,v,Wk.trans (fun L w M=>?_) O⟩
  obtain⟨s,H⟩:=σ
  rw[Bk]at E
  refine R.rename M (k:=(C.l+1,d)) (k':=(C.l+1,d')) (q:=(C.l+1,e)) rfl (Ye _) rfl (fun q=>hdd (by simpa using q)) (fun q=>S (by simpa using q)) (fun q=>Y (by simpa using q)) z hler (by have B:=t;simp only at B;rw[B];exact NZ hf)
   (by simp only at D o;rw[D];simp only[An,ED,E];simp[ren,l.own,o]) (fun i=>?_)
  have r:=hs i
  simp only at r
  cases hx:τ.s i with
  |ref q g off c=>
   rw[hx]at r
   rw[OZ]
   split
   ·rename_i E
    obtain⟨rfl,rfl⟩:=E
    refine .inr (.inl ⟨off,c,?_,?_⟩)
    ·rw[r];simp only[ren];rw[l.own];simp only at o;rw[o]
    ·simp only[ren];rw[l.own];simp only at y;rw[y,Yu]
   ·left;rw[r]
  |mp q g=>
   rw[hx]at r
   rw[Pd]
   split
   ·rename_i E
    obtain⟨rfl,rfl⟩:=E
    refine .inr (.inr ⟨?_,?_⟩)
    ·rw[r];simp only[ren];rw[l.own];simp only at o;rw[o]
    ·simp only[ren];rw[l.own];simp only at y;rw[y,Yu]
   ·left;rw[r]
  |_=>left;rw[r,hx];rfl
 |.mvc d q e i b,τ,σ,K,h,f=>by
  have l:=I.ren γ
  have hs:∀j,σ.s j=ren (C.r γ) (τ.s j):=fun j=>(f.s j).1 AJ
  simp only[AG]at h
  split at h
  case h_2=>exact h.elim
  rename_i k g off c hl S hle E
  split at h
  case h_2=>exact h.elim
  rename_i P hg
  obtain⟨hf,⟨J,hno⟩,h⟩:=h
  have P:=Bq.1 P
  subst P
  have hg:=Ya hg
  subst hg
  have S:e≠d:=fun q'=>by subst q';simp at S
  have t:=f.h _ hl
  have D:=f.h _ hle
  rw[l.own]at t D
  have z:(σ.H (C.l+1,d)).live=true:=by rw[t];rfl
  have hler:(σ.H (C.l+1,e)).live=true:=by rw[D];rfl
  have o:(σ.H (C.l+1,d)).g=(C.r γ).γ (1,d)+(τ.H (1,d)).g:=by rw[t];rfl
  have y:=f.go q J
  have hlo:=l.out q J
  have u:=RG.updK l f (1,d) ⟨(τ.H (1,d)).g,false,(τ.H (1,d)).e,(τ.H (1,d)).sz,(τ.H (1,d)).cells⟩ {σ.H (C.l+1,d)with live:=false } (fun e=>by cases e) o (.inl rfl)
  rw[l.own]at u
  have A:=RG.updH l u (0,q) ⟨(τ.H (0,q)).g+1,true,(τ.H (1,d)).e,(τ.H (1,d)).sz,(τ.H (1,d)).cells⟩ rfl (.inr ⟨rfl,J,hno⟩)
  have e2:An (C.r γ) (0,q) ⟨(τ.H (0,q)).g+1,true,(τ.H (1,d)).e,(τ.H (1,d)).sz,(τ.H (1,d)).cells⟩={σ.H (C.l+1,d)with g:=(σ.H ((C.r γ).κ (0,q))).g+1 }:=by
   rw[t]
   simp only[An,y,Yu]
  rw[e2]at A
  have W:=RG.updH l A (1,e) ⟨(τ.H (1,e)).g,true,(τ.H (1,e)).e,(τ.H (1,e)).sz,(τ.H (1,e)).cells.set i (.ref (0,q) ((τ.H (0,q)).g+1) off c)⟩ rfl (.inl rfl)
  have e4:An (C.r γ) (1,e) ⟨(τ.H (1,e)).g,true,(τ.H (1,e)).e,(τ.H (1,e)).sz,(τ.H (1,e)).cells.set i (.ref (0,q) ((τ.H (0,q)).g+1) off c)⟩=
    ⟨(σ.H (C.l+1,e)).g,true,(σ.H (C.l+1,e)).e,(σ.H (C.l+1,e)).sz,(σ.H (C.l+1,e)).cells.set i (.ref ((C.r γ).κ (0,q)) ((σ.H ((C.r γ).κ (0,q))).g+1) off c)⟩:=by
   rw[D]
   simp only[An]
   rw[←KJ]
   simp[ren,l.own,y,Yu]
  rw[e4,l.own]at W
  have Q:RG (C.r γ) C.l C.outs [] ⟨fun j=>C5 (1,d) (0,q) (τ.H (1,d)).g ((τ.H (0,q)).g+1) (τ.s j),_⟩
    ⟨fun j=>ren (C.r γ) (C5 (1,d) (0,q) (τ.H (1,d)).g ((τ.H (0,q)).g+1) (τ.s j)),_⟩:=
   ⟨fun i=>⟨fun _=>rfl,fun T=>absurd AJ T⟩,W.h,W.g,W.go,W.k,W.o⟩
  obtain⟨τ',G,F,N,v,O⟩:=Bh I b h Q
  refine⟨τ',G,F,N,v,Wk.trans (fun L w M=>?_) O⟩
  obtain⟨s,H⟩:=σ
  rw[Bk]at E
  refine R.rename M (k:=(C.l+1,d)) (k':=((C.r γ).κ (0,q))) (q:=(C.l+1,e)) rfl (Nq hlo) rfl (fun q'=>by rw[←q']at hlo;exact absurd hlo (Nat.not_succ_le_self _)) (fun q'=>S (by simpa using q')) (fun q'=>by rw[←q']at hlo;exact absurd hlo (Nat.not_succ_le_self _)) z hler (by have B:=t;simp only at B;rw[B];exact NZ hf)
   (by simp only at D o;rw[D];simp only[An,ED,E];simp[ren,l.own,o]) (fun i=>?_)
  have r:=hs i
  simp only at r
  cases hx:τ.s i with
  |ref q g off c=>
   rw[hx]at r
   rw[OZ]
   split
   ·rename_i E
    obtain⟨rfl,rfl⟩:=E
    refine .inr (.inl ⟨off,c,?_,?_⟩)
    ·rw[r];simp only[ren];rw[l.own];simp only at o;rw[o]
    ·simp only[ren];simp only at y;rw[y,Yu]
   ·left;rw[r]
  |mp q g=>
   rw[hx]at r
   rw[Pd]
   split
   ·rename_i E
    obtain⟨rfl,rfl⟩:=E
    refine .inr (.inr ⟨?_,?_⟩)
    ·rw[r];simp only[ren];rw[l.own];simp only at o;rw[o]
    ·simp only[ren];simp only at y;rw[y,Yu]
   ·left;rw[r]
  |_=>left;rw[r,hx];rfl
 |.fzm d V b,τ,σ,K,h,f=>by
  have l:=I.ren γ
  have hs:∀j,σ.s j=ren (C.r γ) (τ.s j):=fun j=>(f.s j).1 AJ
  simp only[AG]at h
  split at h
  case h_2=>exact h.elim
  rename_i q es hl he hm
  have hjs:=Uo hm
  have t:=f.h _ hl
  rw[l.own]at t
  have z:(σ.H (C.l+1,d)).live=true:=by rw[t];rfl
  have Z:(σ.H (C.l+1,d)).e=.m q es:=by rw[t];exact he
  have o:(σ.H (C.l+1,d)).g=(C.r γ).γ (1,d)+(τ.H (1,d)).g:=by rw[t];rfl
  have u:=RG.updK l f (1,d) ⟨(τ.H (1,d)).g,false,(τ.H (1,d)).e,(τ.H (1,d)).sz,(τ.H (1,d)).cells⟩ {σ.H (C.l+1,d)with live:=false } (fun e=>by cases e) o (.inl rfl)
  rw[l.own]at u
  have Q:RG (C.r γ) C.l C.outs [] ⟨CF (.d (.map q es)) V τ.s,updH τ.H (1,d) ⟨(τ.H (1,d)).g,false,(τ.H (1,d)).e,(τ.H (1,d)).sz,(τ.H (1,d)).cells⟩⟩ ⟨CF (.d (.map q es)) V σ.s,updH σ.H (C.l+1,d) {σ.H (C.l+1,d)with live:=false }⟩:=
   ⟨fun j=>⟨fun _=>by
    simp only[IW]
    by_cases J:j∈V
    ·rw[Yj J,Yj J];simp[ren]
    ·rw[Yq J,Yq J];exact hs j,fun T=>absurd AJ T⟩,u.h,u.g,u.go,u.k,u.o⟩
  obtain⟨τ',G,F,N,v,O⟩:=Bh I b h Q
  refine⟨τ',G,F,N,v,Wk.trans (fun L w M=>?_) O⟩
  obtain⟨s,H⟩:=σ
  refine R.freezeM M (k:=(C.l+1,d)) (Ye _) z Z V (fun j J=>?_)
  obtain⟨g,g1,g2⟩:=hjs j J
  have:=hs j
  simp only at this o
  rw[this,g1]
  simp only[ren]
  rw[l.own,o,(CA g2).1]
 |.fzb d V b,τ,σ,K,h,f=>by
  have l:=I.ren γ
  have hs:∀j,σ.s j=ren (C.r γ) (τ.s j):=fun j=>(f.s j).1 AJ
  simp only[AG]at h
  split at h
  case h_2=>exact h.elim
  rename_i x ds hl he hm
  have hjs:=Uj hm
  have t:=f.h _ hl
  rw[l.own]at t
  have z:(σ.H (C.l+1,d)).live=true:=by rw[t];rfl
  have Z:(σ.H (C.l+1,d)).cells=(x::ds).map .d:=by rw[t];show Ae _ _=_;rw[KY he,Fv]
  have o:(σ.H (C.l+1,d)).g=(C.r γ).γ (1,d)+(τ.H (1,d)).g:=by rw[t];rfl
  have u:=RG.updK l f (1,d) ⟨(τ.H (1,d)).g,false,(τ.H (1,d)).e,(τ.H (1,d)).sz,(τ.H (1,d)).cells⟩ {σ.H (C.l+1,d)with live:=false } (fun e=>by cases e) o (.inl rfl)
  rw[l.own]at u
  have Q:RG (C.r γ) C.l C.outs [] ⟨CF (.iptr (x::ds) 0) V τ.s,updH τ.H (1,d) ⟨(τ.H (1,d)).g,false,(τ.H (1,d)).e,(τ.H (1,d)).sz,(τ.H (1,d)).cells⟩⟩ ⟨CF (.iptr (x::ds) 0) V σ.s,updH σ.H (C.l+1,d) {σ.H (C.l+1,d)with live:=false }⟩:=
   ⟨fun j=>⟨fun _=>by
    simp only[IW]
    by_cases J:j∈V
    ·rw[Yj J,Yj J];simp[ren]
    ·rw[Yq J,Yq J];exact hs j,fun T=>absurd AJ T⟩,u.h,u.g,u.go,u.k,u.o⟩
  obtain⟨τ',G,F,N,v,O⟩:=Bh I b h Q
  refine⟨τ',G,F,N,v,Wk.trans (fun L w M=>?_) O⟩
  obtain⟨s,H⟩:=σ
  refine R.freezeB M (k:=(C.l+1,d)) (Ye _) z Z (by simp) V (fun j J=>?_)
  obtain⟨g,g1,g2⟩:=hjs j J
  have:=hs j
  simp only at this o
  rw[this,g1]
  simp only[ren]
  rw[l.own,o,(CA g2).1]
 |.ents _ _,τ,σ,K,h,f=>⟨τ,_,σ,h,f,Wk.refl σ⟩
 |.all _ _,τ,σ,K,h,f=>⟨τ,_,σ,h,f,Wk.refl σ⟩
 |.nil,τ,σ,K,h,f=>⟨τ,_,σ,h,f,Wk.refl σ⟩
 |.sep _,τ,σ,K,h,f=>⟨τ,_,σ,h,f,Wk.refl σ⟩
 |.go _,τ,σ,K,h,f=>⟨τ,_,σ,h,f,Wk.refl σ⟩
 |.av _ _,τ,σ,K,h,f=>⟨τ,_,σ,h,f,Wk.refl σ⟩
 |.cs _ _,τ,σ,K,h,f=>⟨τ,_,σ,h,f,Wk.refl σ⟩
 |.ds _ _,τ,σ,K,h,f=>⟨τ,_,σ,h,f,Wk.refl σ⟩
 |.num _ _,τ,σ,K,h,f=>⟨τ,_,σ,h,f,Wk.refl σ⟩
 |.nat _ _,τ,σ,K,h,f=>⟨τ,_,σ,h,f,Wk.refl σ⟩
 |.call _ _ _,τ,σ,K,h,f=>⟨τ,_,σ,h,f,Wk.refl σ⟩
 |.callH _ _ _ _,τ,σ,K,h,f=>⟨τ,_,σ,h,f,Wk.refl σ⟩
 |.br _ _,τ,σ,K,h,f=>⟨τ,_,σ,h,f,Wk.refl σ⟩
 |.one _ _,τ,σ,K,h,f=>⟨τ,_,σ,h,f,Wk.refl σ⟩
 |.hard _ _ _ _ _,τ,σ,K,h,f=>⟨τ,_,σ,h,f,Wk.refl σ⟩
theorem Dx(o:CxOk C)(s:AL P T)(hm:P.follows .mixedOrders=true){γ:Aa→Nat}:∀(c:Code) (a:AT) (τ σ:St) (K:Exit→St→AT→Prop),Bz P T C.l n C.outs (C.r γ) c a τ K→RG (C.r γ) C.l C.outs [] τ σ→
  A5 P C.l n C.B c (P7 n C γ K) σ
 |.skip,a,τ,σ,K,h,d=>eh ⟨τ,a,σ,h,d,Wk.refl σ⟩
 |.ret,a,τ,σ,K,h,d=>by
  obtain⟨τ',f,p,k,m,q⟩:=Bh (n:=n) o a h d
  exact A5.weak (hP ⟨τ',f,p,k,m,Wk.refl p⟩) q
 |.exit id,a,τ,σ,K,h,d=>fm ⟨τ,a,σ,h,d,Wk.refl σ⟩
 |.seq x y,a,τ,σ,K,h,d=>by
  have F:=Dx o s hm x a τ σ _ h d
  refine ON (Ey F fun e p hi=>?_)
  obtain⟨τ',f,j,k,m,q⟩:=hi
  cases e with
  |normal=>exact A5.weak (Dx o s hm y f τ' j _ k m) q
  |_=>exact⟨τ',f,j,k,m,q⟩
 |.block id c,a,τ,σ,K,h,d=>by
  have F:=Dx o s hm c a τ σ _ h d
  refine SO (Ey F fun e p hi=>?_)
  obtain⟨τ',f,j,k,m,q⟩:=hi
  cases e with
  |exit i=>
   unfold K9
   simp only at k⊢
   split at k
   ·rename_i he;rw[Yj (Ya he)];exact⟨τ',f,j,k,m,q⟩
   ·rename_i he;rw[Yq (by rintro rfl;simp at he)];exact⟨τ',f,j,k,m,q⟩
  |_=>exact⟨τ',f,j,k,m,q⟩
 |.cond c x y,a,τ,σ,K,h,d=>by
  have he:∀{b},ev τ.s c=.d (.bool b)→ev σ.s c=.d (.bool b):=fun {b} u=>by rw[Gy (c:=[]) d AJ (by cases c<;>rfl),u];simp[ren]
  unfold Bz at h
  split at h
  ·rename_i b a1 J u
   exact IX (he u) (fun e=>Dx o s hm x a1 τ σ K (h.1 e) d) (fun e=>Dx o s hm y J τ σ K (h.2 e) d)
  ·rename_i b f u
   refine IX (he u) (fun e=>?_) (fun e=>?_)
   ·subst e;exact Dx o s hm x f τ σ K h d
   ·subst e;exact Dx o s hm y f τ σ K h d
  ·rename_i b v f u
   cases v with
   |true=>exact IX (he u) (fun e=>Dx o s hm x f τ σ K (h.1 e) d) (fun e=>(h.2 e).elim)
   |false=>exact IX (he u) (fun e=>(h.1 e).elim) (fun e=>Dx o s hm y f τ σ K (h.2 e) d)
  ·exact h.elim
 |.region id ops draw,a,τ,σ,K,h,d=>by
  obtain⟨t,rfl⟩:∃l:List Oper,ops=l.toArray:=⟨ops.toList,by simp⟩
  have fin:∀τ' g f p,K .normal (B3 g τ') f→RG (C.r γ) C.l C.outs g τ' p→P7 n C γ K .normal p:=fun τ' g f p k m=>by
   obtain⟨j,q,L⟩:=IQ (n:=n) m
   exact⟨_,f,j,k,q,L⟩
  unfold Bz at h
  split at h
  ·obtain⟨H,D,G,h,d,E⟩:=Bh (n:=n) o a h d
   refine A5.weak ?_ E
   intro A w M
   have:=Hj (o.ren γ) s (ops:=t.toArray) (B:=C.B) (K:=fun τ' env f=>K .normal (B3 env τ') f) (QQ:=fun e f w'=>∃p,P7 n C γ K e p∧R C.l n C.B p f w') [] (fun τ' g f p I w' k m q=>by
    unfold wpList
    exact⟨p,fin _ _ _ _ k m,q⟩) t [] D H G A w (by simpa using h) d M
   rw[J0]at this
   exact wp_region_lit this
  ·split at h
   case h_2=>exact h.elim
   rename_i z
   simp only[Yc]at z
   obtain⟨H,D,G,h,d,E⟩:=Bh (n:=n) o a h d
   refine A5.weak ?_ E
   refine da hm (Sd (by simpa using z.1.1)) (by simpa using z.1.2) (by simpa using z.2) (KE t (fun p N=>?_) (Hr (o.ren γ) (l:=C.l) (r:=C.r γ) (outs:=C.outs) (K:=fun τ' env f=>K .normal (B3 env τ') f) s t [] D H G (by simpa using z.1.2) (by simpa using h) d))
   obtain⟨τ',g,f,k,m⟩:=N
   exact fin _ _ _ _ k m
 |.loop _,a,τ,σ,K,h,d=>h.elim
 |.rangeFunc _ _ _ _,a,τ,σ,K,h,d=>h.elim
 |.scope _,a,τ,σ,K,h,d=>h.elim
 |.label _,a,τ,σ,K,h,d=>h.elim
 |.goto _,a,τ,σ,K,h,d=>h.elim
 |.refuse _,a,τ,σ,K,h,d=>h.elim
theorem VQ(k:CxOk C)(m:AL P T)(hm:P.follows .mixedOrders=true){c:Code}{a:AT}(K:(Aa→Nat)→Exit→St→AT→Prop)(h:∀γ,Bz P T C.l n C.outs (C.r γ) c a τ (K γ))
  (p:∀γ e τ' b d,C.G γ→K γ e τ' b→RG (C.r γ) C.l C.outs [] τ' d→Is n C (Q e) d):LW P n C c τ Q:=by
 intro γ σ o l
 refine Ey (Dx k m hm c a τ σ (K γ) (h γ) l) fun e d hi=>?_
 obtain⟨τ',b,f,g,i,j⟩:=hi
 obtain⟨u,w,v,q,r,s,t⟩:=p γ e τ' b f o g i
 exact⟨u,w,v,q,r,s,j.trans t⟩
theorem gX(i:CxOk C)(k:AL P T)(hm:P.follows .mixedOrders=true){c:Code}(a:AT){f:List ResultVar}{b:AV→List Blk→Prop}(h:∀γ,Bz P T C.l n C.outs (C.r γ) c a τ (KF T f C.outs b)):LW P n C c τ (FQ T f C.outs b):=
 VQ i k hm (fun _=>KF T f C.outs b) h fun γ e τ' g m l d j=>.of l j (by
  cases e<;>simp only[KF]at d
  ·exact⟨.inl rfl,g,d⟩
  ·exact⟨.inr rfl,g,d⟩)
theorem i6(d:CxOk C)(z:AL P T)(hm:P.follows .mixedOrders=true){c:Code}(a:AT)(lf w:Lf){s:List ResultVar}{b:AV→List Blk→Prop}(y:∀τ,FQ T s C.outs b .ret τ→Q .ret τ)(h:∀γ,Bz P T C.l n C.outs (C.r γ) c a τ (KB T s C.outs C.fx (C.r γ) b lf w Q)):LW P n C c τ Q:=
 VQ d z hm (fun γ=>KB T s C.outs C.fx (C.r γ) b lf w Q) h fun γ e τ' g D j f i=>by
  cases e<;>simp only[KB]at f
  ·obtain⟨B,x,A,p,q,r⟩:=Bh (n:=n) d g f i
   obtain⟨t,v,u,k,l,m,o⟩:=Ez (n:=n) d p j q
   exact⟨t,v,u,k,l,m,r.trans o⟩
  ·obtain⟨B,x,A,p,q,r⟩:=Bh (n:=n) d g f i
   obtain⟨t,v,u,k,l,m,o⟩:=Ez (n:=n) d p j q
   exact⟨t,v,u,k,l,m,r.trans o⟩
  ·exact .of j i (y _ ⟨.inr rfl,g,f⟩)
theorem Ue{sz:Nat}:∀{es:List (List D)} {i j:Nat} {e:List D} {d:D},(∀e∈es,e.length=sz)→es[i]?=some e→e[j]?=some d→es.flatten[i*sz+j]?=some d
 |[],i,j,e,d,h,hi,a=>by simp at hi
 |f::es,0,j,e,d,h,hi,a=>by
  grind
 |f::es,i+1,j,e,d,h,hi,a=>by
  have b:=h f (YH ..)
  rw[Gk,Ys (by rw[b,YK];omega),b,show(i+1)*sz+j-sz=i*sz+j from by rw[YK];omega]
  exact Ue (fun e he=>h e (Yy _ he)) (by simpa using hi) a
mutual
theorem dn(u:CxOk C){γ:Aa→Nat}{H I:Hp}(D:B7 (C.r γ) H I)(f:∀k,(H k).live=true→k.1=1∨(k.1=0∧k.2<C.outs)):∀(x:AV) {a:AT} {K:AV→AT→Prop},frz H x a K→∃y p,Fz I C.l (ren (C.r γ) x) (ren (C.r γ) y)∧(C.outs=0→∀r,ren r y=y)∧K y p
 |.d x,a,K,h=>⟨.d x,a,by simp only[ren];exact .keep _ rfl,fun _ r=>by simp[ren],h⟩
 |.e0,a,K,h=>⟨.d (.list []),a,by simp only[ren];exact .e0,fun _ r=>by simp[ren],h⟩
 |.agg xs,a,K,h=>by
  obtain⟨ys,p,o,O,B⟩:=Oj u D f xs h
  exact⟨.agg ys,p,by simp only[ren];exact .agg _ _ o.1 o.2,fun e r=>by simp only[ren];rw[O e r],B⟩
 |.ref k g off m,a,K,h=>by
  unfold frz at h
  split at h
  ·rename_i c hl
   have c:=Ya c
   have n:k.2<C.outs:=by
    rcases f k (CA hl).2 with o|o
    ·omega
    grind
   obtain⟨G,b⟩:=k
   simp only at c n
   subst c
   exact⟨.ref (0,b) g off m,a,by simp only[ren];exact .keep _ (G9 (u.out b n)),fun e=>by omega,h⟩
  ·rename_i _ f hl
   split at h
   case h_2=>exact h.elim
   rename_i s p
   obtain⟨⟨o,B,M,P,Q⟩,R⟩:=h
   have f:=Ya f
   obtain⟨z,A,J,w,L⟩:=D.at hl
   obtain⟨G,b⟩:=k
   simp only at f
   subst f
   refine⟨.d (.list s),p,?_,fun _ r=>by simp[ren],R⟩
   simp only[ren]
   rw[z]
   have F:(C.r γ).κ (1,b)=(C.l+1,b):=u.own b
   refine .ref _ off m s (by rw[F]) A o (by rw[w];exact B) (by rw[w];exact M) (by rw[w,L,Bx];exact P) (fun i j e d x hi S hx=>?_)
   have E:i<m:=by
    grind
   have T:j<(H (1,b)).sz:=by
    grind
   have U:=Ue M hi S
   have n:i*(H (1,b)).sz+j<m*(H (1,b)).sz:=by
    have:(i+1)*(H (1,b)).sz≤m*(H (1,b)).sz:=YP _ E
    grind
   have N:(H (1,b)).cells[(off+i)*(H (1,b)).sz+j]?=some (.d d):=by
    have:=congrArg (fun l=>l[i*(H (1,b)).sz+j]?) Q
    grind
   rw[w,L,ED,N]at hx
   simp only[YQ,ren,Yh]at hx
   subst hx
   exact .keep _ rfl
  grind
 |.top,a,K,h=>by simp only[frz]at h
 |.p v,a,K,h=>⟨.p v,a,by simp only[ren];exact .keep _ rfl,fun _ r=>by simp[ren],h⟩
 |.ptr _ _ _,a,K,h=>by simp only[frz]at h
 |.mp k g,a,K,h=>by
  unfold frz at h
  split at h
  ·rename_i c hl
   have c:=Ya c
   have n:k.2<C.outs:=by
    rcases f k (CA hl).2 with o|o
    ·omega
    grind
   obtain⟨G,b⟩:=k
   simp only at c n
   subst c
   exact⟨.mp (0,b) g,a,by simp only[ren];exact .keep _ (G9 (u.out b n)),fun e=>by omega,h⟩
  ·rename_i q s _ f hl he
   have f:=Ya f
   obtain⟨z,A,J,_,_⟩:=D.at hl
   obtain⟨G,b⟩:=k
   simp only at f
   subst f
   refine⟨.d (.map q s),a,?_,fun _ r=>by simp[ren],h⟩
   simp only[ren]
   rw[z]
   have F:(C.r γ).κ (1,b)=(C.l+1,b):=u.own b
   exact .mp _ q s (by rw[F]) A (by rw[J,he])
  grind
 |.iptr _ _,a,K,h=>by simp only[frz]at h
 |.ifc t ds q,a,K,h=>⟨.ifc t ds q,a,by simp only[ren];exact .keep _ rfl,fun _ r=>by simp[ren],h⟩
 |.fn _ _ _,a,K,h=>by simp only[frz]at h
 |.tup _,a,K,h=>by simp only[frz]at h
theorem Oj(g:CxOk C){γ:Aa→Nat}{H c:Hp}(j:B7 (C.r γ) H c)(l:∀k,(H k).live=true→k.1=1∨(k.1=0∧k.2<C.outs)):∀(xs:List AV) {a:AT} {K:List AV→AT→Prop},FM H xs a K→
  ∃ys d,((Ae (C.r γ) xs).length=(Ae (C.r γ) ys).length∧∀(i:Nat) (x y:AV),(Ae (C.r γ) xs)[i]?=some x→(Ae (C.r γ) ys)[i]?=some y→Fz c C.l x y)∧(C.outs=0→∀r,Ae r ys=ys)∧K ys d
 |[],a,K,h=>⟨[],a,⟨by simp[Ae],fun i x y hx=>by simp[Ae]at hx⟩,fun _ r=>by simp[Ae],h⟩
 |x::xs,a,K,h=>by
  simp only[FM]at h
  obtain⟨y,d,o,m,p⟩:=dn g j l x h
  obtain⟨ys,b,f,n,q⟩:=Oj g j l xs p
  refine⟨y::ys,b,⟨by simp[Ae,f.1],fun i x' s hx hy=>?_⟩,fun e r=>by simp only[Ae];rw[m e r,n e r],q⟩
  cases i with
  |zero=>simp only[Ae,YW,Yh]at hx hy;subst hx;subst hy;exact o
  |succ i=>simp only[Ae,Hd]at hx hy;exact f.2 i x' s hx hy
end
theorem dx(o:AL P T){γ:Aa→Nat}(n:RG (C.r γ) C.l C.outs [] τ σ){v:ResultVar}{K:AV→Prop}(h:Qf T τ v K):∃x,K x∧∀m (f:List AV→Prop),CE P σ m (fun xs=>f (ren (C.r γ) x::xs))→CE P σ (v::m) f:=by
 cases v with
 |tmp t=>exact⟨_,h,fun m f j=>by unfold CE;rw[(n.s t).1 AJ];exact j⟩
 |cell p t=>
  simp only[Qf]at h
  split at h
  case h_2=>exact h.elim
  rename_i k g off i w hi
  have l:σ.s p=ren (C.r γ) (.ptr k g off):=by rw[(n.s p).1 AJ,w]
  split at h
  ·rename_i hl d
   split at h
   case h_2=>exact h.elim
   rename_i c r s
   refine⟨_,h,fun m f j=>?_⟩
   have:=NY (a:=.go .nil) (g:=none) (K:=fun v _=>v=.agg c) (o _ _ hi) n.h (fun b e=>by cases e) (x:=.ptr k g off) (by simp only[HO,hl,d,r,s])
   unfold CE
   rw[l]
   refine Ou (fun y hy=>?_) this
   obtain⟨v,q,rfl,rfl⟩:=hy
   exact j
  ·rename_i hl d
   split at h
   case h_2=>exact h.elim
   rename_i c u
   refine⟨_,h,fun m f j=>?_⟩
   have:=NY (a:=.go .nil) (g:=none) (K:=fun v _=>v=c) (o _ _ hi) n.h (fun b e=>by cases e) (x:=.ptr k g off) (by simp only[HO,hl,d,u])
   unfold CE
   rw[l]
   refine Ou (fun y hy=>?_) this
   obtain⟨v,q,rfl,rfl⟩:=hy
   exact j
  grind
theorem Si(e:AL P T){γ:Aa→Nat}(d:RG (C.r γ) C.l C.outs [] τ σ):∀(b:List ResultVar) {K:List AV→Prop},PP T τ b K→∃xs,K xs∧∀a:List AV→Prop,a (Ae (C.r γ) xs)→CE P σ b a
 |[],K,h=>⟨[],h,fun a c=>by unfold CE;simpa[Ae]using c⟩
 |v::b,K,h=>by
  obtain⟨x,f,g⟩:=dx e d h
  obtain⟨xs,i,j⟩:=Si e d b f
  exact⟨x::xs,i,fun a c=>g b a (j _ (by simpa[Ae]using c))⟩
structure OutsOk (C:Cx) (γ:Aa→Nat) (bs:List Blk) (H':Hp):Prop where
 len:bs.length=C.outs
 g:∀i b,bs[i]?=some b→(H' (C.κ (0,i))).g=γ (0,i)+b.g
 live:∀i b,bs[i]?=some b→b.live=true→H' (C.κ (0,i))=An (C.r γ) (0,i) b
 o:∀k:Aa,¬C.no k→H' k=C.H0 k
theorem OK{H:Hp}:∀(n i j:Nat),(FE H n i)[j]?=if j<n then some (H (0,i+j))else none
 |0,i,j=>by simp[FE]
 |n+1,i,0=>by simp[FE]
 |n+1,i,j+1=>by
  simp only[FE,Hd,OK n (i+1) j]
  grind
theorem SY{H:Hp}:∀(n i:Nat),(FE H n i).length=n
 |0,i=>rfl
 |n+1,i=>by simp[FE,SY n]
theorem gH(l:CxOk C)(F:AL P T){o:List ResultVar}{LPost:AV→List Blk→Prop}{d:AV→Hp→Prop}{e:Exit}(J:∀γ y s q,C.G γ→LPost y s→OutsOk C γ s q→(C.outs=0→∀r,ren r y=y)→d (ren (C.r γ) y) q)
  (h:Is n C (FQ T o C.outs LPost e) σ):∃f,fins P C.l C.H0 o d e f∧Wk n C σ f:=by
 obtain⟨γ,τ,f,H,⟨z,a,A⟩,j,K⟩:=h
 refine⟨f,⟨z,?_⟩,K⟩
 obtain⟨xs,B,D⟩:=Si (P:=P) F j o A
 obtain⟨ys,L,g,w,E⟩:=Oj l j.h j.k xs B
 refine D _ ⟨ren (C.r γ) (B6 ys),?_,?_⟩
 ·have hl:=g.1
  have g:=g.2
  have v:ren (C.r γ) (B6 ys)=B6 (Ae (C.r γ) ys):=by
   match ys with
   |[]=>simp[B6,ren,Ae]
   |[y]=>simp[B6,Ae]
   |y::t::ys=>simp[B6,ren,Ae]
  rw[v]
  generalize Ae (C.r γ) ys=p at hl g
  generalize Ae (C.r γ) xs=u at hl g
  match u,p,hl with
  |[],[],_=>exact .tup _ _ rfl fun i x y hx=>by simp at hx
  |[x],[y],_=>exact g 0 x y rfl rfl
  |x::x'::u,y::t::ys,hl=>exact .tup _ _ hl g
 ·refine J γ _ _ _ H E ⟨SY _ _,fun i b hi=>?_,fun i b hi G=>?_,fun k I=>?_⟩ (fun e r=>?_)
  ·rw[OK]at hi
   split at hi
   ·rename_i c
    simp only[YL,Yh]at hi
    subst hi
    rw[show E1 C.l f.H C.H0 (C.κ (0,i))=f.H (C.κ (0,i))from Yj (l.out i c)]
    exact j.go i c
   grind
  ·rw[OK]at hi
   split at hi
   ·rename_i c
    simp only[YL,Yh]at hi
    subst hi
    rw[show E1 C.l f.H C.H0 (C.κ (0,i))=f.H (C.κ (0,i))from Yj (l.out i c)]
    exact j.h _ G
   grind
  ·unfold E1
   split
   ·rename_i m;exact j.o k m I
   ·rfl
  ·have:=w e r
   match ys with
   |[]=>simp[B6,ren,Ae]
   |[y]=>simp only[Ae,List.cons.injEq,and_true]at this;simpa[B6]using this
   |y::t::ys=>simp only[B6,ren,this]
def B4:Nat→List AV→List (Nat×AV)
 |_,[]=>[]
 |i,x::xs=>(i,x)::B4 (i+1) xs
theorem Ud{r:Ren}:∀(ys:List AV) (i j:Nat),ren r (As (B4 i ys) (i+j))=args (Ae r ys) j
 |[],i,j=>by simp[B4,As,ren,Ae,args]
 |y::ys,i,0=>by simp[B4,As,Ae,args]
 |y::ys,i,j+1=>by
  have a:=Ud (r:=r) ys (i+1) j
  simp only[B4,As]
  split
  ·rename_i h;have:=Ya h;omega
  ·rw[show i+(j+1)=i+1+j from by omega,a]
   simp[args,Ae]
theorem Ty{f:FuncId}{fn:Func}(z:List ResultVar){c:Code}{l:Nat}{xs:List AV}{H:Hp}{a:AV→Hp→Prop}{LPost:AV→List Blk→Prop}(C:Base→Cx){γ:Aa→Nat}{ys:List AV}{hs:List (Aa×Blk)}
  (O:P.funcs[f]?=some fn) (N:fn.body=some c) (g:(fn.name== "runtime.NumGoroutine")=false) (v:fn.ntmps=n) (W:fn.results.toList=z) (hx:xs.length≤n) (M:AL P T)
  (u:∀B,CxOk (C B)) (I:∀B,(C B).l=l∧(C B).B=B∧(C B).H0=H∧(C B).G γ) (x:∀B,Ae ((C B).r γ) ys=xs) (X:∀d,γ (1,d)=0) (S:∀d,Ak hs (1,d)=CW)
  (b:∀B k,(Ak hs k).live=true→k.1=0∧k.2<(C B).outs∧H ((C B).κ k)=An ((C B).r γ) k (Ak hs k)) (R:∀B i,i<(C B).outs→(H ((C B).κ (0,i))).g=γ (0,i)+(Ak hs (0,i)).g)
  (U:∀B γ y E D,(C B).G γ→LPost y E→OutsOk (C B) γ E D→((C B).outs=0→∀r,ren r y=y)→a (ren ((C B).r γ) y) D)
  (h:∀B:Base,LW P n (C B) c (Ab (B4 0 ys) hs) (FQ T z (C B).outs LPost)):Zbb P f l xs H a:=by
 refine eE z O N g v W hx fun B=>?_
 obtain⟨hl,t,s,Q⟩:=I B
 have J:RG ((C B).r γ) (C B).l (C B).outs [] (Ab (B4 0 ys) hs) ⟨args xs,BS l H⟩:=by
  refine⟨fun j=>⟨fun _=>?_,fun v=>absurd AJ v⟩,fun k m=>?_,fun d=>?_,fun i hi=>?_,fun k m=>.inr ⟨(b B k m).1,(b B k m).2.1⟩,fun k m _=>?_⟩
  ·have:=Ud (r:=(C B).r γ) ys 0 j
   rw[YL,x]at this
   exact this.symm
  ·obtain⟨p,q,F⟩:=b B k m
   show BS l H ((C B).κ k)=_
   obtain⟨Z,k2⟩:=k
   simp only at p q
   subst p
   rw[Pe (by rw[←hl];exact(u B).out _ q)]
   exact F
  ·show(BS l H ((C B).l+1,d)).g=γ (1,d)+(Ak hs (1,d)).g
   rw[hl,iC,X,S]
   rfl
  ·show(BS l H ((C B).κ (0,i))).g=γ (0,i)+(Ak hs (0,i)).g
   rw[Pe (by rw[←hl];exact(u B).out _ hi)]
   grind
  ·show BS l H k=(C B).H0 k
   rw[s]
   exact Pe (by rw[←hl];exact m)
 have:=h B γ _ Q J
 intro o w K
 rw[hl,t]at this
 refine wp_mono (this o w K) fun e G w' ⟨σ',V,L⟩=>?_
 obtain⟨A,p,q⟩:=gH (P:=P) (u B) M (U B) V
 rw[hl,s]at p
 have F:=q o w
 refine⟨A,p,?_⟩
 have Y:=q G w'
 grind
end
def Ay:List (Nat×TI)→Nat→Option TI
 |[],_=>none
 |(i,x)::r,j=>match Nat.beq i j with|true=>some x|false=>Ay r j
theorem U7{P:Program}:∀(tl:List (Nat×TI)),(∀p∈tl,TIok P p.1 p.2)→AL P (Ay tl)
 |[],_,t,i,h=>by simp[Ay]at h
 |(j,x)::r,b,t,i,h=>by
  simp only[Ay]at h
  split at h
  ·rename_i he
   have he:=Ya he
   cases h
   subst he
   exact b _ (YH ..)
  ·exact U7 r (fun p a=>b p (Yy _ a)) t i h
theorem TIok.of{P:Program}{t:TypeId}{i:TI}(g:B2 P t=some i.agg)(m:Go.Eng.kin P t=i.kin)(n:P.cellsOf t=i.siz)(o:i.elm=none∨Go.Eng.elm P t=i.elm)
  (p:((List.range i.fld.length).map fun j=>(Go.Eng.fld P t j,H3 P t j))=i.fld.map fun x=>(some (x.1,x.2.1),some x)) (q:i.zer=none∨Go.Eng.zer P t=i.zer) (r:i.eqt=none∨Ia P t=i.eqt) (s:i.str=false∨F2 P t=true)
  (u:i.ik=none∨P.underlying t=i.ik.map .int) (k:i.byt=none∨(∃b,P.bytesOf t≤b∧P.bytesOf t≠0∧i.byt=some b)) (c:i.zer=none∨(i.zer.getD []).all AV.flat=true) (d:i.mp=none∨H1 P t=i.mp:=by first|exact .inl rfl|exact .inr (by kernel_rfl)) (f:Dn P t=i.arr:=by kernel_rfl):TIok P t i where
 arr:=f
 agg:=g
 kin:=m
 siz:=n
 elm:=fun e h=>by rcases o with a|a<;>rw[h]at a<;>first|exact a|cases a
 fld:=fun j x h=>by
  have:=congrArg (fun l=>l[j]?) p
  grind
 zer:=fun e h=>by rcases q with a|a<;>rw[h]at a<;>first|exact a|cases a
 eqt:=fun e h=>by rcases r with a|a<;>rw[h]at a<;>first|exact a|cases a
 str:=fun h=>by rcases s with a|a<;>first|exact a|(rw[h]at a;cases a)
 ik:=fun e h=>by rcases u with a|a<;>rw[h]at a<;>first|exact a|cases a
 byt:=fun e h=>by
  grind
 mp:=fun z h=>by rcases d with a|a<;>rw[h]at a<;>first|exact a|cases a
 flt:=fun z h=>by rcases c with a|a<;>rw[h]at a<;>first|exact a|cases a
def MF(l:Nat)(θ:Nat→AV)(H:Hp)(B:Base):Cx:=⟨l,B,fun k=>(l+1,k.2),θ,H,0,fun _=>False,[],fun _=>True⟩
theorem SH(l:Nat)(B:Base)(θ:Nat→AV)(H:Hp):CxOk (MF l θ H B):=⟨fun _=>rfl,fun i h=>absurd h (Er _),fun i j h=>absurd h (Er _),fun _ h=>h.elim,fun _ _ _ h=>h⟩
theorem fe{l:Nat}{θ:Nat→AV}{H:Hp}{B:Base}{γ:Aa→Nat}{b:List Blk}{a:Hp}(h:OutsOk (MF l θ H B) γ b a):a=H:=funext fun k=>h.o k id
end Go.Eng
