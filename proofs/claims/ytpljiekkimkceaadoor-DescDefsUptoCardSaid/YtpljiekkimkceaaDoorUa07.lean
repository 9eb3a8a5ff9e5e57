import Derived.Test.YtpljiekkimkceaaDoorUa06
import Derived.Test.YtpljiekkimkceaaDoorUa00
namespace Go.Eng
set_option linter.all false
open Go Go.RowKit
section
variable {P:Program} {T:Nat→Option TI} {n:Nat} {C:Cx} {τ σ:St} {Q:Exit→St→Prop}
theorem Wk.refl(σ:St):Wk n C σ σ:=fun _ _ h=>h
theorem Wk.trans{σ c b:St}(h:Wk n C σ c)(k:Wk n C c b):Wk n C σ b:=fun a w d=>k a w (h a w d)
theorem R.weaken{l:Nat}{B:Base}{s s':Nat→AV}{H:Hp}{a:Act}{w:World}(h:R l n B ⟨s,H⟩ a w)(hs:∀j,s' j=s j∨s' j=.top):R l n B ⟨s',H⟩ a w:=by
 obtain⟨m,S,d,g,b,f,c⟩:=h.un
 refine⟨m,S,d,g,b,fun i=>?_,c⟩
 show RepA w S H m (l+1) (s' i) _
 rcases hs i with e|e
 ·rw[e];exact f i
 ·rw[e];exact .top _
theorem Is.mono{Φ Ψ:St→Prop}(h:Is n C Φ σ)(e:∀τ,Φ τ→Ψ τ):Is n C Ψ σ:=by
 obtain⟨γ,τ,f,a,b,c,d⟩:=h;exact⟨γ,τ,f,a,e _ b,c,d⟩
theorem AI.weak{c:Code}{QQ:Exit→St→Prop}{b:St}(h:AI P C.l n C.B c QQ b)(e:Wk n C σ b):AI P C.l n C.B c QQ σ:=fun a w d=>h a w (e a w d)
theorem Ir.weak{c:Code}{QQ:Exit→St→Prop}{b:St}(h:Ir P C.l n C.B c QQ b)(e:Wk n C σ b):Ir P C.l n C.B c QQ σ:=fun a w d=>h a w (e a w d)
theorem LW.mono{c:Code}{a:Exit→St→Prop}(h:LW P n C c τ Q)(f:∀e τ,Q e τ→a e τ):LW P n C c τ a:=fun γ σ d b=>Dn (h γ σ d b) fun e g hi=>hi.mono (f e)
theorem UN{x y:Code}(h:LW P n C x τ (fun e τ'=>match e with|.normal=>LW P n C y τ' Q|e=>Q e τ')):LW P n C (.seq x y) τ Q:=by
 intro γ σ i g
 refine Kp (Dn (h γ σ i g) fun e k hi=>?_)
 cases e with
 |normal=>
  obtain⟨j,τ',a,b,c,d,f⟩:=hi
  exact AI.weak (c j a b d) f
 |_=>exact hi
theorem S4{id:Nat}{c:Code}(h:LW P n C c τ (fun e τ'=>match e with|.exit i=>if i=id then Q .normal τ' else Q (.exit i) τ'|e=>Q e τ')):LW P n C (.block id c) τ Q:=by
 intro γ σ b a
 refine M0 (Dn (h γ σ b a) fun e d hi=>?_)
 cases e with
 |exit i=>
  unfold Ic
  simp only at hi⊢
  split
  ·rename_i he;exact hi.mono fun τ' h=>by rw[Yt he]at h;exact h
  ·rename_i he;exact hi.mono fun τ' h=>by rw[Yy he]at h;exact h
 |_=>exact hi
theorem T1{c:Operand}{x y:Code}{b:Bool}(h:ev τ.s c=.d (.bool b))(f:b=true→LW P n C x τ Q)(g:b=false→LW P n C y τ Q):LW P n C (.cond c x y) τ Q:=by
 intro γ σ d a
 have he:ev σ.s c=.d (.bool b):=by
  rw[Eu (c:=[]) a Au (by cases c<;>rfl),h];simp[ren]
 exact Gt he (fun e=>f e γ σ d a) (fun e=>g e γ σ d a)
theorem Ue{c:Code}(h:LL P n C c τ Q):LW P n C (.loop c) τ Q:=by
 intro γ σ l i a w j b k cs
 obtain⟨e,d,w',f,g⟩:=h γ σ l i a w j b k cs
 exact⟨e,d,w',f,.of_steps (.one step_loop) g⟩
theorem Ti{c:Code}(h:LW P n C c τ (fun e τ'=>match e with|.normal=>LL P n C c τ' Q|e=>Q e τ')):LL P n C c τ Q:=by
 intro γ σ A y a w z b k cs
 obtain⟨e,i,l,⟨m,j,f⟩,d⟩:=h γ σ A y a w z b (.inLoop c::k) cs
 cases e with
 |normal=>
  obtain⟨D,τ',p,s,t,u,v⟩:=j
  obtain⟨r,q,B,o,g⟩:=t D p s u i l (v _ _ f) b k cs
  exact⟨r,q,B,o,.of_steps (Steps.trans d (.one step_inLoop)) g⟩
 |exit id=>exact⟨_,i,l,⟨m,j,f⟩,.pass (x:=.inLoop c) rfl (fun _ _=>.inl (by simp)) d⟩
 |goto id=>exact⟨_,i,l,⟨m,j,f⟩,.pass (x:=.inLoop c) rfl (fun _ _=>.inl (by simp)) d⟩
 |ret=>exact⟨_,i,l,⟨m,j,f⟩,.pass (x:=.inLoop c) rfl (fun _ _=>.inl (by simp)) d⟩
 |panic ch=>exact⟨_,i,l,⟨m,j,f⟩,.pass (x:=.inLoop c) rfl (fun _ _=>.inl (by simp)) d⟩
 |outgrown=>exact⟨_,i,l,⟨m,j,f⟩,.pass (x:=.inLoop c) rfl (fun _ _=>.inl (by simp)) d⟩
theorem Is.of{γ:Aa→Nat}{Φ:St→Prop}(b:C.G γ)(a:RG (C.r γ) C.l C.outs [] τ σ)(h:Φ τ):Is n C Φ σ:=⟨γ,τ,σ,b,h,a,Wk.refl σ⟩
theorem A1{a b:Aa}:AJ a b=true↔a=b:=by
 obtain⟨a1,c⟩:=a
 obtain⟨d,e⟩:=b
 simp[AJ]
theorem M1{H:Hp}{s:Nat→AV}:∀(ls:List Nat) (j:Nat),AB (E2 H s ls) j=LD H (s j)∨AB (E2 H s ls) j=.top
 |[],j=>.inr rfl
 |i::r,j=>by
  simp only[E2,AB]
  split
  ·rename_i h;rw[Ya h];exact .inl rfl
  ·exact M1 r j
def rebase(γ:Aa→Nat)(H:Hp):Aa→Nat:=fun k=>γ k+(H k).g
mutual
theorem N9{γ:Aa→Nat}{H:Hp}:∀{x y:AV},BS H x=some y→ren (C.r (rebase γ H)) y=ren (C.r γ) x
 |.ref k g off m,y,h=>by
  simp only[BS]at h
  split at h
  ·rename_i hl;cases h;obtain⟨b,_⟩:=BV hl;subst b;simp[ren,Cx.r,rebase]
  ·cases h
 |.ptr k g off,y,h=>by
  simp only[BS]at h
  split at h
  ·rename_i hl;cases h;obtain⟨b,_⟩:=BV hl;subst b;simp[ren,Cx.r,rebase]
  ·cases h
 |.mp k g,y,h=>by
  simp only[BS]at h
  split at h
  ·rename_i hl;cases h;obtain⟨b,_⟩:=BV hl;subst b;simp[ren,Cx.r,rebase]
  ·cases h
 |.fn f xs ys,y,h=>by
  simp only[BS]at h
  split at h
  ·rename_i xs' i b e
   cases h
   have c:=Fc (γ:=γ) b
   have d:=Fc (γ:=γ) e
   cases f<;>simp only[ren,c,d]<;>rfl
  ·cases h
 |.agg xs,y,h=>by
  simp only[BS]at h
  split at h
  ·rename_i xs' b;cases h;simp only[ren,Fc (γ:=γ) b]
  ·cases h
 |.tup xs,y,h=>by
  simp only[BS]at h
  split at h
  ·rename_i xs' b;cases h;simp only[ren,Fc (γ:=γ) b]
  ·cases h
 |.top,y,h=>by simp only[BS]at h;cases h;simp[ren]
 |.d x,y,h=>by simp only[BS]at h;cases h;simp[ren]
 |.e0,y,h=>by simp only[BS]at h;cases h;simp[ren]
 |.p x,y,h=>by simp only[BS]at h;cases h;simp[ren]
 |.iptr cs off,y,h=>by simp only[BS]at h;cases h;simp[ren]
 |.ifc t ds a,y,h=>by simp only[BS]at h;cases h;simp[ren]
theorem Fc{γ:Aa→Nat}{H:Hp}:∀{xs ys:List AV},Dy H xs=some ys→Ab (C.r (rebase γ H)) ys=Ab (C.r γ) xs
 |[],ys,h=>by simp only[Dy]at h;cases h;simp[Ab]
 |x::xs,ys,h=>by
  simp only[Dy]at h
  split at h
  ·rename_i x' xs' a b;cases h;simp only[Ab,N9 (γ:=γ) a,Fc (γ:=γ) b]
  ·cases h
end
def Hg(C:Cx)(γ:Aa→Nat)(H:Hp)(hs:List (Aa×Blk)):Prop:=
 (∀k,(Ae hs k).g=0)∧∀k,(Ae hs k).live=true→(H k).live=true∧(Ae hs k).e=(H k).e∧(Ae hs k).sz=(H k).sz∧Ab (C.r (rebase γ H)) (Ae hs k).cells=Ab (C.r γ) (H k).cells
theorem Ep{r:Ren}{cs:List AV}(h:Dr cs):Ab r cs=cs:=Er (Yo.2 h)
theorem Hg.cons{γ:Aa→Nat}{H:Hp}{hs:List (Aa×Blk)}(h:Hg C γ H hs){k:Aa}{cs:List AV}(hl:(H k).live=true)(b:Ab (C.r (rebase γ H)) cs=Ab (C.r γ) (H k).cells):Hg C γ H ((k,⟨0,true,(H k).e,(H k).sz,cs⟩)::hs):=by
 refine⟨fun q=>?_,fun q a=>?_⟩
 ·simp only[Ae]
  split
  ·rfl
  ·exact h.1 q
 ·simp only[Ae]at a⊢
  split at a
  ·rename_i he
   have he:=A1.1 he
   grind
  ·exact h.2 q a
theorem HR{γ:Aa→Nat}{H:Hp}:∀(ks:List (Aa×Bool)) {K:List (Aa×Blk)→Prop},Fg H ks K→∃hs,K hs∧Hg C γ H hs
 |[],K,h=>⟨[],h,fun k=>rfl,fun k d=>by simp[Ae,Ck]at d⟩
 |(k,fl)::r,K,h=>by
  simp only[Fg]at h
  split at h
  ·exact HR r h
  ·rename_i hl
   split at h
   ·obtain⟨hs,a,b⟩:=HR (γ:=γ) r h.2
    exact⟨_,a,b.cons hl (by rw[Ep h.1,Ep h.1])⟩
   ·split at h
    ·rename_i cs c
     obtain⟨hs,a,b⟩:=HR (γ:=γ) r h
     exact⟨_,a,b.cons hl (Fc c)⟩
    grind
theorem Pt{H:Hp}:∀{fx:List Nat},gz H fx=true→∀i∈fx,(H (0,i)).g=0
 |i::r,h,j,a=>by
  simp only[gz,Ye]at h
  rcases YG.1 a with rfl|a
  ·exact Ya h.1
  ·exact Pt h.2 j a
theorem KS{x:AV}(h:IK x=true):x=.e0:=by cases x<;>first|rfl|cases h
theorem J6(c:CxOk C){Φ:St→Prop}{γ:Aa→Nat}:∀(ad:List (Nat×Nat×TypeId×Nat)) (τ σ:St),GE ad τ Φ→RG (C.r γ) C.l C.outs [] τ σ→∃τ' f,Φ τ'∧RG (C.r γ) C.l C.outs [] τ' f∧Wk n C σ f
 |[],τ,σ,h,b=>⟨τ,σ,h,b,Wk.refl σ⟩
 |(j,d,e,sz)::r,τ,σ,h,b=>by
  simp only[GE]at h
  split at h
  ·rename_i he hl
   have k:σ.s j=.e0:=by rw[(b.s j).1 Au,KS he];simp[ren]
   have o:=b.put (e:=j) (ch:=[]) rfl rfl (v:=.ref (1,d) ((τ.H (1,d)).g+1) 0 0) (y:=.ref (C.l+1,d) ((σ.H (C.l+1,d)).g+1) 0 0) (fun _=>by rw[b.g];simp only[ren];rw[show(C.r γ).κ (1,d)=(C.l+1,d)from c.own d,Yr]) (fun g=>absurd Au g)
   have a:=RG.updH (c.ren γ) o (1,d) ⟨(τ.H (1,d)).g+1,true,e,sz,[]⟩ rfl (.inl rfl)
   have m:Ah (C.r γ) (1,d) ⟨(τ.H (1,d)).g+1,true,e,sz,[]⟩=⟨(σ.H (C.l+1,d)).g+1,true,e,sz,[]⟩:=by
    simp only[Ah,b.g,Ab,Yr]
   rw[m,show(C.r γ).κ (1,d)=(C.l+1,d)from c.own d]at a
   have p:RG (C.r γ) C.l C.outs [] ⟨upd τ.s j (.ref (1,d) ((τ.H (1,d)).g+1) 0 0),updH τ.H (1,d) ⟨(τ.H (1,d)).g+1,true,e,sz,[]⟩⟩ ⟨upd σ.s j (.ref (C.l+1,d) ((σ.H (C.l+1,d)).g+1) 0 0),updH σ.H (C.l+1,d) ⟨(σ.H (C.l+1,d)).g+1,true,e,sz,[]⟩⟩:=
    ⟨fun i=>⟨fun _=>(a.s i).1 (by rw[KV];split<;>exact Au),fun g=>absurd Au g⟩,a.h,a.g,a.go,a.k,a.o⟩
   obtain⟨τ',f,t,u,x⟩:=J6 c r _ _ h p
   refine⟨τ',f,t,u,Wk.trans (fun l w q=>?_) x⟩
   obtain⟨s,H⟩:=σ
   exact R.adopt (e:=e) (sz:=sz) q (C.l+1,d) rfl _ (YV _) k
  ·grind
  ·exact J6 c r τ σ h b
theorem Kz{γ:Aa→Nat}:∀(ze:List Nat) (τ σ:St),RG (C.r γ) C.l C.outs [] τ σ→∃f,RG (C.r γ) C.l C.outs [] (F3 ze τ) f∧Wk n C σ f
 |[],τ,σ,b=>⟨σ,b,Wk.refl σ⟩
 |j::r,τ,σ,b=>by
  simp only[F3]
  split
  ·rename_i he
   have d:σ.s j=.e0:=by rw[(b.s j).1 Au,KS he];simp[ren]
   have a:=b.put (e:=j) (ch:=[]) rfl rfl (v:=.d (.list [])) (y:=.d (.list [])) (fun _=>by simp[ren]) (fun c=>absurd Au c)
   have o:RG (C.r γ) C.l C.outs [] ⟨upd τ.s j (.d (.list [])),τ.H⟩ ⟨upd σ.s j (.d (.list [])),σ.H⟩:=
    ⟨fun i=>⟨fun _=>(a.s i).1 (by rw[KV];split<;>exact Au),fun c=>absurd Au c⟩,a.h,a.g,a.go,a.k,a.o⟩
   obtain⟨f,t,u⟩:=Kz r _ _ o
   refine⟨f,t,Wk.trans (fun l w q=>?_) u⟩
   obtain⟨s,H⟩:=σ
   obtain⟨m,S,p,c,g,k,h⟩:=q.un
   refine⟨m,S,p,c,g,fun i=>?_,h⟩
   show RepA w S H m (C.l+1) (upd s j (.d (.list [])) i) _
   unfold upd
   by_cases hi:i=j
   ·subst hi
    rw[Yt rfl]
    have:=k i
    simp only at d
    rw[d]at this
    exact this.e0_d
   ·rw[Yy hi];exact k i
  ·exact Kz r τ σ b
theorem Gn(t:CxOk C){Φ:St→Prop}{γ:Aa→Nat}{f:Lf}(h:Fw C.fx f τ Φ)(F:C.G γ)(D:RG (C.r γ) C.l C.outs [] τ σ):Is n C Φ σ:=by
 obtain⟨K,o,r⟩:=Kz (n:=n) f.ze τ σ D
 obtain⟨a,g,l,b,m⟩:=J6 (n:=n) t f.ad (F3 f.ze τ) K h o
 replace m:=Wk.trans r m
 split at l
 case h_2=>exact l.elim
 rename_i p
 obtain⟨hs,J,c⟩:=HR (C:=C) (γ:=γ) f.ks l
 refine⟨rebase γ a.H,_,⟨fun j=>ren (C.r (rebase γ a.H)) (AB (E2 a.H a.s f.ls) j),g.H⟩,t.G γ _ (fun i hi=>by unfold rebase;rw[Pt p i hi];rfl) F,J,⟨fun j=>⟨fun _=>rfl,fun G=>absurd Au G⟩,fun k q=>?_,fun d=>?_,fun i hi=>?_,fun k q=>?_,b.o⟩,m.trans fun u w E=>?_⟩
 ·obtain⟨x,z,A,B⟩:=c.2 k q
  have y:=c.1 k
  show g.H (C.κ k)=_
  have:=b.h k x
  rw[show(C.r γ).κ k=C.κ k from rfl]at this
  rw[this]
  simp only[Ah]
  show _=Blk.mk (rebase γ a.H k+(Ae hs k).g) true (Ae hs k).e (Ae hs k).sz (Ab (C.r (rebase γ a.H)) (Ae hs k).cells)
  rw[y,z,A,B]
  rfl
 ·show(g.H (C.l+1,d)).g=rebase γ a.H (1,d)+(Ae hs (1,d)).g
  have e0:(Ae hs (1,d)).g=0:=c.1 _
  rw[e0,b.g]
  rfl
 ·show(g.H (C.κ (0,i))).g=rebase γ a.H (0,i)+(Ae hs (0,i)).g
  have e0:(Ae hs (0,i)).g=0:=c.1 _
  rw[e0]
  exact b.go i hi
 ·exact b.k k (c.2 k q).1
 ·obtain⟨s,H⟩:=g
  refine R.weaken E fun j=>?_
  rcases M1 (H:=a.H) (s:=a.s) f.ls j with e|e
  ·simp only[e]
   unfold LD
   split
   ·rename_i v I
    left
    rw[N9 (γ:=γ) I]
    exact((b.s j).1 Au).symm
   ·right;simp[ren]
  ·right;simp only[e];simp[ren]
end
end Go.Eng
namespace Go.Eng
set_option linter.all false
open Go Go.RowKit
def KF(T:Nat→Option TI)(c:List ResultVar)(os:Nat)(b:AV→List Blk→Prop):Exit→St→AT→Prop
 |.normal,τ,a=>Iz T c os τ a b
 |.ret,τ,a=>Iz T c os τ a b
 |_,_,_=>False
def KB(T:Nat→Option TI)(d:List ResultVar)(os:Nat)(fx:List Nat)(r:Ren)(b:AV→List Blk→Prop)(lf c:Lf)(Q:Exit→St→Prop):Exit→St→AT→Prop
 |.ret,τ,a=>Iz T d os τ a b
 |.normal,τ,a=>AN r os a τ (fun τ _=>Fw fx lf τ (Q .normal))
 |.exit i,τ,a=>AN r os a τ (fun τ _=>Fw fx c τ (Q (.exit i)))
 |_,_,_=>False
section
variable {P:Program} {T:Nat→Option TI} {n:Nat} {C:Cx} {τ σ:St} {Q:Exit→St→Prop}
theorem HW{l:Nat}{ds:List (Option Nat)}:∀(ops:List Oper) {K c:St→Prop} {σ:St},(∀σ,K σ→c σ)→BQ P l n ds ops K σ→BQ P l n ds ops c σ
 |[],K,c,σ,b,h=>b _ h
 |o::a,K,c,σ,b,h=>by
  unfold BQ at h⊢
  split at h
  ·exact HT (fun σ h=>HW a b h) h
  ·split at h
   ·refine⟨fun e=>HT (fun σ h=>HW a b h) (h.1 e),fun e=>?_⟩
    have d:=h.2 e
    split at d
    ·exact⟨d.1,HW a b d.2⟩
    grind
   grind
theorem R6{γ:Aa→Nat}{a:AW}(h:RG (C.r γ) C.l C.outs a τ σ):∃b,RG (C.r γ) C.l C.outs [] (D4 a τ) b∧Wk n C σ b:=by
 refine⟨⟨fun j=>ren (C.r γ) ((D4 a τ).s j),σ.H⟩,⟨fun j=>⟨fun _=>rfl,fun e=>absurd Au e⟩,h.h,h.g,h.go,h.k,h.o⟩,fun c w d=>?_⟩
 obtain⟨s,H⟩:=σ
 refine R.weaken d fun j=>?_
 simp only[D4]
 split
 ·rename_i he
  left
  exact((h.s j).1 (by rw[he];exact Au)).symm
 ·right;simp[ren]
def Ll(n:Nat)(C:Cx)(γ:Aa→Nat)(K:Exit→St→AT→Prop)(e:Exit)(σ:St):Prop:=∃τ a b,K e τ a∧RG (C.r γ) C.l C.outs [] τ b∧Wk n C σ b
theorem MY{r:Ren}{H a:Hp}(i:RenOk r C.l C.outs)(m:BF r H a){d:Nat}{s s':Nat→AV}(hs:∀j,s' j=ren r (s j)){A:Prop}:∀{l:List (Nat×List (List D))},IW H d s A l→A∧∀p∈l,∃off c,s' p.1=.ref (C.l+1,d) (a (C.l+1,d)).g off c∧
  p.2.length=c∧(∀e∈p.2,e.length=(a (C.l+1,d)).sz)∧(off+c)*(a (C.l+1,d)).sz≤(a (C.l+1,d)).cells.length∧((a (C.l+1,d)).cells.drop (off*(a (C.l+1,d)).sz)).take (c*(a (C.l+1,d)).sz)=p.2.flatten.map .d
 |[],h=>⟨h,fun p b=>by cases b⟩
 |(j,es)::l,h=>by
  simp only[IW]at h
  split at h
  case h_2=>exact h.elim
  rename_i k q off c t
  split at h
  case h_2=>exact h.elim
  rename_i g hl
  have g:=A1.1 g
  subst g
  obtain⟨⟨f1,f2,f3,f4,f5⟩,h⟩:=h
  obtain⟨o,u⟩:=MY i m hs h
  obtain⟨g1,n,g3,g4,f⟩:=m.at hl
  rw[i.own]at g1 n g3 g4 f
  refine⟨o,fun p b=>?_⟩
  rcases YG.1 b with rfl|b
  ·refine⟨off,c,by rw[hs,t];simp[ren,i.own,g1],f1,by rw[g4];exact f3,by rw[g4,f,Bc];exact f4,?_⟩
   rw[g4,f,Ce,Co,f5,DN]
  grind
theorem M2{r:Ren}{H a:Hp}(o:RenOk r C.l C.outs)(l:BF r H a){d:Nat}{A:Prop}:∀{cs:List (Aa×Nat×List (List D))},IN H d A cs→A∧∀p∈cs,p.1.1=1∧p.1≠(1,d)∧(H p.1).live=true∧∃off c,(a (r.κ p.1)).cells[p.2.1]?=some (.ref (C.l+1,d) (a (C.l+1,d)).g off c)∧
  p.2.2.length=c∧(∀e∈p.2.2,e.length=(a (C.l+1,d)).sz)∧(off+c)*(a (C.l+1,d)).sz≤(a (C.l+1,d)).cells.length∧((a (C.l+1,d)).cells.drop (off*(a (C.l+1,d)).sz)).take (c*(a (C.l+1,d)).sz)=p.2.2.flatten.map .d
 |[],h=>⟨h,fun p g=>by cases g⟩
 |(k,i,es)::cs,h=>by
  simp only[IN]at h
  split at h
  case h_2=>exact h.elim
  rename_i k' q off c w f b s
  split at h
  case h_2=>exact h.elim
  rename_i m hl
  have m:=A1.1 m
  subst m
  obtain⟨⟨f1,f2,f3,f4,f5⟩,h⟩:=h
  obtain⟨u,x⟩:=M2 o l h
  obtain⟨g1,t,g3,g4,j⟩:=l.at hl
  rw[o.own]at g1 t g3 g4 j
  refine⟨u,fun p g=>?_⟩
  rcases YG.1 g with rfl|g
  ·have v:=l k b
   have n:k≠(1,d):=fun e=>by rw[A1.2 e]at f;cases f
   refine⟨Ya w,n,b,off,c,?_,f1,by rw[g4];exact f3,by rw[g4,j,Bc];exact f4,?_⟩
   ·rw[v]
    simp only[Ah,Dl]
    rw[B1]at s
    rw[s]
    simp[ren,o.own,g1]
   ·rw[g4,j,Ce,Co,f5,DN]
  grind
theorem NW{r:Ren}:∀(b:List (Nat×List (List D))) {s s':Nat→AV},(∀j,s' j=ren r (s j))→∀j,D7 b s' j=ren r (D7 b s j)
 |[],s,s',h,j=>h j
 |(i,es)::b,s,s',h,j=>NW b (s:=upd s i (.d (.list es))) (s':=upd s' i (.d (.list es))) (fun q=>by
   simp only[upd]
   by_cases a:q=i
   ·rw[Yt a,Yt a];simp[ren]
   ·rw[Yy a,Yy a];exact h q) j
theorem HY{r:Ren}(xs:List AV)(i:Nat)(x:AV):(Ab r xs).set i (ren r x)=Ab r (xs.set i x):=by rw[CD,CD,List.map_set]
theorem N6{γ:Aa→Nat}(c:CxOk C):∀(cs:List (Aa×Nat×List (List D))) {τ σ:St},(∀p∈cs,p.1.1=1∧(τ.H p.1).live=true)→RG (C.r γ) C.l C.outs [] τ σ→
  RG (C.r γ) C.l C.outs [] ⟨τ.s,Dv cs τ.H⟩ ⟨σ.s,Dv (cs.map fun p=>((C.r γ).κ p.1,p.2)) σ.H⟩
 |[],τ,σ,_,h=>h
 |(k,i,es)::cs,τ,σ,d,h=>by
  obtain⟨g,a⟩:=d _ (YC ..)
  have j:=h.h k a
  have b:=RG.updH (c.ren γ) h k ⟨(τ.H k).g,true,(τ.H k).e,(τ.H k).sz,(τ.H k).cells.set i (.d (.list es))⟩ rfl (.inl g)
  have e:Ah (C.r γ) k ⟨(τ.H k).g,true,(τ.H k).e,(τ.H k).sz,(τ.H k).cells.set i (.d (.list es))⟩=⟨(σ.H ((C.r γ).κ k)).g,(σ.H ((C.r γ).κ k)).live,(σ.H ((C.r γ).κ k)).e,(σ.H ((C.r γ).κ k)).sz,(σ.H ((C.r γ).κ k)).cells.set i (.d (.list es))⟩:=by
   rw[j]
   simp only[Ah]
   rw[←HY]
   simp[ren]
  rw[e]at b
  have f:(⟨(τ.H k).g,true,(τ.H k).e,(τ.H k).sz,(τ.H k).cells.set i (.d (.list es))⟩:Blk)=⟨(τ.H k).g,(τ.H k).live,(τ.H k).e,(τ.H k).sz,(τ.H k).cells.set i (.d (.list es))⟩:=by rw[a]
  rw[f]at b
  have:=N6 c cs (fun p l=>by
   obtain⟨m,n⟩:=d p (Yw _ l)
   refine⟨m,?_⟩
   show(updH τ.H k _ p.1).live=true
   unfold updH
   split
   ·exact a
   ·exact n) b
  exact this
theorem J9{r:Ren}{cs:List AV}(h:CC cs):CC (Ab r cs):=fun x a=>by
 rw[CD]at a
 obtain⟨y,hy,rfl⟩:=YD.1 a
 have:=h y hy
 cases y with
 |d d=>simp[ren]
 |_=>cases this
theorem OE{H:Hp}{d:Nat}{s:Nat→AV}:∀{b:List Nat},I0 H d s b=true→∀j∈b,∃g,s j=.mp (1,d) g∧AL H (1,d) g=true
 |[],_,j,a=>by cases a
 |i::r,h,j,a=>by
  simp only[I0]at h
  split at h
  ·rename_i k g he
   simp only[Ye]at h
   have c:=A1.1 h.1.1
   subst c
   rcases YG.1 a with rfl|a
   ·grind
   ·exact OE h.2 j a
  ·cases h
theorem OJ{H:Hp}{d:Nat}{s:Nat→AV}:∀{b:List Nat},I3 H d s b=true→∀j∈b,∃g,s j=.ptr (1,d) g 0∧AL H (1,d) g=true
 |[],_,j,a=>by cases a
 |i::r,h,j,a=>by
  simp only[I3]at h
  split at h
  ·rename_i k g he
   simp only[Ye]at h
   have c:=A1.1 h.1.1
   subst c
   rcases YG.1 a with rfl|a
   ·grind
   ·exact OJ h.2 j a
  ·cases h
theorem Bx(I:CxOk C){γ:Aa→Nat}:∀(a:AT) {τ σ:St} {K:St→AT→Prop},AN (C.r γ) C.outs a τ K→RG (C.r γ) C.l C.outs [] τ σ→∃τ' G F,K τ' G∧RG (C.r γ) C.l C.outs [] τ' F∧Wk n C σ F
 |.frz d V cs b,τ,σ,K,h,f=>by
  have l:=I.ren γ
  have hs:∀j,σ.s j=ren (C.r γ) (τ.s j):=fun j=>(f.s j).1 Au
  simp only[AN]at h
  split at h
  case h_2=>exact h.elim
  rename_i hl hz
  have hz:=Yf hz
  obtain⟨h,hjs⟩:=MY l f.h hs h
  obtain⟨h,hcs⟩:=M2 l f.h h
  have t:=f.h _ hl
  rw[l.own]at t
  have z:(σ.H (C.l+1,d)).live=true:=by rw[t];rfl
  have U:(σ.H (C.l+1,d)).sz=(τ.H (1,d)).sz:=by rw[t];rfl
  have o:(σ.H (C.l+1,d)).g=(C.r γ).γ (1,d)+(τ.H (1,d)).g:=by rw[t];rfl
  have u:=RG.updK l f (1,d) ⟨(τ.H (1,d)).g,false,(τ.H (1,d)).e,(τ.H (1,d)).sz,(τ.H (1,d)).cells⟩ {σ.H (C.l+1,d)with live:=false } (fun e=>by cases e) o (.inl rfl)
  rw[l.own]at u
  have A:=N6 I cs (fun p hp=>by
   obtain⟨q1,q2,q3,_⟩:=hcs p hp
   refine⟨q1,?_⟩
   show(updH τ.H (1,d) _ p.1).live=true
   rw[Af _ _ q2]
   exact q3) u
  have Q:RG (C.r γ) C.l C.outs [] ⟨D7 V τ.s,Dv cs (updH τ.H (1,d) ⟨(τ.H (1,d)).g,false,(τ.H (1,d)).e,(τ.H (1,d)).sz,(τ.H (1,d)).cells⟩)⟩
    ⟨D7 V σ.s,Dv (cs.map fun p=>((C.r γ).κ p.1,p.2)) (updH σ.H (C.l+1,d) {σ.H (C.l+1,d)with live:=false })⟩:=
   ⟨fun j=>⟨fun _=>NW V hs j,fun T=>absurd Au T⟩,A.h,A.g,A.go,A.k,A.o⟩
  obtain⟨τ',G,F,N,v,O⟩:=Bx I b h Q
  refine⟨τ',G,F,N,v,Wk.trans (fun L w M=>?_) O⟩
  obtain⟨s,H⟩:=σ
  refine R.freeze M (k:=(C.l+1,d)) (Yc _) z (by rw[U];omega) V (cs.map fun p=>((C.r γ).κ p.1,p.2)) hjs (fun p hp=>?_)
  obtain⟨pp,hpp,rfl⟩:=YD.1 hp
  obtain⟨q1,q2,q3,q4⟩:=hcs pp hpp
  obtain⟨⟨p1,p2⟩,p3⟩:=pp
  simp only at q1 q2 q3 q4
  subst q1
  have hlv:(H ((C.r γ).κ (1,p2))).live=true:=by have:=f.h _ q3;simp only at this;rw[this];rfl
  exact⟨by simp only;rw[l.own];intro e;simp at e;exact q2 (by rw[e]),by simp only;rw[l.own];exact Yc _,hlv,q4⟩
 |.adc k i d e sz b,τ,σ,K,h,f=>by
  have l:=I.ren γ
  simp only[AN]at h
  split at h
  case h_2=>exact h.elim
  rename_i P hne hlv E
  have P:=Ya P
  have hne:k≠(1,d):=fun e=>by rw[A1.2 e]at hne;cases hne
  obtain⟨N,v⟩:=k
  simp only at P
  subst P
  have t:=f.h _ hlv
  have u:=RG.updH l f (1,d) ⟨(τ.H (1,d)).g+1,true,e,sz,[]⟩ rfl (.inl rfl)
  have A:=RG.updH l u (1,v) ⟨(τ.H (1,v)).g,true,(τ.H (1,v)).e,(τ.H (1,v)).sz,(τ.H (1,v)).cells.set i (.ref (1,d) ((τ.H (1,d)).g+1) 0 0)⟩ rfl (.inl rfl)
  have e1:Ah (C.r γ) (1,d) ⟨(τ.H (1,d)).g+1,true,e,sz,[]⟩=⟨(σ.H (C.l+1,d)).g+1,true,e,sz,[]⟩:=by simp only[Ah,f.g,Ab,Yr]
  have e2:Ah (C.r γ) (1,v) ⟨(τ.H (1,v)).g,true,(τ.H (1,v)).e,(τ.H (1,v)).sz,(τ.H (1,v)).cells.set i (.ref (1,d) ((τ.H (1,d)).g+1) 0 0)⟩=
    ⟨(σ.H (C.l+1,v)).g,(σ.H (C.l+1,v)).live,(σ.H (C.l+1,v)).e,(σ.H (C.l+1,v)).sz,(σ.H (C.l+1,v)).cells.set i (.ref (C.l+1,d) ((σ.H (C.l+1,d)).g+1) 0 0)⟩:=by
   rw[l.own]at t
   rw[t]
   simp only[Ah]
   rw[←HY]
   simp[ren,l.own,f.g,Yr]
  rw[e1,e2,l.own,l.own]at A
  obtain⟨τ',G,F,j1,j2,j3⟩:=Bx I b h A
  refine⟨τ',G,F,j1,j2,Wk.trans (fun L w M=>?_) j3⟩
  obtain⟨s,H⟩:=σ
  rw[B1]at E
  exact R.adoptC M (k:=(C.l+1,d)) (kp:=(C.l+1,v)) rfl rfl (fun e=>by simp at e;exact hne (by rw[e])) (by rw[l.own]at t;simp only at t;rw[t];rfl) (by rw[l.own]at t;simp only at t;rw[t];simp only[Ah,Dl,E];simp[ren])
 |.ads j d e sz b,τ,σ,K,h,f=>by
  have l:=I.ren γ
  simp only[AN]at h
  split at h
  case h_2=>exact h.elim
  rename_i he
  have hsj:σ.s j=.e0:=by rw[(f.s j).1 Au,KS he];simp[ren]
  have u:=RG.updH l f (1,d) ⟨(τ.H (1,d)).g+1,true,e,sz,[]⟩ rfl (.inl rfl)
  have e1:Ah (C.r γ) (1,d) ⟨(τ.H (1,d)).g+1,true,e,sz,[]⟩=⟨(σ.H (C.l+1,d)).g+1,true,e,sz,[]⟩:=by simp only[Ah,f.g,Ab,Yr]
  rw[e1,l.own]at u
  have Q:RG (C.r γ) C.l C.outs [] ⟨upd τ.s j (.ref (1,d) ((τ.H (1,d)).g+1) 0 0),updH τ.H (1,d) ⟨(τ.H (1,d)).g+1,true,e,sz,[]⟩⟩ ⟨upd σ.s j (.ref (C.l+1,d) ((σ.H (C.l+1,d)).g+1) 0 0),updH σ.H (C.l+1,d) ⟨(σ.H (C.l+1,d)).g+1,true,e,sz,[]⟩⟩:=
   ⟨fun i=>⟨fun _=>by
    simp only[upd]
    by_cases hi:i=j
    ·rw[Yt hi,Yt hi];simp[ren,l.own,f.g,Yr]
    ·rw[Yy hi,Yy hi];exact(f.s i).1 Au,fun T=>absurd Au T⟩,u.h,u.g,u.go,u.k,u.o⟩
  obtain⟨τ',G,F,N,v,O⟩:=Bx I b h Q
  refine⟨τ',G,F,N,v,Wk.trans (fun L w M=>?_) O⟩
  obtain⟨s,H⟩:=σ
  exact R.adopt (e:=e) (sz:=sz) M (C.l+1,d) rfl _ (YV _) hsj
 |.trim k c b,τ,σ,K,h,f=>by
  have l:=I.ren γ
  simp only[AN]at h
  split at h
  case h_2=>exact h.elim
  rename_i hl
  obtain⟨⟨m,hm⟩,h⟩:=h
  have t:=f.h k hl
  have hko:AN (C.r γ) C.outs b ⟨τ.s,updH τ.H k ⟨(τ.H k).g,true,(τ.H k).e,(τ.H k).sz,c⟩⟩ K∧FA (C.r γ) C.outs k:=by
   unfold Qq at h
   split at h
   ·rename_i P;exact⟨h,.inl (Ya P)⟩
   ·rcases f.k k hl with h5|⟨_,h5⟩
    ·have:=h.1.1;omega
    ·exact⟨h.2,.inr ⟨h.1.1,h5,h.1.2⟩⟩
  obtain⟨h,hko⟩:=hko
  have u:=RG.updH l f k ⟨(τ.H k).g,true,(τ.H k).e,(τ.H k).sz,c⟩ rfl hko
  have e1:Ah (C.r γ) k ⟨(τ.H k).g,true,(τ.H k).e,(τ.H k).sz,c⟩=⟨(σ.H ((C.r γ).κ k)).g,(σ.H ((C.r γ).κ k)).live,(σ.H ((C.r γ).κ k)).e,(σ.H ((C.r γ).κ k)).sz,(σ.H ((C.r γ).κ k)).cells.take m⟩:=by
   rw[t]
   simp only[Ah,Co,hm]
  rw[e1]at u
  obtain⟨τ',G,F,N,v,O⟩:=Bx I b h u
  refine⟨τ',G,F,N,v,Wk.trans (fun L w M=>?_) O⟩
  obtain⟨s,H⟩:=σ
  have hle:((C.r γ).κ k).1≤C.l+1:=by
   obtain⟨N,v⟩:=k
   have:=hko.lk
   simp only at this
   rcases this with rfl|⟨rfl,A⟩
   ·rw[l.own];exact Yc _
   ·exact Jv (l.out v A)
  exact R.trim M hle (by have B:=t;simp only at B;rw[B];rfl) m
 |.reb j d m c b,τ,σ,K,h,f=>by
  have l:=I.ren γ
  simp only[AN]at h
  split at h
  case h_2=>exact h.elim
  rename_i k q off n hsj
  split at h
  case h_2=>exact h.elim
  rename_i hkd hq
  have P:k=(1,d):=A1.1 hkd
  subst P
  obtain⟨hq1,hl⟩:=BV hq
  subst hq1
  obtain⟨⟨hnm,hlen,E⟩,h⟩:=h
  subst E
  subst hnm
  have t:=f.h (1,d) hl
  rw[l.own]at t
  have z:(σ.H (C.l+1,d)).live=true:=by rw[t];rfl
  have U:(σ.H (C.l+1,d)).sz=(τ.H (1,d)).sz:=by rw[t];rfl
  have o:(σ.H (C.l+1,d)).g=(C.r γ).γ (1,d)+(τ.H (1,d)).g:=by rw[t];rfl
  have hcr:(σ.H (C.l+1,d)).cells=Ab (C.r γ) (τ.H (1,d)).cells:=by rw[t];rfl
  have Z:(σ.H (C.l+1,d)).e=(τ.H (1,d)).e:=by rw[t];rfl
  have hs:σ.s j=.ref (C.l+1,d) (σ.H (C.l+1,d)).g off n:=by rw[(f.s j).1 Au,hsj];simp only[ren];rw[l.own,o]
  have u:=RG.updH l f (1,d) ⟨(τ.H (1,d)).g+1,true,.t (τ.H (1,d)).e.ty,(τ.H (1,d)).sz,(τ.H (1,d)).cells.drop (off*(τ.H (1,d)).sz)⟩ rfl (.inl rfl)
  have e1:Ah (C.r γ) (1,d) ⟨(τ.H (1,d)).g+1,true,.t (τ.H (1,d)).e.ty,(τ.H (1,d)).sz,(τ.H (1,d)).cells.drop (off*(τ.H (1,d)).sz)⟩=⟨(σ.H (C.l+1,d)).g+1,true,.t (σ.H (C.l+1,d)).e.ty,(σ.H (C.l+1,d)).sz,(σ.H (C.l+1,d)).cells.drop (off*(σ.H (C.l+1,d)).sz)⟩:=by
   simp only[Ah,o,Z,U,hcr,Ce,Yr]
  rw[e1,l.own]at u
  have Q:RG (C.r γ) C.l C.outs [] ⟨upd τ.s j (.ref (1,d) ((τ.H (1,d)).g+1) 0 n),updH τ.H (1,d) ⟨(τ.H (1,d)).g+1,true,.t (τ.H (1,d)).e.ty,(τ.H (1,d)).sz,(τ.H (1,d)).cells.drop (off*(τ.H (1,d)).sz)⟩⟩
    ⟨upd σ.s j (.ref (C.l+1,d) ((σ.H (C.l+1,d)).g+1) 0 n),updH σ.H (C.l+1,d) ⟨(σ.H (C.l+1,d)).g+1,true,.t (σ.H (C.l+1,d)).e.ty,(σ.H (C.l+1,d)).sz,(σ.H (C.l+1,d)).cells.drop (off*(σ.H (C.l+1,d)).sz)⟩⟩:=
   ⟨fun i=>⟨fun _=>by
    simp only[upd]
    by_cases hi:i=j
    ·rw[Yt hi,Yt hi];simp only[ren];rw[l.own,o,Yr]
    ·rw[Yy hi,Yy hi];exact(f.s i).1 Au,fun T=>absurd Au T⟩,u.h,u.g,u.go,u.k,u.o⟩
  obtain⟨τ',G,F,N,v,O⟩:=Bx I b h Q
  refine⟨τ',G,F,N,v,Wk.trans (fun L w M=>?_) O⟩
  obtain⟨s,H⟩:=σ
  exact R.rebase M (Yc _) z hs (by rw[U,hcr,Bc];exact hlen)
 |.mv d j b,τ,σ,K,h,f=>by
  have l:=I.ren γ
  have hs:∀j,σ.s j=ren (C.r γ) (τ.s j):=fun j=>(f.s j).1 Au
  simp only[AN]at h
  split at h
  case h_2=>exact h.elim
  rename_i hl
  obtain⟨hf,⟨J,hno⟩,h⟩:=h
  have t:=f.h _ hl
  have X:=f.go j J
  rw[l.own]at t
  have z:(σ.H (C.l+1,d)).live=true:=by rw[t];rfl
  have o:(σ.H (C.l+1,d)).g=(C.r γ).γ (1,d)+(τ.H (1,d)).g:=by rw[t];rfl
  have u:=RG.updK l f (1,d) ⟨(τ.H (1,d)).g,false,(τ.H (1,d)).e,(τ.H (1,d)).sz,(τ.H (1,d)).cells⟩ {σ.H (C.l+1,d)with live:=false } (fun e=>by cases e) o (.inl rfl)
  rw[l.own]at u
  have A:=RG.updH l u (0,j) ⟨(τ.H (0,j)).g+1,true,(τ.H (1,d)).e,(τ.H (1,d)).sz,(τ.H (1,d)).cells⟩ rfl (.inr ⟨rfl,J,hno⟩)
  have e2:Ah (C.r γ) (0,j) ⟨(τ.H (0,j)).g+1,true,(τ.H (1,d)).e,(τ.H (1,d)).sz,(τ.H (1,d)).cells⟩={σ.H (C.l+1,d)with g:=(σ.H ((C.r γ).κ (0,j))).g+1 }:=by
   rw[t]
   simp only[Ah,X,Yr]
  rw[e2]at A
  have Q:RG (C.r γ) C.l C.outs [] ⟨fun i=>Cn (1,d) (0,j) (τ.H (1,d)).g ((τ.H (0,j)).g+1) (τ.s i),updH (updH τ.H (1,d) ⟨(τ.H (1,d)).g,false,(τ.H (1,d)).e,(τ.H (1,d)).sz,(τ.H (1,d)).cells⟩) (0,j) ⟨(τ.H (0,j)).g+1,true,(τ.H (1,d)).e,(τ.H (1,d)).sz,(τ.H (1,d)).cells⟩⟩
    ⟨fun i=>ren (C.r γ) (Cn (1,d) (0,j) (τ.H (1,d)).g ((τ.H (0,j)).g+1) (τ.s i)),updH (updH σ.H (C.l+1,d) {σ.H (C.l+1,d)with live:=false }) ((C.r γ).κ (0,j)) {σ.H (C.l+1,d)with g:=(σ.H ((C.r γ).κ (0,j))).g+1 }⟩:=
   ⟨fun i=>⟨fun _=>rfl,fun T=>absurd Au T⟩,A.h,A.g,A.go,A.k,A.o⟩
  obtain⟨τ',G,F,N,v,O⟩:=Bx I b h Q
  refine⟨τ',G,F,N,v,Wk.trans (fun L w M=>?_) O⟩
  obtain⟨s,H⟩:=σ
  refine R.handout M (k:=(C.l+1,d)) rfl (l.out j J) z (by have B:=t;simp only at B;rw[B];exact J9 hf) (fun i=>?_)
  have r:=hs i
  simp only at r
  cases hx:τ.s i with
  |ref q g off c=>
   rw[hx]at r
   rw[KQ]
   split
   ·rename_i E
    obtain⟨rfl,rfl⟩:=E
    refine .inr (.inl ⟨off,c,?_,?_⟩)
    ·rw[r];simp only[ren];rw[l.own];simp only at o;rw[o]
    ·simp only[ren];simp only at X;rw[X,Yr]
   ·left;rw[r]
  |mp q g=>
   rw[hx]at r
   rw[K6]
   split
   ·rename_i E
    obtain⟨rfl,rfl⟩:=E
    refine .inr (.inr ⟨?_,?_⟩)
    ·rw[r];simp only[ren];rw[l.own];simp only at o;rw[o]
    ·simp only[ren];simp only at X;rw[X,Yr]
   ·left;rw[r]
  |_=>left;rw[r,hx];rfl
 |.rnm d d' e i b,τ,σ,K,h,f=>by
  have l:=I.ren γ
  have hs:∀j,σ.s j=ren (C.r γ) (τ.s j):=fun j=>(f.s j).1 Au
  simp only[AN]at h
  split at h
  case h_2=>exact h.elim
  rename_i k g off c hl hdd S Y hle E
  split at h
  case h_2=>exact h.elim
  rename_i P hg
  obtain⟨hf,h⟩:=h
  have P:=A1.1 P
  subst P
  have hg:=Ya hg
  subst hg
  have hdd:d≠d':=fun q=>by subst q;simp at hdd
  have S:e≠d:=fun q=>by subst q;simp at S
  have Y:e≠d':=fun q=>by subst q;simp at Y
  have t:=f.h _ hl
  have D:=f.h _ hle
  rw[l.own]at t D
  have z:(σ.H (C.l+1,d)).live=true:=by rw[t];rfl
  have hler:(σ.H (C.l+1,e)).live=true:=by rw[D];rfl
  have o:(σ.H (C.l+1,d)).g=(C.r γ).γ (1,d)+(τ.H (1,d)).g:=by rw[t];rfl
  have y:=f.g d'
  have u:=RG.updK l f (1,d) ⟨(τ.H (1,d)).g,false,(τ.H (1,d)).e,(τ.H (1,d)).sz,(τ.H (1,d)).cells⟩ {σ.H (C.l+1,d)with live:=false } (fun e=>by cases e) o (.inl rfl)
  rw[l.own]at u
  have A:=RG.updH l u (1,d') ⟨(τ.H (1,d')).g+1,true,(τ.H (1,d)).e,(τ.H (1,d)).sz,(τ.H (1,d)).cells⟩ rfl (.inl rfl)
  have e2:Ah (C.r γ) (1,d') ⟨(τ.H (1,d')).g+1,true,(τ.H (1,d)).e,(τ.H (1,d)).sz,(τ.H (1,d)).cells⟩={σ.H (C.l+1,d)with g:=(σ.H (C.l+1,d')).g+1 }:=by
   rw[t]
   simp only[Ah,y,Yr]
  rw[e2,l.own]at A
  have W:=RG.updH l A (1,e) ⟨(τ.H (1,e)).g,true,(τ.H (1,e)).e,(τ.H (1,e)).sz,(τ.H (1,e)).cells.set i (.ref (1,d') ((τ.H (1,d')).g+1) off c)⟩ rfl (.inl rfl)
  have e4:Ah (C.r γ) (1,e) ⟨(τ.H (1,e)).g,true,(τ.H (1,e)).e,(τ.H (1,e)).sz,(τ.H (1,e)).cells.set i (.ref (1,d') ((τ.H (1,d')).g+1) off c)⟩=
    ⟨(σ.H (C.l+1,e)).g,true,(σ.H (C.l+1,e)).e,(σ.H (C.l+1,e)).sz,(σ.H (C.l+1,e)).cells.set i (.ref (C.l+1,d') ((σ.H (C.l+1,d')).g+1) off c)⟩:=by
   rw[D]
   simp only[Ah]
   rw[←HY]
   simp[ren,l.own,y,Yr]
  rw[e4,l.own]at W
  have Q:RG (C.r γ) C.l C.outs [] ⟨fun j=>Cn (1,d) (1,d') (τ.H (1,d)).g ((τ.H (1,d')).g+1) (τ.s j),_⟩
    ⟨fun j=>ren (C.r γ) (Cn (1,d) (1,d') (τ.H (1,d)).g ((τ.H (1,d')).g+1) (τ.s j)),_⟩:=
   ⟨fun i=>⟨fun _=>rfl,fun T=>absurd Au T⟩,W.h,W.g,W.go,W.k,W.o⟩
  obtain⟨τ',G,F,N,v,O⟩:=Bx I b h Q
  refine⟨τ',G,F,N,v,Wk.trans (fun L w M=>?_) O⟩
  obtain⟨s,H⟩:=σ
  rw[B1]at E
  refine R.rename M (k:=(C.l+1,d)) (k':=(C.l+1,d')) (q:=(C.l+1,e)) rfl (Yc _) rfl (fun q=>hdd (by simpa using q)) (fun q=>S (by simpa using q)) (fun q=>Y (by simpa using q)) z hler (by have B:=t;simp only at B;rw[B];exact J9 hf)
   (by simp only at D o;rw[D];simp only[Ah,Dl,E];simp[ren,l.own,o]) (fun i=>?_)
  have r:=hs i
  simp only at r
  cases hx:τ.s i with
  |ref q g off c=>
   rw[hx]at r
   rw[KQ]
   split
   ·rename_i E
    obtain⟨rfl,rfl⟩:=E
    refine .inr (.inl ⟨off,c,?_,?_⟩)
    ·rw[r];simp only[ren];rw[l.own];simp only at o;rw[o]
    ·simp only[ren];rw[l.own];simp only at y;rw[y,Yr]
   ·left;rw[r]
  |mp q g=>
   rw[hx]at r
   rw[K6]
   split
   ·rename_i E
    obtain⟨rfl,rfl⟩:=E
    refine .inr (.inr ⟨?_,?_⟩)
    ·rw[r];simp only[ren];rw[l.own];simp only at o;rw[o]
    ·simp only[ren];rw[l.own];simp only at y;rw[y,Yr]
   ·left;rw[r]
  |_=>left;rw[r,hx];rfl
 |.mvc d q e i b,τ,σ,K,h,f=>by
  have l:=I.ren γ
  have hs:∀j,σ.s j=ren (C.r γ) (τ.s j):=fun j=>(f.s j).1 Au
  simp only[AN]at h
  split at h
  case h_2=>exact h.elim
  rename_i k g off c hl S hle E
  split at h
  case h_2=>exact h.elim
  rename_i P hg
  obtain⟨hf,⟨J,hno⟩,h⟩:=h
  have P:=A1.1 P
  subst P
  have hg:=Ya hg
  subst hg
  have S:e≠d:=fun q'=>by subst q';simp at S
  have t:=f.h _ hl
  have D:=f.h _ hle
  rw[l.own]at t D
  have z:(σ.H (C.l+1,d)).live=true:=by rw[t];rfl
  have hler:(σ.H (C.l+1,e)).live=true:=by rw[D];rfl
  have o:(σ.H (C.l+1,d)).g=(C.r γ).γ (1,d)+(τ.H (1,d)).g:=by rw[t];rfl
  have y:=f.go q J
  have hlo:=l.out q J
  have u:=RG.updK l f (1,d) ⟨(τ.H (1,d)).g,false,(τ.H (1,d)).e,(τ.H (1,d)).sz,(τ.H (1,d)).cells⟩ {σ.H (C.l+1,d)with live:=false } (fun e=>by cases e) o (.inl rfl)
  rw[l.own]at u
  have A:=RG.updH l u (0,q) ⟨(τ.H (0,q)).g+1,true,(τ.H (1,d)).e,(τ.H (1,d)).sz,(τ.H (1,d)).cells⟩ rfl (.inr ⟨rfl,J,hno⟩)
  have e2:Ah (C.r γ) (0,q) ⟨(τ.H (0,q)).g+1,true,(τ.H (1,d)).e,(τ.H (1,d)).sz,(τ.H (1,d)).cells⟩={σ.H (C.l+1,d)with g:=(σ.H ((C.r γ).κ (0,q))).g+1 }:=by
   rw[t]
   simp only[Ah,y,Yr]
  rw[e2]at A
  have W:=RG.updH l A (1,e) ⟨(τ.H (1,e)).g,true,(τ.H (1,e)).e,(τ.H (1,e)).sz,(τ.H (1,e)).cells.set i (.ref (0,q) ((τ.H (0,q)).g+1) off c)⟩ rfl (.inl rfl)
  have e4:Ah (C.r γ) (1,e) ⟨(τ.H (1,e)).g,true,(τ.H (1,e)).e,(τ.H (1,e)).sz,(τ.H (1,e)).cells.set i (.ref (0,q) ((τ.H (0,q)).g+1) off c)⟩=
    ⟨(σ.H (C.l+1,e)).g,true,(σ.H (C.l+1,e)).e,(σ.H (C.l+1,e)).sz,(σ.H (C.l+1,e)).cells.set i (.ref ((C.r γ).κ (0,q)) ((σ.H ((C.r γ).κ (0,q))).g+1) off c)⟩:=by
   rw[D]
   simp only[Ah]
   rw[←HY]
   simp[ren,l.own,y,Yr]
  rw[e4,l.own]at W
  have Q:RG (C.r γ) C.l C.outs [] ⟨fun j=>Cn (1,d) (0,q) (τ.H (1,d)).g ((τ.H (0,q)).g+1) (τ.s j),_⟩
    ⟨fun j=>ren (C.r γ) (Cn (1,d) (0,q) (τ.H (1,d)).g ((τ.H (0,q)).g+1) (τ.s j)),_⟩:=
   ⟨fun i=>⟨fun _=>rfl,fun T=>absurd Au T⟩,W.h,W.g,W.go,W.k,W.o⟩
  obtain⟨τ',G,F,N,v,O⟩:=Bx I b h Q
  refine⟨τ',G,F,N,v,Wk.trans (fun L w M=>?_) O⟩
  obtain⟨s,H⟩:=σ
  rw[B1]at E
  refine R.rename M (k:=(C.l+1,d)) (k':=((C.r γ).κ (0,q))) (q:=(C.l+1,e)) rfl (Jv hlo) rfl (fun q'=>by rw[←q']at hlo;exact absurd hlo (Nat.not_succ_le_self _)) (fun q'=>S (by simpa using q')) (fun q'=>by rw[←q']at hlo;exact absurd hlo (Nat.not_succ_le_self _)) z hler (by have B:=t;simp only at B;rw[B];exact J9 hf)
   (by simp only at D o;rw[D];simp only[Ah,Dl,E];simp[ren,l.own,o]) (fun i=>?_)
  have r:=hs i
  simp only at r
  cases hx:τ.s i with
  |ref q g off c=>
   rw[hx]at r
   rw[KQ]
   split
   ·rename_i E
    obtain⟨rfl,rfl⟩:=E
    refine .inr (.inl ⟨off,c,?_,?_⟩)
    ·rw[r];simp only[ren];rw[l.own];simp only at o;rw[o]
    ·simp only[ren];simp only at y;rw[y,Yr]
   ·left;rw[r]
  |mp q g=>
   rw[hx]at r
   rw[K6]
   split
   ·rename_i E
    obtain⟨rfl,rfl⟩:=E
    refine .inr (.inr ⟨?_,?_⟩)
    ·rw[r];simp only[ren];rw[l.own];simp only at o;rw[o]
    ·simp only[ren];simp only at y;rw[y,Yr]
   ·left;rw[r]
  |_=>left;rw[r,hx];rfl
 |.fzm d V b,τ,σ,K,h,f=>by
  have l:=I.ren γ
  have hs:∀j,σ.s j=ren (C.r γ) (τ.s j):=fun j=>(f.s j).1 Au
  simp only[AN]at h
  split at h
  case h_2=>exact h.elim
  rename_i q es hl he hm
  have hjs:=OE hm
  have t:=f.h _ hl
  rw[l.own]at t
  have z:(σ.H (C.l+1,d)).live=true:=by rw[t];rfl
  have Z:(σ.H (C.l+1,d)).e=.m q es:=by rw[t];exact he
  have o:(σ.H (C.l+1,d)).g=(C.r γ).γ (1,d)+(τ.H (1,d)).g:=by rw[t];rfl
  have u:=RG.updK l f (1,d) ⟨(τ.H (1,d)).g,false,(τ.H (1,d)).e,(τ.H (1,d)).sz,(τ.H (1,d)).cells⟩ {σ.H (C.l+1,d)with live:=false } (fun e=>by cases e) o (.inl rfl)
  rw[l.own]at u
  have Q:RG (C.r γ) C.l C.outs [] ⟨Cb (.d (.map q es)) V τ.s,updH τ.H (1,d) ⟨(τ.H (1,d)).g,false,(τ.H (1,d)).e,(τ.H (1,d)).sz,(τ.H (1,d)).cells⟩⟩ ⟨Cb (.d (.map q es)) V σ.s,updH σ.H (C.l+1,d) {σ.H (C.l+1,d)with live:=false }⟩:=
   ⟨fun j=>⟨fun _=>by
    simp only[Gx]
    by_cases J:j∈V
    ·rw[Yt J,Yt J];simp[ren]
    ·rw[Yy J,Yy J];exact hs j,fun T=>absurd Au T⟩,u.h,u.g,u.go,u.k,u.o⟩
  obtain⟨τ',G,F,N,v,O⟩:=Bx I b h Q
  refine⟨τ',G,F,N,v,Wk.trans (fun L w M=>?_) O⟩
  obtain⟨s,H⟩:=σ
  refine R.freezeM M (k:=(C.l+1,d)) (Yc _) z Z V (fun j J=>?_)
  obtain⟨g,g1,g2⟩:=hjs j J
  have:=hs j
  simp only at this o
  rw[this,g1]
  simp only[ren]
  rw[l.own,o,(BV g2).1]
 |.fzb d V b,τ,σ,K,h,f=>by
  have l:=I.ren γ
  have hs:∀j,σ.s j=ren (C.r γ) (τ.s j):=fun j=>(f.s j).1 Au
  simp only[AN]at h
  split at h
  case h_2=>exact h.elim
  rename_i x ds hl he hm
  have hjs:=OJ hm
  have t:=f.h _ hl
  rw[l.own]at t
  have z:(σ.H (C.l+1,d)).live=true:=by rw[t];rfl
  have Z:(σ.H (C.l+1,d)).cells=(x::ds).map .d:=by rw[t];show Ab _ _=_;rw[H4 he,DN]
  have o:(σ.H (C.l+1,d)).g=(C.r γ).γ (1,d)+(τ.H (1,d)).g:=by rw[t];rfl
  have u:=RG.updK l f (1,d) ⟨(τ.H (1,d)).g,false,(τ.H (1,d)).e,(τ.H (1,d)).sz,(τ.H (1,d)).cells⟩ {σ.H (C.l+1,d)with live:=false } (fun e=>by cases e) o (.inl rfl)
  rw[l.own]at u
  have Q:RG (C.r γ) C.l C.outs [] ⟨Cb (.iptr (x::ds) 0) V τ.s,updH τ.H (1,d) ⟨(τ.H (1,d)).g,false,(τ.H (1,d)).e,(τ.H (1,d)).sz,(τ.H (1,d)).cells⟩⟩ ⟨Cb (.iptr (x::ds) 0) V σ.s,updH σ.H (C.l+1,d) {σ.H (C.l+1,d)with live:=false }⟩:=
   ⟨fun j=>⟨fun _=>by
    simp only[Gx]
    by_cases J:j∈V
    ·rw[Yt J,Yt J];simp[ren]
    ·rw[Yy J,Yy J];exact hs j,fun T=>absurd Au T⟩,u.h,u.g,u.go,u.k,u.o⟩
  obtain⟨τ',G,F,N,v,O⟩:=Bx I b h Q
  refine⟨τ',G,F,N,v,Wk.trans (fun L w M=>?_) O⟩
  obtain⟨s,H⟩:=σ
  refine R.freezeB M (k:=(C.l+1,d)) (Yc _) z Z (by simp) V (fun j J=>?_)
  obtain⟨g,g1,g2⟩:=hjs j J
  have:=hs j
  simp only at this o
  rw[this,g1]
  simp only[ren]
  rw[l.own,o,(BV g2).1]
 |.ents _ _,τ,σ,K,h,f=>⟨τ,_,σ,h,f,Wk.refl σ⟩
 |.all _ _,τ,σ,K,h,f=>⟨τ,_,σ,h,f,Wk.refl σ⟩
 |.nil,τ,σ,K,h,f=>⟨τ,_,σ,h,f,Wk.refl σ⟩
 |.sep _,τ,σ,K,h,f=>⟨τ,_,σ,h,f,Wk.refl σ⟩
 |.go _,τ,σ,K,h,f=>⟨τ,_,σ,h,f,Wk.refl σ⟩
 |.av _ _,τ,σ,K,h,f=>⟨τ,_,σ,h,f,Wk.refl σ⟩
 |.cs _ _,τ,σ,K,h,f=>⟨τ,_,σ,h,f,Wk.refl σ⟩
 |.ds _ _,τ,σ,K,h,f=>⟨τ,_,σ,h,f,Wk.refl σ⟩
 |.num _ _,τ,σ,K,h,f=>⟨τ,_,σ,h,f,Wk.refl σ⟩
 |.nat _ _,τ,σ,K,h,f=>⟨τ,_,σ,h,f,Wk.refl σ⟩
 |.call _ _ _,τ,σ,K,h,f=>⟨τ,_,σ,h,f,Wk.refl σ⟩
 |.callH _ _ _ _,τ,σ,K,h,f=>⟨τ,_,σ,h,f,Wk.refl σ⟩
 |.br _ _,τ,σ,K,h,f=>⟨τ,_,σ,h,f,Wk.refl σ⟩
 |.one _ _,τ,σ,K,h,f=>⟨τ,_,σ,h,f,Wk.refl σ⟩
 |.hard _ _ _ _ _,τ,σ,K,h,f=>⟨τ,_,σ,h,f,Wk.refl σ⟩
theorem CB(o:CxOk C)(s:AG P T)(hm:P.follows .mixedOrders=true){γ:Aa→Nat}:∀(c:Code) (a:AT) (τ σ:St) (K:Exit→St→AT→Prop),A8 P T C.l n C.outs (C.r γ) c a τ K→RG (C.r γ) C.l C.outs [] τ σ→
  AI P C.l n C.B c (Ll n C γ K) σ
 |.skip,a,τ,σ,K,h,d=>SA ⟨τ,a,σ,h,d,Wk.refl σ⟩
 |.ret,a,τ,σ,K,h,d=>by
  obtain⟨τ',f,p,k,m,q⟩:=Bx (n:=n) o a h d
  exact AI.weak (Uc ⟨τ',f,p,k,m,Wk.refl p⟩) q
 |.exit id,a,τ,σ,K,h,d=>SR ⟨τ,a,σ,h,d,Wk.refl σ⟩
 |.seq x y,a,τ,σ,K,h,d=>by
  have G:=CB o s hm x a τ σ _ h d
  refine Kp (Dn G fun e p hi=>?_)
  obtain⟨τ',f,j,k,m,q⟩:=hi
  cases e with
  |normal=>exact AI.weak (CB o s hm y f τ' j _ k m) q
  |_=>exact⟨τ',f,j,k,m,q⟩
 |.block id c,a,τ,σ,K,h,d=>by
  have G:=CB o s hm c a τ σ _ h d
  refine M0 (Dn G fun e p hi=>?_)
  obtain⟨τ',f,j,k,m,q⟩:=hi
  cases e with
  |exit i=>
   unfold Ic
   simp only at k⊢
   split at k
   ·rename_i he;rw[Yt (Ya he)];exact⟨τ',f,j,k,m,q⟩
   ·rename_i he;rw[Yy (by rintro rfl;simp at he)];exact⟨τ',f,j,k,m,q⟩
  |_=>exact⟨τ',f,j,k,m,q⟩
 |.cond c x y,a,τ,σ,K,h,d=>by
  have he:∀{b},ev τ.s c=.d (.bool b)→ev σ.s c=.d (.bool b):=fun {b} u=>by rw[Eu (c:=[]) d Au (by cases c<;>rfl),u];simp[ren]
  unfold A8 at h
  split at h
  ·rename_i b a1 M u
   exact Gt (he u) (fun e=>CB o s hm x a1 τ σ K (h.1 e) d) (fun e=>CB o s hm y M τ σ K (h.2 e) d)
  ·rename_i b f u
   refine Gt (he u) (fun e=>?_) (fun e=>?_)
   ·subst e;exact CB o s hm x f τ σ K h d
   ·subst e;exact CB o s hm y f τ σ K h d
  ·rename_i b v f u
   cases v with
   |true=>exact Gt (he u) (fun e=>CB o s hm x f τ σ K (h.1 e) d) (fun e=>(h.2 e).elim)
   |false=>exact Gt (he u) (fun e=>(h.1 e).elim) (fun e=>CB o s hm y f τ σ K (h.2 e) d)
  ·exact h.elim
 |.region id ops L,a,τ,σ,K,h,d=>by
  obtain⟨t,rfl⟩:∃l:List Oper,ops=l.toArray:=⟨ops.toList,by simp⟩
  have fin:∀τ' g f p,K .normal (D4 g τ') f→RG (C.r γ) C.l C.outs g τ' p→Ll n C γ K .normal p:=fun τ' g f p k m=>by
   obtain⟨j,q,N⟩:=R6 (n:=n) m
   exact⟨_,f,j,k,q,N⟩
  unfold A8 at h
  split at h
  ·obtain⟨I,E,H,h,d,F⟩:=Bx (n:=n) o a h d
   refine AI.weak ?_ F
   intro D w O
   have:=HM (o.ren γ) s (ops:=t.toArray) (B:=C.B) (K:=fun τ' z f=>K .normal (D4 z τ') f) (QQ:=fun e f w'=>∃p,Ll n C γ K e p∧R C.l n C.B p f w') [] (fun τ' g f p J w' k m q=>by
    unfold wpList
    exact⟨p,fin _ _ _ _ k m,q⟩) t [] E I H D w (by simpa using h) d O
   rw[Je]at this
   exact wp_region_lit this
  ·split at h
   case h_2=>exact h.elim
   rename_i A
   simp only[Ye]at A
   obtain⟨I,E,H,h,d,F⟩:=Bx (n:=n) o a h d
   refine AI.weak ?_ F
   refine Rp hm (RY (by simpa using A.1.1)) (by simpa using A.1.2) (by simpa using A.2) (HW t (fun p Q=>?_) (Gv (o.ren γ) (l:=C.l) (r:=C.r γ) (outs:=C.outs) (K:=fun τ' z f=>K .normal (D4 z τ') f) s t [] E I H (by simpa using A.1.2) (by simpa using h) d))
   obtain⟨τ',g,f,k,m⟩:=Q
   exact fin _ _ _ _ k m
 |.loop _,a,τ,σ,K,h,d=>h.elim
 |.rangeFunc _ _ _ _,a,τ,σ,K,h,d=>h.elim
 |.scope _,a,τ,σ,K,h,d=>h.elim
 |.label _,a,τ,σ,K,h,d=>h.elim
 |.goto _,a,τ,σ,K,h,d=>h.elim
 |.refuse _,a,τ,σ,K,h,d=>h.elim
theorem Pb(k:CxOk C)(m:AG P T)(hm:P.follows .mixedOrders=true){c:Code}{a:AT}(K:(Aa→Nat)→Exit→St→AT→Prop)(h:∀γ,A8 P T C.l n C.outs (C.r γ) c a τ (K γ))
  (p:∀γ e τ' b d,C.G γ→K γ e τ' b→RG (C.r γ) C.l C.outs [] τ' d→Is n C (Q e) d):LW P n C c τ Q:=by
 intro γ σ o l
 refine Dn (CB k m hm c a τ σ (K γ) (h γ) l) fun e d hi=>?_
 obtain⟨τ',b,f,g,i,j⟩:=hi
 obtain⟨u,w,v,q,r,s,t⟩:=p γ e τ' b f o g i
 exact⟨u,w,v,q,r,s,j.trans t⟩
theorem Vu(i:CxOk C)(k:AG P T)(hm:P.follows .mixedOrders=true){c:Code}(a:AT){f:List ResultVar}{b:AV→List Blk→Prop}(h:∀γ,A8 P T C.l n C.outs (C.r γ) c a τ (KF T f C.outs b)):LW P n C c τ (FQ T f C.outs b):=
 Pb i k hm (fun _=>KF T f C.outs b) h fun γ e τ' g m l d j=>.of l j (by
  cases e<;>simp only[KF]at d
  ·exact⟨.inl rfl,g,d⟩
  ·exact⟨.inr rfl,g,d⟩)
theorem UU(d:CxOk C)(z:AG P T)(hm:P.follows .mixedOrders=true){c:Code}(a:AT)(lf w:Lf){s:List ResultVar}{b:AV→List Blk→Prop}(y:∀τ,FQ T s C.outs b .ret τ→Q .ret τ)(h:∀γ,A8 P T C.l n C.outs (C.r γ) c a τ (KB T s C.outs C.fx (C.r γ) b lf w Q)):LW P n C c τ Q:=
 Pb d z hm (fun γ=>KB T s C.outs C.fx (C.r γ) b lf w Q) h fun γ e τ' g D j f i=>by
  cases e<;>simp only[KB]at f
  ·obtain⟨B,x,A,p,q,r⟩:=Bx (n:=n) d g f i
   obtain⟨t,v,u,k,l,m,o⟩:=Gn (n:=n) d p j q
   exact⟨t,v,u,k,l,m,r.trans o⟩
  ·obtain⟨B,x,A,p,q,r⟩:=Bx (n:=n) d g f i
   obtain⟨t,v,u,k,l,m,o⟩:=Gn (n:=n) d p j q
   exact⟨t,v,u,k,l,m,r.trans o⟩
  ·exact .of j i (y _ ⟨.inr rfl,g,f⟩)
theorem Oz{sz:Nat}:∀{es:List (List D)} {i j:Nat} {e:List D} {d:D},(∀e∈es,e.length=sz)→es[i]?=some e→e[j]?=some d→es.flatten[i*sz+j]?=some d
 |[],i,j,e,d,h,hi,a=>by simp at hi
 |f::es,0,j,e,d,h,hi,a=>by
  grind
 |f::es,i+1,j,e,d,h,hi,a=>by
  have b:=h f (YC ..)
  rw[El,Yk (by rw[b,YF];omega),b,show(i+1)*sz+j-sz=i*sz+j from by rw[YF];omega]
  exact Oz (fun e he=>h e (Yw _ he)) (by simpa using hi) a
mutual
theorem Sf(s:CxOk C){γ:Aa→Nat}{H E:Hp}(w:BF (C.r γ) H E)(f:∀k,(H k).live=true→k.1=1∨(k.1=0∧k.2<C.outs)):∀(x:AV) {a:AT} {K:AV→AT→Prop},frz H x a K→∃y p,Fz E C.l (ren (C.r γ) x) (ren (C.r γ) y)∧(C.outs=0→∀r,ren r y=y)∧K y p
 |.d x,a,K,h=>⟨.d x,a,by simp only[ren];exact .keep _ rfl,fun _ r=>by simp[ren],h⟩
 |.e0,a,K,h=>⟨.d (.list []),a,by simp only[ren];exact .e0,fun _ r=>by simp[ren],h⟩
 |.agg xs,a,K,h=>by
  obtain⟨ys,p,o,J,v⟩:=J2 s w f xs h
  exact⟨.agg ys,p,by simp only[ren];exact .agg _ _ o.1 o.2,fun e r=>by simp only[ren];rw[J e r],v⟩
 |.ref k g off m,a,K,h=>by
  unfold frz at h
  split at h
  ·rename_i c hl
   have c:=Ya c
   have n:k.2<C.outs:=by
    rcases f k (BV hl).2 with o|o
    ·omega
    grind
   obtain⟨D,b⟩:=k
   simp only at c n
   subst c
   exact⟨.ref (0,b) g off m,a,by simp only[ren];exact .keep _ (Hw (s.out b n)),fun e=>by omega,h⟩
  ·rename_i _ f hl
   split at h
   case h_2=>exact h.elim
   rename_i es p
   obtain⟨⟨o,v,G,L,M⟩,N⟩:=h
   have f:=Ya f
   obtain⟨g1,u,g3,g4,F⟩:=w.at hl
   obtain⟨D,b⟩:=k
   simp only at f
   subst f
   refine⟨.d (.list es),p,?_,fun _ r=>by simp[ren],N⟩
   simp only[ren]
   rw[g1]
   have B:(C.r γ).κ (1,b)=(C.l+1,b):=s.own b
   refine .ref _ off m es (by rw[B]) u o (by rw[g4];exact v) (by rw[g4];exact G) (by rw[g4,F,Bc];exact L) (fun i j e d x hi O A=>?_)
   have z:i<m:=by
    grind
   have P:j<(H (1,b)).sz:=by
    grind
   have Q:=Oz G hi O
   have n:i*(H (1,b)).sz+j<m*(H (1,b)).sz:=by
    have:(i+1)*(H (1,b)).sz≤m*(H (1,b)).sz:=YT _ z
    grind
   have I:(H (1,b)).cells[(off+i)*(H (1,b)).sz+j]?=some (.d d):=by
    have:=congrArg (fun l=>l[i*(H (1,b)).sz+j]?) M
    grind
   rw[g4,F,Dl,I]at A
   simp only[YB,ren,Yd]at A
   subst A
   exact .keep _ rfl
  grind
 |.top,a,K,h=>by simp only[frz]at h
 |.p _,a,K,h=>by simp only[frz]at h
 |.ptr _ _ _,a,K,h=>by simp only[frz]at h
 |.mp k g,a,K,h=>by
  unfold frz at h
  split at h
  ·rename_i c hl
   have c:=Ya c
   have n:k.2<C.outs:=by
    rcases f k (BV hl).2 with o|o
    ·omega
    grind
   obtain⟨D,b⟩:=k
   simp only at c n
   subst c
   exact⟨.mp (0,b) g,a,by simp only[ren];exact .keep _ (Hw (s.out b n)),fun e=>by omega,h⟩
  ·rename_i q es _ f hl he
   have f:=Ya f
   obtain⟨g1,u,g3,_,_⟩:=w.at hl
   obtain⟨D,b⟩:=k
   simp only at f
   subst f
   refine⟨.d (.map q es),a,?_,fun _ r=>by simp[ren],h⟩
   simp only[ren]
   rw[g1]
   have B:(C.r γ).κ (1,b)=(C.l+1,b):=s.own b
   exact .mp _ q es (by rw[B]) u (by rw[g3,he])
  grind
 |.iptr _ _,a,K,h=>by simp only[frz]at h
 |.ifc t ds q,a,K,h=>⟨.ifc t ds q,a,by simp only[ren];exact .keep _ rfl,fun _ r=>by simp[ren],h⟩
 |.fn _ _ _,a,K,h=>by simp only[frz]at h
 |.tup _,a,K,h=>by simp only[frz]at h
theorem J2(j:CxOk C){γ:Aa→Nat}{H d:Hp}(l:BF (C.r γ) H d)(m:∀k,(H k).live=true→k.1=1∨(k.1=0∧k.2<C.outs)):∀(xs:List AV) {a:AT} {K:List AV→AT→Prop},D1 H xs a K→
  ∃ys f,((Ab (C.r γ) xs).length=(Ab (C.r γ) ys).length∧∀(i:Nat) (x y:AV),(Ab (C.r γ) xs)[i]?=some x→(Ab (C.r γ) ys)[i]?=some y→Fz d C.l x y)∧(C.outs=0→∀r,Ab r ys=ys)∧K ys f
 |[],a,K,h=>⟨[],a,⟨by simp[Ab],fun i x y b=>by simp[Ab]at b⟩,fun _ r=>by simp[Ab],h⟩
 |x::xs,a,K,h=>by
  simp only[D1]at h
  obtain⟨y,f,p,n,q⟩:=Sf j l m x h
  obtain⟨ys,c,g,o,s⟩:=J2 j l m xs q
  refine⟨y::ys,c,⟨by simp[Ab,g.1],fun i x' t b hy=>?_⟩,fun e r=>by simp only[Ab];rw[n e r,o e r],s⟩
  cases i with
  |zero=>simp only[Ab,YZ,Yd]at b hy;subst b;subst hy;exact p
  |succ i=>simp only[Ab,Y8]at b hy;exact g.2 i x' t b hy
end
theorem Sm(o:AG P T){γ:Aa→Nat}(n:RG (C.r γ) C.l C.outs [] τ σ){v:ResultVar}{K:AV→Prop}(h:LB T τ v K):∃x,K x∧∀m (f:List AV→Prop),Ca P σ m (fun xs=>f (ren (C.r γ) x::xs))→Ca P σ (v::m) f:=by
 cases v with
 |tmp t=>exact⟨_,h,fun m f j=>by unfold Ca;rw[(n.s t).1 Au];exact j⟩
 |cell p t=>
  simp only[LB]at h
  split at h
  case h_2=>exact h.elim
  rename_i k g off i w hi
  have l:σ.s p=ren (C.r γ) (.ptr k g off):=by rw[(n.s p).1 Au,w]
  split at h
  ·rename_i hl d
   split at h
   case h_2=>exact h.elim
   rename_i c r s
   refine⟨_,h,fun m f j=>?_⟩
   have:=J7 (a:=.go .nil) (g:=none) (K:=fun v _=>v=.agg c) (o _ _ hi) n.h (fun b e=>by cases e) (x:=.ptr k g off) (by simp only[Fs,hl,d,r,s])
   unfold Ca
   rw[l]
   refine Kg (fun y hy=>?_) this
   obtain⟨v,q,rfl,rfl⟩:=hy
   exact j
  ·rename_i hl d
   split at h
   case h_2=>exact h.elim
   rename_i c u
   refine⟨_,h,fun m f j=>?_⟩
   have:=J7 (a:=.go .nil) (g:=none) (K:=fun v _=>v=c) (o _ _ hi) n.h (fun b e=>by cases e) (x:=.ptr k g off) (by simp only[Fs,hl,d,u])
   unfold Ca
   rw[l]
   refine Kg (fun y hy=>?_) this
   obtain⟨v,q,rfl,rfl⟩:=hy
   exact j
  grind
theorem MI(e:AG P T){γ:Aa→Nat}(d:RG (C.r γ) C.l C.outs [] τ σ):∀(b:List ResultVar) {K:List AV→Prop},Lw T τ b K→∃xs,K xs∧∀a:List AV→Prop,a (Ab (C.r γ) xs)→Ca P σ b a
 |[],K,h=>⟨[],h,fun a c=>by unfold Ca;simpa[Ab]using c⟩
 |v::b,K,h=>by
  obtain⟨x,f,g⟩:=Sm e d h
  obtain⟨xs,i,j⟩:=MI e d b f
  exact⟨x::xs,i,fun a c=>g b a (j _ (by simpa[Ab]using c))⟩
structure OutsOk (C:Cx) (γ:Aa→Nat) (bs:List Blk) (H':Hp):Prop where
 len:bs.length=C.outs
 g:∀i b,bs[i]?=some b→(H' (C.κ (0,i))).g=γ (0,i)+b.g
 live:∀i b,bs[i]?=some b→b.live=true→H' (C.κ (0,i))=Ah (C.r γ) (0,i) b
 o:∀k:Aa,¬C.no k→H' k=C.H0 k
theorem Ks{H:Hp}:∀(n i j:Nat),(DS H n i)[j]?=if j<n then some (H (0,i+j))else none
 |0,i,j=>by simp[DS]
 |n+1,i,0=>by simp[DS]
 |n+1,i,j+1=>by
  simp only[DS,Y8,Ks n (i+1) j]
  grind
theorem Nc{H:Hp}:∀(n i:Nat),(DS H n i).length=n
 |0,i=>rfl
 |n+1,i=>by simp[DS,Nc n]
theorem TX(l:CxOk C)(F:AG P T){o:List ResultVar}{LPost:AV→List Blk→Prop}{d:AV→Hp→Prop}{e:Exit}(J:∀γ y s q,C.G γ→LPost y s→OutsOk C γ s q→(C.outs=0→∀r,ren r y=y)→d (ren (C.r γ) y) q)
  (h:Is n C (FQ T o C.outs LPost e) σ):∃f,fins P C.l C.H0 o d e f∧Wk n C σ f:=by
 obtain⟨γ,τ,f,H,⟨z,a,A⟩,j,K⟩:=h
 refine⟨f,⟨z,?_⟩,K⟩
 obtain⟨xs,B,D⟩:=MI (P:=P) F j o A
 obtain⟨ys,M,g,w,E⟩:=J2 l j.h j.k xs B
 refine D _ ⟨ren (C.r γ) (BG ys),?_,?_⟩
 ·have hl:=g.1
  have g:=g.2
  have v:ren (C.r γ) (BG ys)=BG (Ab (C.r γ) ys):=by
   match ys with
   |[]=>simp[BG,ren,Ab]
   |[y]=>simp[BG,Ab]
   |y::t::ys=>simp[BG,ren,Ab]
  rw[v]
  generalize Ab (C.r γ) ys=p at hl g
  generalize Ab (C.r γ) xs=u at hl g
  match u,p,hl with
  |[],[],_=>exact .tup _ _ rfl fun i x y L=>by simp at L
  |[x],[y],_=>exact g 0 x y rfl rfl
  |x::x'::u,y::t::ys,hl=>exact .tup _ _ hl g
 ·refine J γ _ _ _ H E ⟨Nc _ _,fun i b hi=>?_,fun i b hi G=>?_,fun k I=>?_⟩ (fun e r=>?_)
  ·rw[Ks]at hi
   split at hi
   ·rename_i c
    simp only[YH,Yd]at hi
    subst hi
    rw[show DH C.l f.H C.H0 (C.κ (0,i))=f.H (C.κ (0,i))from Yt (l.out i c)]
    exact j.go i c
   grind
  ·rw[Ks]at hi
   split at hi
   ·rename_i c
    simp only[YH,Yd]at hi
    subst hi
    rw[show DH C.l f.H C.H0 (C.κ (0,i))=f.H (C.κ (0,i))from Yt (l.out i c)]
    exact j.h _ G
   grind
  ·unfold DH
   split
   ·rename_i m;exact j.o k m I
   ·rfl
  ·have:=w e r
   match ys with
   |[]=>simp[BG,ren,Ab]
   |[y]=>simp only[Ab,List.cons.injEq,and_true]at this;simpa[BG]using this
   |y::t::ys=>simp only[BG,ren,this]
def BJ:Nat→List AV→List (Nat×AV)
 |_,[]=>[]
 |i,x::xs=>(i,x)::BJ (i+1) xs
theorem N8{r:Ren}:∀(ys:List AV) (i j:Nat),ren r (AB (BJ i ys) (i+j))=args (Ab r ys) j
 |[],i,j=>by simp[BJ,AB,ren,Ab,args]
 |y::ys,i,0=>by simp[BJ,AB,Ab,args]
 |y::ys,i,j+1=>by
  have a:=N8 (r:=r) ys (i+1) j
  simp only[BJ,AB]
  split
  ·rename_i h;have:=Ya h;omega
  ·rw[show i+(j+1)=i+1+j from by omega,a]
   simp[args,Ab]
theorem NG{f:FuncId}{fn:Func}(z:List ResultVar){c:Code}{l:Nat}{xs:List AV}{H:Hp}{a:AV→Hp→Prop}{LPost:AV→List Blk→Prop}(C:Base→Cx){γ:Aa→Nat}{ys:List AV}{hs:List (Aa×Blk)}
  (O:P.funcs[f]?=some fn) (N:fn.body=some c) (g:(fn.name== "runtime.NumGoroutine")=false) (v:fn.ntmps=n) (W:fn.results.toList=z) (X:xs.length≤n) (M:AG P T)
  (u:∀B,CxOk (C B)) (I:∀B,(C B).l=l∧(C B).B=B∧(C B).H0=H∧(C B).G γ) (x:∀B,Ab ((C B).r γ) ys=xs) (Y:∀d,γ (1,d)=0) (S:∀d,Ae hs (1,d)=Ck)
  (b:∀B k,(Ae hs k).live=true→k.1=0∧k.2<(C B).outs∧H ((C B).κ k)=Ah ((C B).r γ) k (Ae hs k)) (R:∀B i,i<(C B).outs→(H ((C B).κ (0,i))).g=γ (0,i)+(Ae hs (0,i)).g)
  (U:∀B γ y E D,(C B).G γ→LPost y E→OutsOk (C B) γ E D→((C B).outs=0→∀r,ren r y=y)→a (ren ((C B).r γ) y) D)
  (h:∀B:Base,LW P n (C B) c (Ac (BJ 0 ys) hs) (FQ T z (C B).outs LPost)):ZaR P f l xs H a:=by
 refine Tl z O N g v W X fun B=>?_
 obtain⟨hl,t,s,Q⟩:=I B
 have J:RG ((C B).r γ) (C B).l (C B).outs [] (Ac (BJ 0 ys) hs) ⟨args xs,Br l H⟩:=by
  refine⟨fun j=>⟨fun _=>?_,fun v=>absurd Au v⟩,fun k m=>?_,fun d=>?_,fun i hi=>?_,fun k m=>.inr ⟨(b B k m).1,(b B k m).2.1⟩,fun k m _=>?_⟩
  ·have:=N8 (r:=(C B).r γ) ys 0 j
   rw[YH,x]at this
   exact this.symm
  ·obtain⟨p,q,F⟩:=b B k m
   show Br l H ((C B).κ k)=_
   obtain⟨k1,k2⟩:=k
   simp only at p q
   subst p
   rw[KY (by rw[←hl];exact(u B).out _ q)]
   exact F
  ·show(Br l H ((C B).l+1,d)).g=γ (1,d)+(Ae hs (1,d)).g
   rw[hl,TH,Y,S]
   rfl
  ·show(Br l H ((C B).κ (0,i))).g=γ (0,i)+(Ae hs (0,i)).g
   rw[KY (by rw[←hl];exact(u B).out _ hi)]
   grind
  ·show Br l H k=(C B).H0 k
   rw[s]
   exact KY (by rw[←hl];exact m)
 have:=h B γ _ Q J
 intro o w K
 rw[hl,t]at this
 refine wp_mono (this o w K) fun e G w' ⟨σ',V,L⟩=>?_
 obtain⟨A,p,q⟩:=TX (P:=P) (u B) M (U B) V
 rw[hl,s]at p
 have F:=q o w
 refine⟨A,p,?_⟩
 have Z:=q G w'
 grind
end
def AC:List (Nat×TI)→Nat→Option TI
 |[],_=>none
 |(i,x)::r,j=>match Nat.beq i j with|true=>some x|false=>AC r j
theorem OS{P:Program}:∀(tl:List (Nat×TI)),(∀p∈tl,TIok P p.1 p.2)→AG P (AC tl)
 |[],_,t,i,h=>by simp[AC]at h
 |(j,x)::r,b,t,i,h=>by
  simp only[AC]at h
  split at h
  ·rename_i he
   have he:=Ya he
   cases h
   subst he
   exact b _ (YC ..)
  ·exact OS r (fun p a=>b p (Yw _ a)) t i h
theorem TIok.of{P:Program}{t:TypeId}{i:TI}(f:BD P t=some i.agg)(k:Go.Eng.kin P t=i.kin)(m:P.cellsOf t=i.siz)(n:i.elm=none∨Go.Eng.elm P t=i.elm)
  (o:((List.range i.fld.length).map fun j=>(Go.Eng.fld P t j,FD P t j))=i.fld.map fun x=>(some (x.1,x.2.1),some x)) (p:i.zer=none∨Go.Eng.zer P t=i.zer) (q:i.eqt=none∨FV P t=i.eqt) (r:i.str=false∨FN P t=true)
  (s:i.ik=none∨P.underlying t=i.ik.map .int) (g:i.byt=none∨(∃b,P.bytesOf t≤b∧P.bytesOf t≠0∧i.byt=some b)) (c:i.zer=none∨(i.zer.getD []).all AV.flat=true) (d:i.mp=none∨FK P t=i.mp:=by first|exact .inl rfl|exact .inr (by kernel_rfl)):TIok P t i where
 agg:=f
 kin:=k
 siz:=m
 elm:=fun e h=>by rcases n with a|a<;>rw[h]at a<;>first|exact a|cases a
 fld:=fun j x h=>by
  have:=congrArg (fun l=>l[j]?) o
  grind
 zer:=fun e h=>by rcases p with a|a<;>rw[h]at a<;>first|exact a|cases a
 eqt:=fun e h=>by rcases q with a|a<;>rw[h]at a<;>first|exact a|cases a
 str:=fun h=>by rcases r with a|a<;>first|exact a|(rw[h]at a;cases a)
 ik:=fun e h=>by rcases s with a|a<;>rw[h]at a<;>first|exact a|cases a
 byt:=fun e h=>by
  grind
 mp:=fun z h=>by rcases d with a|a<;>rw[h]at a<;>first|exact a|cases a
 flt:=fun z h=>by rcases c with a|a<;>rw[h]at a<;>first|exact a|cases a
def IP(l:Nat)(θ:Nat→AV)(H:Hp)(B:Base):Cx:=⟨l,B,fun k=>(l+1,k.2),θ,H,0,fun _=>False,[],fun _=>True⟩
theorem Nm(l:Nat)(B:Base)(θ:Nat→AV)(H:Hp):CxOk (IP l θ H B):=⟨fun _=>rfl,fun i h=>absurd h (Hv _),fun i j h=>absurd h (Hv _),fun _ h=>h.elim,fun _ _ _ h=>h⟩
theorem SB{l:Nat}{θ:Nat→AV}{H:Hp}{B:Base}{γ:Aa→Nat}{b:List Blk}{a:Hp}(h:OutsOk (IP l θ H B) γ b a):a=H:=funext fun k=>h.o k id
end Go.Eng
