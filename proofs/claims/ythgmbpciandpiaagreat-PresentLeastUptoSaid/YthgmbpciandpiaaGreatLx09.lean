import Derived.Test.YthgmbpciandpiaaGreatLx08
import Derived.Test.YthgmbpciandpiaaGreatLx00
namespace Go.Eng
set_option linter.all false
open Go Go.RowKit
section
variable {P:Program} {T:Nat→Option TI} {n:Nat} {C:Cx} {τ σ:St} {Q:Exit→St→Prop}
theorem Wk.refl(σ:St):Wk n C σ σ:=fun _ _ h=>h
theorem Wk.trans{σ c b:St}(h:Wk n C σ c)(k:Wk n C c b):Wk n C σ b:=fun a w d=>k a w (h a w d)
theorem R.weaken{l:Nat}{B:Base}{s s':Nat→AV}{H:Hp}{a:Act}{w:World}(h:R l n B ⟨s,H⟩ a w)(hs:∀j,s' j=s j∨s' j=.top):R l n B ⟨s',H⟩ a w:=by
 obtain⟨m,S,d,g,b,f,c⟩:=h.un
 refine⟨m,S,d,g,b,fun i=>?_,c⟩
 show RepA w S H m (l+1) (s' i) _
 rcases hs i with e|e
 ·rw[e];exact f i
 ·rw[e];exact .top _
theorem Is.mono{Φ Ψ:St→Prop}(h:Is n C Φ σ)(e:∀τ,Φ τ→Ψ τ):Is n C Ψ σ:=by
 obtain⟨γ,τ,f,a,b,c,d⟩:=h;exact⟨γ,τ,f,a,e _ b,c,d⟩
theorem BT.weak{c:Code}{QQ:Exit→St→Prop}{b:St}(h:BT P C.l n C.B c QQ b)(e:Wk n C σ b):BT P C.l n C.B c QQ σ:=fun a w d=>h a w (e a w d)
theorem RO.weak{c:Code}{QQ:Exit→St→Prop}{b:St}(h:RO P C.l n C.B c QQ b)(e:Wk n C σ b):RO P C.l n C.B c QQ σ:=fun a w d=>h a w (e a w d)
theorem LW.mono{c:Code}{a:Exit→St→Prop}(h:LW P n C c τ Q)(d:∀e τ,Q e τ→a e τ):LW P n C c τ a:=fun γ σ hg b=>Hz (h γ σ hg b) fun e f hi=>hi.mono (d e)
theorem ZTm{x y:Code}(h:LW P n C x τ (fun e τ'=>match e with|.normal=>LW P n C y τ' Q|e=>Q e τ')):LW P n C (.seq x y) τ Q:=by
 intro γ σ hg g
 refine gG (Hz (h γ σ hg g) fun e j hi=>?_)
 cases e with
 |normal=>
  obtain⟨i,τ',a,b,c,d,f⟩:=hi
  exact BT.weak (c i a b d) f
 |_=>exact hi
theorem ZyV{id:Nat}{c:Code}(h:LW P n C c τ (fun e τ'=>match e with|.exit i=>if i=id then Q .normal τ' else Q (.exit i) τ'|e=>Q e τ')):LW P n C (.block id c) τ Q:=by
 intro γ σ hg a
 refine Zk9 (Hz (h γ σ hg a) fun e b hi=>?_)
 cases e with
 |exit i=>
  unfold Vb
  simp only at hi⊢
  split
  ·rename_i he;exact hi.mono fun τ' h=>by rw[Yg he]at h;exact h
  ·rename_i he;exact hi.mono fun τ' h=>by rw[Yj he]at h;exact h
 |_=>exact hi
theorem ZKC{c:Operand}{x y:Code}{b:Bool}(g:ev τ.s c=.d (.bool b))(d:b=true→LW P n C x τ Q)(f:b=false→LW P n C y τ Q):LW P n C (.cond c x y) τ Q:=by
 intro γ σ hg a
 have he:ev σ.s c=.d (.bool b):=by
  rw[Ko (c:=[]) a Ba (by cases c<;>rfl),g];simp[ren]
 exact OO he (fun e=>d e γ σ hg a) (fun e=>f e γ σ hg a)
theorem ZKF{c:Code}(h:LL P n C c τ Q):LW P n C (.loop c) τ Q:=by
 intro γ σ hg i a w j b k cs
 obtain⟨e,d,w',f,g⟩:=h γ σ hg i a w j b k cs
 exact⟨e,d,w',f,.of_steps (.one step_loop) g⟩
theorem Zpg{c:Code}(h:LW P n C c τ (fun e τ'=>match e with|.normal=>LL P n C c τ' Q|e=>Q e τ')):LL P n C c τ Q:=by
 intro γ σ hg y a w z b k cs
 obtain⟨e,i,l,⟨m,j,f⟩,d⟩:=h γ σ hg y a w z b (.inLoop c::k) cs
 cases e with
 |normal=>
  obtain⟨B,τ',p,s,t,u,v⟩:=j
  obtain⟨r,q,A,o,g⟩:=t B p s u i l (v _ _ f) b k cs
  exact⟨r,q,A,o,.of_steps (Steps.trans d (.one step_inLoop)) g⟩
 |exit id=>exact⟨_,i,l,⟨m,j,f⟩,.pass (x:=.inLoop c) rfl (fun _ _=>.inl (by simp)) d⟩
 |goto id=>exact⟨_,i,l,⟨m,j,f⟩,.pass (x:=.inLoop c) rfl (fun _ _=>.inl (by simp)) d⟩
 |ret=>exact⟨_,i,l,⟨m,j,f⟩,.pass (x:=.inLoop c) rfl (fun _ _=>.inl (by simp)) d⟩
 |panic ch=>exact⟨_,i,l,⟨m,j,f⟩,.pass (x:=.inLoop c) rfl (fun _ _=>.inl (by simp)) d⟩
 |outgrown=>exact⟨_,i,l,⟨m,j,f⟩,.pass (x:=.inLoop c) rfl (fun _ _=>.inl (by simp)) d⟩
theorem Is.of{γ:Ad→Nat}{Φ:St→Prop}(hg:C.G γ)(a:RG (C.r γ) C.l C.outs [] τ σ)(h:Φ τ):Is n C Φ σ:=⟨γ,τ,σ,hg,h,a,Wk.refl σ⟩
theorem Cz{a b:Ad}:BL a b=true↔a=b:=by
 obtain⟨a1,c⟩:=a
 obtain⟨d,e⟩:=b
 simp[BL]
theorem Zk6{H:Hp}{s:Nat→AV}:∀(ls:List Nat) (j:Nat),AN (Mn H s ls) j=nJ H (s j)∨AN (Mn H s ls) j=.top
 |[],j=>.inr rfl
 |i::r,j=>by
  simp only[Mn,AN]
  split
  ·rename_i h;rw[Yb h];exact .inl rfl
  ·exact Zk6 r j
def rebase(γ:Ad→Nat)(H:Hp):Ad→Nat:=fun k=>γ k+(H k).g
mutual
theorem Zxv{γ:Ad→Nat}{H:Hp}:∀{x y:AV},Eu H x=some y→ren (C.r (rebase γ H)) y=ren (C.r γ) x
 |.ref k g off m,y,h=>by
  simp only[Eu]at h
  split at h
  ·rename_i hl;cases h;obtain⟨b,_⟩:=DZ hl;subst b;simp[ren,Cx.r,rebase]
  ·cases h
 |.ptr k g off,y,h=>by
  simp only[Eu]at h
  split at h
  ·rename_i hl;cases h;obtain⟨b,_⟩:=DZ hl;subst b;simp[ren,Cx.r,rebase]
  ·cases h
 |.mp k g,y,h=>by
  simp only[Eu]at h
  split at h
  ·rename_i hl;cases h;obtain⟨b,_⟩:=DZ hl;subst b;simp[ren,Cx.r,rebase]
  ·cases h
 |.fn f xs ys,y,h=>by
  simp only[Eu]at h
  split at h
  ·rename_i xs' i b e
   cases h
   have c:=Mi (γ:=γ) b
   have d:=Mi (γ:=γ) e
   cases f<;>simp only[ren,c,d]<;>rfl
  ·cases h
 |.agg xs,y,h=>by
  simp only[Eu]at h
  split at h
  ·rename_i xs' b;cases h;simp only[ren,Mi (γ:=γ) b]
  ·cases h
 |.tup xs,y,h=>by
  simp only[Eu]at h
  split at h
  ·rename_i xs' b;cases h;simp only[ren,Mi (γ:=γ) b]
  ·cases h
 |.top,y,h=>by simp only[Eu]at h;cases h;simp[ren]
 |.d x,y,h=>by simp only[Eu]at h;cases h;simp[ren]
 |.e0,y,h=>by simp only[Eu]at h;cases h;simp[ren]
 |.p x,y,h=>by simp only[Eu]at h;cases h;simp[ren]
 |.iptr cs off,y,h=>by simp only[Eu]at h;cases h;simp[ren]
 |.ifc t ds a,y,h=>by simp only[Eu]at h;cases h;simp[ren]
theorem Mi{γ:Ad→Nat}{H:Hp}:∀{xs ys:List AV},HV H xs=some ys→Aq (C.r (rebase γ H)) ys=Aq (C.r γ) xs
 |[],ys,h=>by simp only[HV]at h;cases h;simp[Aq]
 |x::xs,ys,h=>by
  simp only[HV]at h
  split at h
  ·rename_i x' xs' a b;cases h;simp only[Aq,Zxv (γ:=γ) a,Mi (γ:=γ) b]
  ·cases h
end
def Qj(C:Cx)(γ:Ad→Nat)(H:Hp)(hs:List (Ad×Blk)):Prop:=
 (∀k,(AI hs k).g=0)∧∀k,(AI hs k).live=true→(H k).live=true∧(AI hs k).e=(H k).e∧(AI hs k).sz=(H k).sz∧Aq (C.r (rebase γ H)) (AI hs k).cells=Aq (C.r γ) (H k).cells
theorem Hy{r:Ren}{cs:List AV}(h:Gh cs):Aq r cs=cs:=Ke (Yq.2 h)
theorem Qj.cons{γ:Ad→Nat}{H:Hp}{hs:List (Ad×Blk)}(h:Qj C γ H hs){k:Ad}{cs:List AV}(hl:(H k).live=true)(b:Aq (C.r (rebase γ H)) cs=Aq (C.r γ) (H k).cells):Qj C γ H ((k,⟨0,true,(H k).e,(H k).sz,cs⟩)::hs):=by
 refine⟨fun q=>?_,fun q a=>?_⟩
 ·simp only[AI]
  split
  ·rfl
  ·exact h.1 q
 ·simp only[AI]at a⊢
  split at a
  ·rename_i he
   have he:=Cz.1 he
   grind
  ·exact h.2 q a
theorem TH{γ:Ad→Nat}{H:Hp}:∀(ks:List (Ad×Bool)) {K:List (Ad×Blk)→Prop},MH H ks K→∃hs,K hs∧Qj C γ H hs
 |[],K,h=>⟨[],h,fun k=>rfl,fun k d=>by simp[AI,Fi]at d⟩
 |(k,fl)::r,K,h=>by
  simp only[MH]at h
  split at h
  ·exact TH r h
  ·rename_i hl
   split at h
   ·obtain⟨hs,a,b⟩:=TH (γ:=γ) r h.2
    exact⟨_,a,b.cons hl (by rw[Hy h.1,Hy h.1])⟩
   ·split at h
    ·rename_i cs c
     obtain⟨hs,a,b⟩:=TH (γ:=γ) r h
     exact⟨_,a,b.cons hl (Mi c)⟩
    grind
theorem vH{H:Hp}:∀{fx:List Nat},gz H fx=true→∀i∈fx,(H (0,i)).g=0
 |i::r,h,j,a=>by
  simp only[gz,Yc]at h
  rcases YG.1 a with rfl|a
  ·exact Yb h.1
  ·exact vH h.2 j a
theorem h9{x:AV}(h:R5 x=true):x=.e0:=by cases x<;>first|rfl|cases h
theorem fP(c:CxOk C){Φ:St→Prop}{γ:Ad→Nat}:∀(ad:List (Nat×Nat×TypeId×Nat)) (τ σ:St),Pm ad τ Φ→RG (C.r γ) C.l C.outs [] τ σ→∃τ' f,Φ τ'∧RG (C.r γ) C.l C.outs [] τ' f∧Wk n C σ f
 |[],τ,σ,h,b=>⟨τ,σ,h,b,Wk.refl σ⟩
 |(j,d,e,sz)::r,τ,σ,h,b=>by
  simp only[Pm]at h
  split at h
  ·rename_i he hl
   have k:σ.s j=.e0:=by rw[(b.s j).1 Ba,h9 he];simp[ren]
   have o:=b.put (e:=j) (ch:=[]) rfl rfl (v:=.ref (1,d) ((τ.H (1,d)).g+1) 0 0) (y:=.ref (C.l+1,d) ((σ.H (C.l+1,d)).g+1) 0 0) (fun _=>by rw[b.g];simp only[ren];rw[show(C.r γ).κ (1,d)=(C.l+1,d)from c.own d,YE]) (fun g=>absurd Ba g)
   have a:=RG.updH (c.ren γ) o (1,d) ⟨(τ.H (1,d)).g+1,true,e,sz,[]⟩ rfl (.inl rfl)
   have m:AL (C.r γ) (1,d) ⟨(τ.H (1,d)).g+1,true,e,sz,[]⟩=⟨(σ.H (C.l+1,d)).g+1,true,e,sz,[]⟩:=by
    simp only[AL,b.g,Aq,YE]
   rw[m,show(C.r γ).κ (1,d)=(C.l+1,d)from c.own d]at a
   have p:RG (C.r γ) C.l C.outs [] ⟨upd τ.s j (.ref (1,d) ((τ.H (1,d)).g+1) 0 0),updH τ.H (1,d) ⟨(τ.H (1,d)).g+1,true,e,sz,[]⟩⟩ ⟨upd σ.s j (.ref (C.l+1,d) ((σ.H (C.l+1,d)).g+1) 0 0),updH σ.H (C.l+1,d) ⟨(σ.H (C.l+1,d)).g+1,true,e,sz,[]⟩⟩:=
    ⟨fun i=>⟨fun _=>(a.s i).1 (by rw[ip];split<;>exact Ba),fun g=>absurd Ba g⟩,a.h,a.g,a.go,a.k,a.o⟩
   obtain⟨τ',f,t,u,x⟩:=fP c r _ _ h p
   refine⟨τ',f,t,u,Wk.trans (fun l w q=>?_) x⟩
   obtain⟨s,H⟩:=σ
   exact R.adopt (e:=e) (sz:=sz) q (C.l+1,d) rfl _ (DX _) k
  ·grind
  ·exact fP c r τ σ h b
theorem gU{γ:Ad→Nat}:∀(ze:List Nat) (τ σ:St),RG (C.r γ) C.l C.outs [] τ σ→∃f,RG (C.r γ) C.l C.outs [] (Nm ze τ) f∧Wk n C σ f
 |[],τ,σ,b=>⟨σ,b,Wk.refl σ⟩
 |j::r,τ,σ,b=>by
  simp only[Nm]
  split
  ·rename_i he
   have d:σ.s j=.e0:=by rw[(b.s j).1 Ba,h9 he];simp[ren]
   have a:=b.put (e:=j) (ch:=[]) rfl rfl (v:=.d (.list [])) (y:=.d (.list [])) (fun _=>by simp[ren]) (fun c=>absurd Ba c)
   have o:RG (C.r γ) C.l C.outs [] ⟨upd τ.s j (.d (.list [])),τ.H⟩ ⟨upd σ.s j (.d (.list [])),σ.H⟩:=
    ⟨fun i=>⟨fun _=>(a.s i).1 (by rw[ip];split<;>exact Ba),fun c=>absurd Ba c⟩,a.h,a.g,a.go,a.k,a.o⟩
   obtain⟨f,t,u⟩:=gU r _ _ o
   refine⟨f,t,Wk.trans (fun l w q=>?_) u⟩
   obtain⟨s,H⟩:=σ
   obtain⟨m,S,p,c,g,k,h⟩:=q.un
   refine⟨m,S,p,c,g,fun i=>?_,h⟩
   show RepA w S H m (C.l+1) (upd s j (.d (.list [])) i) _
   unfold upd
   by_cases hi:i=j
   ·subst hi
    rw[Yg rfl]
    have:=k i
    simp only at d
    rw[d]at this
    exact this.e0_d
   ·rw[Yj hi];exact k i
  ·exact gU r τ σ b
theorem Hx(t:CxOk C){Φ:St→Prop}{γ:Ad→Nat}{f:Lf}(h:FL C.fx f τ Φ)(hg:C.G γ)(D:RG (C.r γ) C.l C.outs [] τ σ):Is n C Φ σ:=by
 obtain⟨J,o,r⟩:=gU (n:=n) f.ze τ σ D
 obtain⟨a,g,l,b,m⟩:=fP (n:=n) t f.ad (Nm f.ze τ) J h o
 replace m:=Wk.trans r m
 split at l
 case h_2=>exact l.elim
 rename_i p
 obtain⟨hs,I,c⟩:=TH (C:=C) (γ:=γ) f.ks l
 refine⟨rebase γ a.H,_,⟨fun j=>ren (C.r (rebase γ a.H)) (AN (Mn a.H a.s f.ls) j),g.H⟩,t.G γ _ (fun i hi=>by unfold rebase;rw[vH p i hi];rfl) hg,I,⟨fun j=>⟨fun _=>rfl,fun F=>absurd Ba F⟩,fun k q=>?_,fun d=>?_,fun i hi=>?_,fun k q=>?_,b.o⟩,m.trans fun u w E=>?_⟩
 ·obtain⟨x,z,A,B⟩:=c.2 k q
  have y:=c.1 k
  show g.H (C.κ k)=_
  have:=b.h k x
  rw[show(C.r γ).κ k=C.κ k from rfl]at this
  rw[this]
  simp only[AL]
  show _=Blk.mk (rebase γ a.H k+(AI hs k).g) true (AI hs k).e (AI hs k).sz (Aq (C.r (rebase γ a.H)) (AI hs k).cells)
  rw[y,z,A,B]
  rfl
 ·show(g.H (C.l+1,d)).g=rebase γ a.H (1,d)+(AI hs (1,d)).g
  have e0:(AI hs (1,d)).g=0:=c.1 _
  rw[e0,b.g]
  rfl
 ·show(g.H (C.κ (0,i))).g=rebase γ a.H (0,i)+(AI hs (0,i)).g
  have e0:(AI hs (0,i)).g=0:=c.1 _
  rw[e0]
  exact b.go i hi
 ·exact b.k k (c.2 k q).1
 ·obtain⟨s,H⟩:=g
  refine R.weaken E fun j=>?_
  rcases Zk6 (H:=a.H) (s:=a.s) f.ls j with e|e
  ·simp only[e]
   unfold nJ
   split
   ·rename_i v G
    left
    rw[Zxv (γ:=γ) G]
    exact((b.s j).1 Ba).symm
   ·right;simp[ren]
  ·right;simp only[e];simp[ren]
end
end Go.Eng
namespace Go.Eng
set_option linter.all false
open Go Go.RowKit
def KF(T:Nat→Option TI)(c:List ResultVar)(os:Nat)(b:AV→List Blk→Prop):Exit→St→AT→Prop
 |.normal,τ,a=>Ol T c os τ a b
 |.ret,τ,a=>Ol T c os τ a b
 |_,_,_=>False
def KB(T:Nat→Option TI)(d:List ResultVar)(os:Nat)(fx:List Nat)(r:Ren)(b:AV→List Blk→Prop)(lf c:Lf)(Q:Exit→St→Prop):Exit→St→AT→Prop
 |.ret,τ,a=>Ol T d os τ a b
 |.normal,τ,a=>Bu r os a τ (fun τ _=>FL fx lf τ (Q .normal))
 |.exit i,τ,a=>Bu r os a τ (fun τ _=>FL fx c τ (Q (.exit i)))
 |_,_,_=>False
section
variable {P:Program} {T:Nat→Option TI} {n:Nat} {C:Cx} {τ σ:St} {Q:Exit→St→Prop}
theorem TS{l:Nat}{ds:List (Option Nat)}:∀(ops:List Oper) {K b:St→Prop} {σ:St},(∀σ,K σ→b σ)→D7 P l n ds ops K σ→D7 P l n ds ops b σ
 |[],K,b,σ,a,h=>a _ h
 |o::rest,K,b,σ,a,h=>by
  unfold D7 at h⊢
  split at h
  ·exact T0 (fun σ h=>TS rest a h) h
  ·split at h
   ·refine⟨fun e=>T0 (fun σ h=>TS rest a h) (h.1 e),fun e=>?_⟩
    have c:=h.2 e
    split at c
    ·exact⟨c.1,TS rest a c.2⟩
    grind
   grind
theorem OI{γ:Ad→Nat}{env:B4}(h:RG (C.r γ) C.l C.outs env τ σ):∃a,RG (C.r γ) C.l C.outs [] (El env τ) a∧Wk n C σ a:=by
 refine⟨⟨fun j=>ren (C.r γ) ((El env τ).s j),σ.H⟩,⟨fun j=>⟨fun _=>rfl,fun d=>absurd Ba d⟩,h.h,h.g,h.go,h.k,h.o⟩,fun b w c=>?_⟩
 obtain⟨s,H⟩:=σ
 refine R.weaken c fun j=>?_
 simp only[El]
 split
 ·rename_i he
  left
  exact((h.s j).1 (by rw[he];exact Ba)).symm
 ·right;simp[ren]
def cO(n:Nat)(C:Cx)(γ:Ad→Nat)(K:Exit→St→AT→Prop)(e:Exit)(σ:St):Prop:=∃τ a b,K e τ a∧RG (C.r γ) C.l C.outs [] τ b∧Wk n C σ b
theorem ZlG{r:Ren}{H a:Hp}(l:RenOk r C.l C.outs)(o:DM r H a){d:Nat}{s s':Nat→AV}(hs:∀j,s' j=ren r (s j)){A:Prop}:∀{m:List (Nat×List (List D))},WU H d s A m→A∧∀p∈m,∃off c,s' p.1=.ref (C.l+1,d) (a (C.l+1,d)).g off c∧
  p.2.length=c∧(∀e∈p.2,e.length=(a (C.l+1,d)).sz)∧(off+c)*(a (C.l+1,d)).sz≤(a (C.l+1,d)).cells.length∧((a (C.l+1,d)).cells.drop (off*(a (C.l+1,d)).sz)).take (c*(a (C.l+1,d)).sz)=p.2.flatten.map .d
 |[],h=>⟨h,fun p f=>by cases f⟩
 |(j,es)::m,h=>by
  simp only[WU]at h
  split at h
  case h_2=>exact h.elim
  rename_i k q off c w
  split at h
  case h_2=>exact h.elim
  rename_i i hl
  have i:=Cz.1 i
  subst i
  obtain⟨⟨f1,f2,f3,f4,f5⟩,h⟩:=h
  obtain⟨v,x⟩:=ZlG l o hs h
  obtain⟨n,t,u,b,g⟩:=o.at hl
  rw[l.own]at n t u b g
  refine⟨v,fun p f=>?_⟩
  rcases YG.1 f with rfl|f
  ·refine⟨off,c,by rw[hs,w];simp[ren,l.own,n],f1,by rw[b];exact f3,by rw[b,g,CN];exact f4,?_⟩
   rw[b,g,E0,Fy,f5,HF]
  grind
theorem Zk2{r:Ren}{H a:Hp}(s:RenOk r C.l C.outs)(m:DM r H a){d:Nat}{A:Prop}:∀{cs:List (Ad×Nat×List (List D))},WR H d A cs→A∧∀p∈cs,p.1.1=1∧p.1≠(1,d)∧(H p.1).live=true∧∃off c,(a (r.κ p.1)).cells[p.2.1]?=some (.ref (C.l+1,d) (a (C.l+1,d)).g off c)∧
  p.2.2.length=c∧(∀e∈p.2.2,e.length=(a (C.l+1,d)).sz)∧(off+c)*(a (C.l+1,d)).sz≤(a (C.l+1,d)).cells.length∧((a (C.l+1,d)).cells.drop (off*(a (C.l+1,d)).sz)).take (c*(a (C.l+1,d)).sz)=p.2.2.flatten.map .d
 |[],h=>⟨h,fun p j=>by cases j⟩
 |(k,i,es)::cs,h=>by
  simp only[WR]at h
  split at h
  case h_2=>exact h.elim
  rename_i k' q off c z f b u
  split at h
  case h_2=>exact h.elim
  rename_i n hl
  have n:=Cz.1 n
  subst n
  obtain⟨⟨f1,f2,f3,f4,f5⟩,h⟩:=h
  obtain⟨x,B⟩:=Zk2 s m h
  obtain⟨t,v,w,g,l⟩:=m.at hl
  rw[s.own]at t v w g l
  refine⟨x,fun p j=>?_⟩
  rcases YG.1 j with rfl|j
  ·have y:=m k b
   have o:k≠(1,d):=fun e=>by rw[Cz.2 e]at f;cases f
   refine⟨Yb z,o,b,off,c,?_,f1,by rw[g];exact f3,by rw[g,l,CN];exact f4,?_⟩
   ·rw[y]
    simp only[AL,HA]
    rw[Ct]at u
    rw[u]
    simp[ren,s.own,t]
   ·rw[g,l,E0,Fy,f5,HF]
  grind
theorem ZoD{r:Ren}:∀(b:List (Nat×List (List D))) {s s':Nat→AV},(∀j,s' j=ren r (s j))→∀j,IE b s' j=ren r (IE b s j)
 |[],s,s',h,j=>h j
 |(i,es)::b,s,s',h,j=>ZoD b (s:=upd s i (.d (.list es))) (s':=upd s' i (.d (.list es))) (fun q=>by
   simp only[upd]
   by_cases a:q=i
   ·rw[Yg a,Yg a];simp[ren]
   ·rw[Yj a,Yj a];exact h q) j
theorem TU{r:Ren}(xs:List AV)(i:Nat)(x:AV):(Aq r xs).set i (ren r x)=Aq r (xs.set i x):=by rw[FA,FA,List.map_set]
theorem Zss{γ:Ad→Nat}(c:CxOk C):∀(cs:List (Ad×Nat×List (List D))) {τ σ:St},(∀p∈cs,p.1.1=1∧(τ.H p.1).live=true)→RG (C.r γ) C.l C.outs [] τ σ→
  RG (C.r γ) C.l C.outs [] ⟨τ.s,Hn cs τ.H⟩ ⟨σ.s,Hn (cs.map fun p=>((C.r γ).κ p.1,p.2)) σ.H⟩
 |[],τ,σ,_,h=>h
 |(k,i,es)::cs,τ,σ,d,h=>by
  obtain⟨g,a⟩:=d _ (YB ..)
  have j:=h.h k a
  have b:=RG.updH (c.ren γ) h k ⟨(τ.H k).g,true,(τ.H k).e,(τ.H k).sz,(τ.H k).cells.set i (.d (.list es))⟩ rfl (.inl g)
  have e:AL (C.r γ) k ⟨(τ.H k).g,true,(τ.H k).e,(τ.H k).sz,(τ.H k).cells.set i (.d (.list es))⟩=⟨(σ.H ((C.r γ).κ k)).g,(σ.H ((C.r γ).κ k)).live,(σ.H ((C.r γ).κ k)).e,(σ.H ((C.r γ).κ k)).sz,(σ.H ((C.r γ).κ k)).cells.set i (.d (.list es))⟩:=by
   rw[j]
   simp only[AL]
   rw[←TU]
   simp[ren]
  rw[e]at b
  have f:(⟨(τ.H k).g,true,(τ.H k).e,(τ.H k).sz,(τ.H k).cells.set i (.d (.list es))⟩:Blk)=⟨(τ.H k).g,(τ.H k).live,(τ.H k).e,(τ.H k).sz,(τ.H k).cells.set i (.d (.list es))⟩:=by rw[a]
  rw[f]at b
  have:=Zss c cs (fun p l=>by
   obtain⟨m,n⟩:=d p (Ys _ l)
   refine⟨m,?_⟩
   show(updH τ.H k _ p.1).live=true
   unfold updH
   split
   ·exact a
   ·exact n) b
  exact this
theorem fM{r:Ren}{cs:List AV}(h:Ge cs):Ge (Aq r cs):=fun x a=>by
 rw[FA]at a
 obtain⟨y,hy,rfl⟩:=YI.1 a
 have:=h y hy
 cases y with
 |d d=>simp[ren]
 |_=>cases this
theorem sg{H:Hp}{d:Nat}{s:Nat→AV}:∀{b:List Nat},WW H d s b=true→∀j∈b,∃g,s j=.mp (1,d) g∧BO H (1,d) g=true
 |[],_,j,a=>by cases a
 |i::r,h,j,a=>by
  simp only[WW]at h
  split at h
  ·rename_i k g he
   simp only[Yc]at h
   have c:=Cz.1 h.1.1
   subst c
   rcases YG.1 a with rfl|a
   ·grind
   ·exact sg h.2 j a
  ·cases h
theorem sK{H:Hp}{d:Nat}{s:Nat→AV}:∀{b:List Nat},WZ H d s b=true→∀j∈b,∃g,s j=.ptr (1,d) g 0∧BO H (1,d) g=true
 |[],_,j,a=>by cases a
 |i::r,h,j,a=>by
  simp only[WZ]at h
  split at h
  ·rename_i k g he
   simp only[Yc]at h
   have c:=Cz.1 h.1.1
   subst c
   rcases YG.1 a with rfl|a
   ·grind
   ·exact sK h.2 j a
  ·cases h
theorem Cn(I:CxOk C){γ:Ad→Nat}:∀(a:AT) {τ σ:St} {K:St→AT→Prop},Bu (C.r γ) C.outs a τ K→RG (C.r γ) C.l C.outs [] τ σ→∃τ' G F,K τ' G∧RG (C.r γ) C.l C.outs [] τ' F∧Wk n C σ F
 |.frz d V cs b,τ,σ,K,h,f=>by
  have l:=I.ren γ
  have hs:∀j,σ.s j=ren (C.r γ) (τ.s j):=fun j=>(f.s j).1 Ba
  simp only[Bu]at h
  split at h
  case h_2=>exact h.elim
  rename_i hl hz
  have hz:=Yh hz
  obtain⟨h,hjs⟩:=ZlG l f.h hs h
  obtain⟨h,hcs⟩:=Zk2 l f.h h
  have t:=f.h _ hl
  rw[l.own]at t
  have z:(σ.H (C.l+1,d)).live=true:=by rw[t];rfl
  have U:(σ.H (C.l+1,d)).sz=(τ.H (1,d)).sz:=by rw[t];rfl
  have o:(σ.H (C.l+1,d)).g=(C.r γ).γ (1,d)+(τ.H (1,d)).g:=by rw[t];rfl
  have u:=RG.updK l f (1,d) ⟨(τ.H (1,d)).g,false,(τ.H (1,d)).e,(τ.H (1,d)).sz,(τ.H (1,d)).cells⟩ {σ.H (C.l+1,d)with live:=false } (fun e=>by cases e) o (.inl rfl)
  rw[l.own]at u
  have A:=Zss I cs (fun p hp=>by
   obtain⟨q1,q2,q3,_⟩:=hcs p hp
   refine⟨q1,?_⟩
   show(updH τ.H (1,d) _ p.1).live=true
   rw[AJ _ _ q2]
   exact q3) u
  have Q:RG (C.r γ) C.l C.outs [] ⟨IE V τ.s,Hn cs (updH τ.H (1,d) ⟨(τ.H (1,d)).g,false,(τ.H (1,d)).e,(τ.H (1,d)).sz,(τ.H (1,d)).cells⟩)⟩
    ⟨IE V σ.s,Hn (cs.map fun p=>((C.r γ).κ p.1,p.2)) (updH σ.H (C.l+1,d) {σ.H (C.l+1,d)with live:=false })⟩:=
   ⟨fun j=>⟨fun _=>ZoD V hs j,fun T=>absurd Ba T⟩,A.h,A.g,A.go,A.k,A.o⟩
  obtain⟨τ',G,F,N,v,O⟩:=Cn I b h Q
  refine⟨τ',G,F,N,v,Wk.trans (fun L w M=>?_) O⟩
  obtain⟨s,H⟩:=σ
  refine R.freeze M (k:=(C.l+1,d)) (Yf _) z (by rw[U];omega) V (cs.map fun p=>((C.r γ).κ p.1,p.2)) hjs (fun p hp=>?_)
  obtain⟨pp,hpp,rfl⟩:=YI.1 hp
  obtain⟨q1,q2,q3,q4⟩:=hcs pp hpp
  obtain⟨⟨p1,p2⟩,p3⟩:=pp
  simp only at q1 q2 q3 q4
  subst q1
  have hlv:(H ((C.r γ).κ (1,p2))).live=true:=by have:=f.h _ q3;simp only at this;rw[this];rfl
  exact⟨by simp only;rw[l.own];intro e;simp at e;exact q2 (by rw[e]),by simp only;rw[l.own];exact Yf _,hlv,q4⟩
 |.adc k i d e sz b,τ,σ,K,h,f=>by
  have l:=I.ren γ
  simp only[Bu]at h
  split at h
  case h_2=>exact h.elim
  rename_i P hne hlv E
  have P:=Yb P
  have hne:k≠(1,d):=fun e=>by rw[Cz.2 e]at hne;cases hne
  obtain⟨N,v⟩:=k
  simp only at P
  subst P
  have t:=f.h _ hlv
  have u:=RG.updH l f (1,d) ⟨(τ.H (1,d)).g+1,true,e,sz,[]⟩ rfl (.inl rfl)
  have A:=RG.updH l u (1,v) ⟨(τ.H (1,v)).g,true,(τ.H (1,v)).e,(τ.H (1,v)).sz,(τ.H (1,v)).cells.set i (.ref (1,d) ((τ.H (1,d)).g+1) 0 0)⟩ rfl (.inl rfl)
  have e1:AL (C.r γ) (1,d) ⟨(τ.H (1,d)).g+1,true,e,sz,[]⟩=⟨(σ.H (C.l+1,d)).g+1,true,e,sz,[]⟩:=by simp only[AL,f.g,Aq,YE]
  have e2:AL (C.r γ) (1,v) ⟨(τ.H (1,v)).g,true,(τ.H (1,v)).e,(τ.H (1,v)).sz,(τ.H (1,v)).cells.set i (.ref (1,d) ((τ.H (1,d)).g+1) 0 0)⟩=
    ⟨(σ.H (C.l+1,v)).g,(σ.H (C.l+1,v)).live,(σ.H (C.l+1,v)).e,(σ.H (C.l+1,v)).sz,(σ.H (C.l+1,v)).cells.set i (.ref (C.l+1,d) ((σ.H (C.l+1,d)).g+1) 0 0)⟩:=by
   rw[l.own]at t
   rw[t]
   simp only[AL]
   rw[←TU]
   simp[ren,l.own,f.g,YE]
  rw[e1,e2,l.own,l.own]at A
  obtain⟨τ',G,F,j1,j2,j3⟩:=Cn I b h A
  refine⟨τ',G,F,j1,j2,Wk.trans (fun L w M=>?_) j3⟩
  obtain⟨s,H⟩:=σ
  rw[Ct]at E
  exact R.adoptC M (k:=(C.l+1,d)) (kp:=(C.l+1,v)) rfl rfl (fun e=>by simp at e;exact hne (by rw[e])) (by rw[l.own]at t;simp only at t;rw[t];rfl) (by rw[l.own]at t;simp only at t;rw[t];simp only[AL,HA,E];simp[ren])
 |.ads j d e sz b,τ,σ,K,h,f=>by
  have l:=I.ren γ
  simp only[Bu]at h
  split at h
  case h_2=>exact h.elim
  rename_i he
  have hsj:σ.s j=.e0:=by rw[(f.s j).1 Ba,h9 he];simp[ren]
  have u:=RG.updH l f (1,d) ⟨(τ.H (1,d)).g+1,true,e,sz,[]⟩ rfl (.inl rfl)
  have e1:AL (C.r γ) (1,d) ⟨(τ.H (1,d)).g+1,true,e,sz,[]⟩=⟨(σ.H (C.l+1,d)).g+1,true,e,sz,[]⟩:=by simp only[AL,f.g,Aq,YE]
  rw[e1,l.own]at u
  have Q:RG (C.r γ) C.l C.outs [] ⟨upd τ.s j (.ref (1,d) ((τ.H (1,d)).g+1) 0 0),updH τ.H (1,d) ⟨(τ.H (1,d)).g+1,true,e,sz,[]⟩⟩ ⟨upd σ.s j (.ref (C.l+1,d) ((σ.H (C.l+1,d)).g+1) 0 0),updH σ.H (C.l+1,d) ⟨(σ.H (C.l+1,d)).g+1,true,e,sz,[]⟩⟩:=
   ⟨fun i=>⟨fun _=>by
    simp only[upd]
    by_cases hi:i=j
    ·rw[Yg hi,Yg hi];simp[ren,l.own,f.g,YE]
    ·rw[Yj hi,Yj hi];exact(f.s i).1 Ba,fun T=>absurd Ba T⟩,u.h,u.g,u.go,u.k,u.o⟩
  obtain⟨τ',G,F,N,v,O⟩:=Cn I b h Q
  refine⟨τ',G,F,N,v,Wk.trans (fun L w M=>?_) O⟩
  obtain⟨s,H⟩:=σ
  exact R.adopt (e:=e) (sz:=sz) M (C.l+1,d) rfl _ (DX _) hsj
 |.trim k c b,τ,σ,K,h,f=>by
  have l:=I.ren γ
  simp only[Bu]at h
  split at h
  case h_2=>exact h.elim
  rename_i hl
  obtain⟨⟨m,hm⟩,h⟩:=h
  have t:=f.h k hl
  have hko:Bu (C.r γ) C.outs b ⟨τ.s,updH τ.H k ⟨(τ.H k).g,true,(τ.H k).e,(τ.H k).sz,c⟩⟩ K∧JW (C.r γ) C.outs k:=by
   unfold trK at h
   split at h
   ·rename_i P;exact⟨h,.inl (Yb P)⟩
   ·rcases f.k k hl with h5|⟨_,h5⟩
    ·have:=h.1.1;omega
    ·exact⟨h.2,.inr ⟨h.1.1,h5,h.1.2⟩⟩
  obtain⟨h,hko⟩:=hko
  have u:=RG.updH l f k ⟨(τ.H k).g,true,(τ.H k).e,(τ.H k).sz,c⟩ rfl hko
  have e1:AL (C.r γ) k ⟨(τ.H k).g,true,(τ.H k).e,(τ.H k).sz,c⟩=⟨(σ.H ((C.r γ).κ k)).g,(σ.H ((C.r γ).κ k)).live,(σ.H ((C.r γ).κ k)).e,(σ.H ((C.r γ).κ k)).sz,(σ.H ((C.r γ).κ k)).cells.take m⟩:=by
   rw[t]
   simp only[AL,Fy,hm]
  rw[e1]at u
  obtain⟨τ',G,F,N,v,O⟩:=Cn I b h u
  refine⟨τ',G,F,N,v,Wk.trans (fun L w M=>?_) O⟩
  obtain⟨s,H⟩:=σ
  have hle:((C.r γ).κ k).1≤C.l+1:=by
   obtain⟨N,v⟩:=k
   have:=hko.lk
   simp only at this
   rcases this with rfl|⟨rfl,A⟩
   ·rw[l.own];exact Yf _
   ·exact QX (l.out v A)
  exact R.trim M hle (by have B:=t;simp only at B;rw[B];rfl) m
 |.reb j d m c b,τ,σ,K,h,f=>by
  have l:=I.ren γ
  simp only[Bu]at h
  split at h
  case h_2=>exact h.elim
  rename_i k q off n hsj
  split at h
  case h_2=>exact h.elim
  rename_i hkd hq
  have P:k=(1,d):=Cz.1 hkd
  subst P
  obtain⟨hq1,hl⟩:=DZ hq
  subst hq1
  obtain⟨⟨hnm,hlen,E⟩,h⟩:=h
  subst E
  subst hnm
  have t:=f.h (1,d) hl
  rw[l.own]at t
  have z:(σ.H (C.l+1,d)).live=true:=by rw[t];rfl
  have U:(σ.H (C.l+1,d)).sz=(τ.H (1,d)).sz:=by rw[t];rfl
  have o:(σ.H (C.l+1,d)).g=(C.r γ).γ (1,d)+(τ.H (1,d)).g:=by rw[t];rfl
  have hcr:(σ.H (C.l+1,d)).cells=Aq (C.r γ) (τ.H (1,d)).cells:=by rw[t];rfl
  have Z:(σ.H (C.l+1,d)).e=(τ.H (1,d)).e:=by rw[t];rfl
  have hs:σ.s j=.ref (C.l+1,d) (σ.H (C.l+1,d)).g off n:=by rw[(f.s j).1 Ba,hsj];simp only[ren];rw[l.own,o]
  have u:=RG.updH l f (1,d) ⟨(τ.H (1,d)).g+1,true,.t (τ.H (1,d)).e.ty,(τ.H (1,d)).sz,(τ.H (1,d)).cells.drop (off*(τ.H (1,d)).sz)⟩ rfl (.inl rfl)
  have e1:AL (C.r γ) (1,d) ⟨(τ.H (1,d)).g+1,true,.t (τ.H (1,d)).e.ty,(τ.H (1,d)).sz,(τ.H (1,d)).cells.drop (off*(τ.H (1,d)).sz)⟩=⟨(σ.H (C.l+1,d)).g+1,true,.t (σ.H (C.l+1,d)).e.ty,(σ.H (C.l+1,d)).sz,(σ.H (C.l+1,d)).cells.drop (off*(σ.H (C.l+1,d)).sz)⟩:=by
   simp only[AL,o,Z,U,hcr,E0,YE]
  rw[e1,l.own]at u
  have Q:RG (C.r γ) C.l C.outs [] ⟨upd τ.s j (.ref (1,d) ((τ.H (1,d)).g+1) 0 n),updH τ.H (1,d) ⟨(τ.H (1,d)).g+1,true,.t (τ.H (1,d)).e.ty,(τ.H (1,d)).sz,(τ.H (1,d)).cells.drop (off*(τ.H (1,d)).sz)⟩⟩
    ⟨upd σ.s j (.ref (C.l+1,d) ((σ.H (C.l+1,d)).g+1) 0 n),updH σ.H (C.l+1,d) ⟨(σ.H (C.l+1,d)).g+1,true,.t (σ.H (C.l+1,d)).e.ty,(σ.H (C.l+1,d)).sz,(σ.H (C.l+1,d)).cells.drop (off*(σ.H (C.l+1,d)).sz)⟩⟩:=
   ⟨fun i=>⟨fun _=>by
    simp only[upd]
    by_cases hi:i=j
    ·rw[Yg hi,Yg hi];simp only[ren];rw[l.own,o,YE]
    ·rw[Yj hi,Yj hi];exact(f.s i).1 Ba,fun T=>absurd Ba T⟩,u.h,u.g,u.go,u.k,u.o⟩
  obtain⟨τ',G,F,N,v,O⟩:=Cn I b h Q
  refine⟨τ',G,F,N,v,Wk.trans (fun L w M=>?_) O⟩
  obtain⟨s,H⟩:=σ
  exact R.rebase M (Yf _) z hs (by rw[U,hcr,CN];exact hlen)
 |.mv d j b,τ,σ,K,h,f=>by
  have l:=I.ren γ
  have hs:∀j,σ.s j=ren (C.r γ) (τ.s j):=fun j=>(f.s j).1 Ba
  simp only[Bu]at h
  split at h
  case h_2=>exact h.elim
  rename_i hl
  obtain⟨hf,⟨J,hno⟩,h⟩:=h
  have t:=f.h _ hl
  have X:=f.go j J
  rw[l.own]at t
  have z:(σ.H (C.l+1,d)).live=true:=by rw[t];rfl
  have o:(σ.H (C.l+1,d)).g=(C.r γ).γ (1,d)+(τ.H (1,d)).g:=by rw[t];rfl
  have u:=RG.updK l f (1,d) ⟨(τ.H (1,d)).g,false,(τ.H (1,d)).e,(τ.H (1,d)).sz,(τ.H (1,d)).cells⟩ {σ.H (C.l+1,d)with live:=false } (fun e=>by cases e) o (.inl rfl)
  rw[l.own]at u
  have A:=RG.updH l u (0,j) ⟨(τ.H (0,j)).g+1,true,(τ.H (1,d)).e,(τ.H (1,d)).sz,(τ.H (1,d)).cells⟩ rfl (.inr ⟨rfl,J,hno⟩)
  have e2:AL (C.r γ) (0,j) ⟨(τ.H (0,j)).g+1,true,(τ.H (1,d)).e,(τ.H (1,d)).sz,(τ.H (1,d)).cells⟩={σ.H (C.l+1,d)with g:=(σ.H ((C.r γ).κ (0,j))).g+1 }:=by
   rw[t]
   simp only[AL,X,YE]
  rw[e2]at A
  have Q:RG (C.r γ) C.l C.outs [] ⟨fun i=>Fq (1,d) (0,j) (τ.H (1,d)).g ((τ.H (0,j)).g+1) (τ.s i),updH (updH τ.H (1,d) ⟨(τ.H (1,d)).g,false,(τ.H (1,d)).e,(τ.H (1,d)).sz,(τ.H (1,d)).cells⟩) (0,j) ⟨(τ.H (0,j)).g+1,true,(τ.H (1,d)).e,(τ.H (1,d)).sz,(τ.H (1,d)).cells⟩⟩
    ⟨fun i=>ren (C.r γ) (Fq (1,d) (0,j) (τ.H (1,d)).g ((τ.H (0,j)).g+1) (τ.s i)),updH (updH σ.H (C.l+1,d) {σ.H (C.l+1,d)with live:=false }) ((C.r γ).κ (0,j)) {σ.H (C.l+1,d)with g:=(σ.H ((C.r γ).κ (0,j))).g+1 }⟩:=
   ⟨fun i=>⟨fun _=>rfl,fun T=>absurd Ba T⟩,A.h,A.g,A.go,A.k,A.o⟩
  obtain⟨τ',G,F,N,v,O⟩:=Cn I b h Q
  refine⟨τ',G,F,N,v,Wk.trans (fun L w M=>?_) O⟩
  obtain⟨s,H⟩:=σ
  refine R.handout M (k:=(C.l+1,d)) rfl (l.out j J) z (by have B:=t;simp only at B;rw[B];exact fM hf) (fun i=>?_)
  have r:=hs i
  simp only at r
  cases hx:τ.s i with
  |ref q g off c=>
   rw[hx]at r
   rw[iw]
   split
   ·rename_i E
    obtain⟨rfl,rfl⟩:=E
    refine .inr (.inl ⟨off,c,?_,?_⟩)
    ·rw[r];simp only[ren];rw[l.own];simp only at o;rw[o]
    ·simp only[ren];simp only at X;rw[X,YE]
   ·left;rw[r]
  |mp q g=>
   rw[hx]at r
   rw[mu]
   split
   ·rename_i E
    obtain⟨rfl,rfl⟩:=E
    refine .inr (.inr ⟨?_,?_⟩)
    ·rw[r];simp only[ren];rw[l.own];simp only at o;rw[o]
    ·simp only[ren];simp only at X;rw[X,YE]
   ·left;rw[r]
  |_=>left;rw[r,hx];rfl
 |.rnm d d' e i b,τ,σ,K,h,f=>by
  have l:=I.ren γ
  have hs:∀j,σ.s j=ren (C.r γ) (τ.s j):=fun j=>(f.s j).1 Ba
  simp only[Bu]at h
  split at h
  case h_2=>exact h.elim
  rename_i k g off c hl hdd S Y hle E
  split at h
  case h_2=>exact h.elim
  rename_i P hg
  obtain⟨hf,h⟩:=h
  have P:=Cz.1 P
  subst P
  have hg:=Yb hg
  subst hg
  have hdd:d≠d':=fun q=>by subst q;simp at hdd
  have S:e≠d:=fun q=>by subst q;simp at S
  have Y:e≠d':=fun q=>by subst q;simp at Y
  have t:=f.h _ hl
  have D:=f.h _ hle
  rw[l.own]at t D
  have z:(σ.H (C.l+1,d)).live=true:=by rw[t];rfl
  have hler:(σ.H (C.l+1,e)).live=true:=by rw[D];rfl
  have o:(σ.H (C.l+1,d)).g=(C.r γ).γ (1,d)+(τ.H (1,d)).g:=by rw[t];rfl
  have y:=f.g d'
  have u:=RG.updK l f (1,d) ⟨(τ.H (1,d)).g,false,(τ.H (1,d)).e,(τ.H (1,d)).sz,(τ.H (1,d)).cells⟩ {σ.H (C.l+1,d)with live:=false } (fun e=>by cases e) o (.inl rfl)
  rw[l.own]at u
  have A:=RG.updH l u (1,d') ⟨(τ.H (1,d')).g+1,true,(τ.H (1,d)).e,(τ.H (1,d)).sz,(τ.H (1,d)).cells⟩ rfl (.inl rfl)
  have e2:AL (C.r γ) (1,d') ⟨(τ.H (1,d')).g+1,true,(τ.H (1,d)).e,(τ.H (1,d)).sz,(τ.H (1,d)).cells⟩={σ.H (C.l+1,d)with g:=(σ.H (C.l+1,d')).g+1 }:=by
   rw[t]
   simp only[AL,y,YE]
  rw[e2,l.own]at A
  have W:=RG.updH l A (1,e) ⟨(τ.H (1,e)).g,true,(τ.H (1,e)).e,(τ.H (1,e)).sz,(τ.H (1,e)).cells.set i (.ref (1,d') ((τ.H (1,d')).g+1) off c)⟩ rfl (.inl rfl)
  have e4:AL (C.r γ) (1,e) ⟨(τ.H (1,e)).g,true,(τ.H (1,e)).e,(τ.H (1,e)).sz,(τ.H (1,e)).cells.set i (.ref (1,d') ((τ.H (1,d')).g+1) off c)⟩=
    ⟨(σ.H (C.l+1,e)).g,true,(σ.H (C.l+1,e)).e,(σ.H (C.l+1,e)).sz,(σ.H (C.l+1,e)).cells.set i (.ref (C.l+1,d') ((σ.H (C.l+1,d')).g+1) off c)⟩:=by
   rw[D]
   simp only[AL]
   rw[←TU]
   simp[ren,l.own,y,YE]
  rw[e4,l.own]at W
  have Q:RG (C.r γ) C.l C.outs [] ⟨fun j=>Fq (1,d) (1,d') (τ.H (1,d)).g ((τ.H (1,d')).g+1) (τ.s j),_⟩
    ⟨fun j=>ren (C.r γ) (Fq (1,d) (1,d') (τ.H (1,d)).g ((τ.H (1,d')).g+1) (τ.s j)),_⟩:=
   ⟨fun i=>⟨fun _=>rfl,fun T=>absurd Ba T⟩,W.h,W.g,W.go,W.k,W.o⟩
  obtain⟨τ',G,F,N,v,O⟩:=Cn I b h Q
  refine⟨τ',G,F,N,v,Wk.trans (fun L w M=>?_) O⟩
  obtain⟨s,H⟩:=σ
  rw[Ct]at E
  refine R.rename M (k:=(C.l+1,d)) (k':=(C.l+1,d')) (q:=(C.l+1,e)) rfl (Yf _) rfl (fun q=>hdd (by simpa using q)) (fun q=>S (by simpa using q)) (fun q=>Y (by simpa using q)) z hler (by have B:=t;simp only at B;rw[B];exact fM hf)
   (by simp only at D o;rw[D];simp only[AL,HA,E];simp[ren,l.own,o]) (fun i=>?_)
  have r:=hs i
  simp only at r
  cases hx:τ.s i with
  |ref q g off c=>
   rw[hx]at r
   rw[iw]
   split
   ·rename_i E
    obtain⟨rfl,rfl⟩:=E
    refine .inr (.inl ⟨off,c,?_,?_⟩)
    ·rw[r];simp only[ren];rw[l.own];simp only at o;rw[o]
    ·simp only[ren];rw[l.own];simp only at y;rw[y,YE]
   ·left;rw[r]
  |mp q g=>
   rw[hx]at r
   rw[mu]
   split
   ·rename_i E
    obtain⟨rfl,rfl⟩:=E
    refine .inr (.inr ⟨?_,?_⟩)
    ·rw[r];simp only[ren];rw[l.own];simp only at o;rw[o]
    ·simp only[ren];rw[l.own];simp only at y;rw[y,YE]
   ·left;rw[r]
  |_=>left;rw[r,hx];rfl
 |.mvc d q e i b,τ,σ,K,h,f=>by
  have l:=I.ren γ
  have hs:∀j,σ.s j=ren (C.r γ) (τ.s j):=fun j=>(f.s j).1 Ba
  simp only[Bu]at h
  split at h
  case h_2=>exact h.elim
  rename_i k g off c hl S hle E
  split at h
  case h_2=>exact h.elim
  rename_i P hg
  obtain⟨hf,⟨J,hno⟩,h⟩:=h
  have P:=Cz.1 P
  subst P
  have hg:=Yb hg
  subst hg
  have S:e≠d:=fun q'=>by subst q';simp at S
  have t:=f.h _ hl
  have D:=f.h _ hle
  rw[l.own]at t D
  have z:(σ.H (C.l+1,d)).live=true:=by rw[t];rfl
  have hler:(σ.H (C.l+1,e)).live=true:=by rw[D];rfl
  have o:(σ.H (C.l+1,d)).g=(C.r γ).γ (1,d)+(τ.H (1,d)).g:=by rw[t];rfl
  have y:=f.go q J
  have hlo:=l.out q J
  have u:=RG.updK l f (1,d) ⟨(τ.H (1,d)).g,false,(τ.H (1,d)).e,(τ.H (1,d)).sz,(τ.H (1,d)).cells⟩ {σ.H (C.l+1,d)with live:=false } (fun e=>by cases e) o (.inl rfl)
  rw[l.own]at u
  have A:=RG.updH l u (0,q) ⟨(τ.H (0,q)).g+1,true,(τ.H (1,d)).e,(τ.H (1,d)).sz,(τ.H (1,d)).cells⟩ rfl (.inr ⟨rfl,J,hno⟩)
  have e2:AL (C.r γ) (0,q) ⟨(τ.H (0,q)).g+1,true,(τ.H (1,d)).e,(τ.H (1,d)).sz,(τ.H (1,d)).cells⟩={σ.H (C.l+1,d)with g:=(σ.H ((C.r γ).κ (0,q))).g+1 }:=by
   rw[t]
   simp only[AL,y,YE]
  rw[e2]at A
  have W:=RG.updH l A (1,e) ⟨(τ.H (1,e)).g,true,(τ.H (1,e)).e,(τ.H (1,e)).sz,(τ.H (1,e)).cells.set i (.ref (0,q) ((τ.H (0,q)).g+1) off c)⟩ rfl (.inl rfl)
  have e4:AL (C.r γ) (1,e) ⟨(τ.H (1,e)).g,true,(τ.H (1,e)).e,(τ.H (1,e)).sz,(τ.H (1,e)).cells.set i (.ref (0,q) ((τ.H (0,q)).g+1) off c)⟩=
    ⟨(σ.H (C.l+1,e)).g,true,(σ.H (C.l+1,e)).e,(σ.H (C.l+1,e)).sz,(σ.H (C.l+1,e)).cells.set i (.ref ((C.r γ).κ (0,q)) ((σ.H ((C.r γ).κ (0,q))).g+1) off c)⟩:=by
   rw[D]
   simp only[AL]
   rw[←TU]
   simp[ren,l.own,y,YE]
  rw[e4,l.own]at W
  have Q:RG (C.r γ) C.l C.outs [] ⟨fun j=>Fq (1,d) (0,q) (τ.H (1,d)).g ((τ.H (0,q)).g+1) (τ.s j),_⟩
    ⟨fun j=>ren (C.r γ) (Fq (1,d) (0,q) (τ.H (1,d)).g ((τ.H (0,q)).g+1) (τ.s j)),_⟩:=
   ⟨fun i=>⟨fun _=>rfl,fun T=>absurd Ba T⟩,W.h,W.g,W.go,W.k,W.o⟩
  obtain⟨τ',G,F,N,v,O⟩:=Cn I b h Q
  refine⟨τ',G,F,N,v,Wk.trans (fun L w M=>?_) O⟩
  obtain⟨s,H⟩:=σ
  rw[Ct]at E
  refine R.rename M (k:=(C.l+1,d)) (k':=((C.r γ).κ (0,q))) (q:=(C.l+1,e)) rfl (QX hlo) rfl (fun q'=>by rw[←q']at hlo;exact absurd hlo (Nat.not_succ_le_self _)) (fun q'=>S (by simpa using q')) (fun q'=>by rw[←q']at hlo;exact absurd hlo (Nat.not_succ_le_self _)) z hler (by have B:=t;simp only at B;rw[B];exact fM hf)
   (by simp only at D o;rw[D];simp only[AL,HA,E];simp[ren,l.own,o]) (fun i=>?_)
  have r:=hs i
  simp only at r
  cases hx:τ.s i with
  |ref q g off c=>
   rw[hx]at r
   rw[iw]
   split
   ·rename_i E
    obtain⟨rfl,rfl⟩:=E
    refine .inr (.inl ⟨off,c,?_,?_⟩)
    ·rw[r];simp only[ren];rw[l.own];simp only at o;rw[o]
    ·simp only[ren];simp only at y;rw[y,YE]
   ·left;rw[r]
  |mp q g=>
   rw[hx]at r
   rw[mu]
   split
   ·rename_i E
    obtain⟨rfl,rfl⟩:=E
    refine .inr (.inr ⟨?_,?_⟩)
    ·rw[r];simp only[ren];rw[l.own];simp only at o;rw[o]
    ·simp only[ren];simp only at y;rw[y,YE]
   ·left;rw[r]
  |_=>left;rw[r,hx];rfl
 |.fzm d V b,τ,σ,K,h,f=>by
  have l:=I.ren γ
  have hs:∀j,σ.s j=ren (C.r γ) (τ.s j):=fun j=>(f.s j).1 Ba
  simp only[Bu]at h
  split at h
  case h_2=>exact h.elim
  rename_i q es hl he hm
  have hjs:=sg hm
  have t:=f.h _ hl
  rw[l.own]at t
  have z:(σ.H (C.l+1,d)).live=true:=by rw[t];rfl
  have Z:(σ.H (C.l+1,d)).e=.m q es:=by rw[t];exact he
  have o:(σ.H (C.l+1,d)).g=(C.r γ).γ (1,d)+(τ.H (1,d)).g:=by rw[t];rfl
  have u:=RG.updK l f (1,d) ⟨(τ.H (1,d)).g,false,(τ.H (1,d)).e,(τ.H (1,d)).sz,(τ.H (1,d)).cells⟩ {σ.H (C.l+1,d)with live:=false } (fun e=>by cases e) o (.inl rfl)
  rw[l.own]at u
  have Q:RG (C.r γ) C.l C.outs [] ⟨EP (.d (.map q es)) V τ.s,updH τ.H (1,d) ⟨(τ.H (1,d)).g,false,(τ.H (1,d)).e,(τ.H (1,d)).sz,(τ.H (1,d)).cells⟩⟩ ⟨EP (.d (.map q es)) V σ.s,updH σ.H (C.l+1,d) {σ.H (C.l+1,d)with live:=false }⟩:=
   ⟨fun j=>⟨fun _=>by
    simp only[O3]
    by_cases J:j∈V
    ·rw[Yg J,Yg J];simp[ren]
    ·rw[Yj J,Yj J];exact hs j,fun T=>absurd Ba T⟩,u.h,u.g,u.go,u.k,u.o⟩
  obtain⟨τ',G,F,N,v,O⟩:=Cn I b h Q
  refine⟨τ',G,F,N,v,Wk.trans (fun L w M=>?_) O⟩
  obtain⟨s,H⟩:=σ
  refine R.freezeM M (k:=(C.l+1,d)) (Yf _) z Z V (fun j J=>?_)
  obtain⟨g,g1,g2⟩:=hjs j J
  have:=hs j
  simp only at this o
  rw[this,g1]
  simp only[ren]
  rw[l.own,o,(DZ g2).1]
 |.fzb d V b,τ,σ,K,h,f=>by
  have l:=I.ren γ
  have hs:∀j,σ.s j=ren (C.r γ) (τ.s j):=fun j=>(f.s j).1 Ba
  simp only[Bu]at h
  split at h
  case h_2=>exact h.elim
  rename_i x ds hl he hm
  have hjs:=sK hm
  have t:=f.h _ hl
  rw[l.own]at t
  have z:(σ.H (C.l+1,d)).live=true:=by rw[t];rfl
  have Z:(σ.H (C.l+1,d)).cells=(x::ds).map .d:=by rw[t];show Aq _ _=_;rw[Um he,HF]
  have o:(σ.H (C.l+1,d)).g=(C.r γ).γ (1,d)+(τ.H (1,d)).g:=by rw[t];rfl
  have u:=RG.updK l f (1,d) ⟨(τ.H (1,d)).g,false,(τ.H (1,d)).e,(τ.H (1,d)).sz,(τ.H (1,d)).cells⟩ {σ.H (C.l+1,d)with live:=false } (fun e=>by cases e) o (.inl rfl)
  rw[l.own]at u
  have Q:RG (C.r γ) C.l C.outs [] ⟨EP (.iptr (x::ds) 0) V τ.s,updH τ.H (1,d) ⟨(τ.H (1,d)).g,false,(τ.H (1,d)).e,(τ.H (1,d)).sz,(τ.H (1,d)).cells⟩⟩ ⟨EP (.iptr (x::ds) 0) V σ.s,updH σ.H (C.l+1,d) {σ.H (C.l+1,d)with live:=false }⟩:=
   ⟨fun j=>⟨fun _=>by
    simp only[O3]
    by_cases J:j∈V
    ·rw[Yg J,Yg J];simp[ren]
    ·rw[Yj J,Yj J];exact hs j,fun T=>absurd Ba T⟩,u.h,u.g,u.go,u.k,u.o⟩
  obtain⟨τ',G,F,N,v,O⟩:=Cn I b h Q
  refine⟨τ',G,F,N,v,Wk.trans (fun L w M=>?_) O⟩
  obtain⟨s,H⟩:=σ
  refine R.freezeB M (k:=(C.l+1,d)) (Yf _) z Z (by simp) V (fun j J=>?_)
  obtain⟨g,g1,g2⟩:=hjs j J
  have:=hs j
  simp only at this o
  rw[this,g1]
  simp only[ren]
  rw[l.own,o,(DZ g2).1]
 |.ents _ _,τ,σ,K,h,f=>⟨τ,_,σ,h,f,Wk.refl σ⟩
 |.all _ _,τ,σ,K,h,f=>⟨τ,_,σ,h,f,Wk.refl σ⟩
 |.nil,τ,σ,K,h,f=>⟨τ,_,σ,h,f,Wk.refl σ⟩
 |.sep _,τ,σ,K,h,f=>⟨τ,_,σ,h,f,Wk.refl σ⟩
 |.go _,τ,σ,K,h,f=>⟨τ,_,σ,h,f,Wk.refl σ⟩
 |.av _ _,τ,σ,K,h,f=>⟨τ,_,σ,h,f,Wk.refl σ⟩
 |.cs _ _,τ,σ,K,h,f=>⟨τ,_,σ,h,f,Wk.refl σ⟩
 |.ds _ _,τ,σ,K,h,f=>⟨τ,_,σ,h,f,Wk.refl σ⟩
 |.num _ _,τ,σ,K,h,f=>⟨τ,_,σ,h,f,Wk.refl σ⟩
 |.nat _ _,τ,σ,K,h,f=>⟨τ,_,σ,h,f,Wk.refl σ⟩
 |.call _ _ _,τ,σ,K,h,f=>⟨τ,_,σ,h,f,Wk.refl σ⟩
 |.callH _ _ _ _,τ,σ,K,h,f=>⟨τ,_,σ,h,f,Wk.refl σ⟩
 |.br _ _,τ,σ,K,h,f=>⟨τ,_,σ,h,f,Wk.refl σ⟩
 |.one _ _,τ,σ,K,h,f=>⟨τ,_,σ,h,f,Wk.refl σ⟩
 |.hard _ _ _ _ _,τ,σ,K,h,f=>⟨τ,_,σ,h,f,Wk.refl σ⟩
theorem F8(o:CxOk C)(s:Bg P T)(hm:P.follows .mixedOrders=true){γ:Ad→Nat}:∀(c:Code) (a:AT) (τ σ:St) (K:Exit→St→AT→Prop),Db P T C.l n C.outs (C.r γ) c a τ K→RG (C.r γ) C.l C.outs [] τ σ→
  BT P C.l n C.B c (cO n C γ K) σ
 |.skip,a,τ,σ,K,h,d=>ZAv ⟨τ,a,σ,h,d,Wk.refl σ⟩
 |.ret,a,τ,σ,K,h,d=>by
  obtain⟨τ',f,p,k,m,q⟩:=Cn (n:=n) o a h d
  exact BT.weak (ZMp ⟨τ',f,p,k,m,Wk.refl p⟩) q
 |.exit id,a,τ,σ,K,h,d=>ZAP ⟨τ,a,σ,h,d,Wk.refl σ⟩
 |.seq x y,a,τ,σ,K,h,d=>by
  have F:=F8 o s hm x a τ σ _ h d
  refine gG (Hz F fun e p hi=>?_)
  obtain⟨τ',f,j,k,m,q⟩:=hi
  cases e with
  |normal=>exact BT.weak (F8 o s hm y f τ' j _ k m) q
  |_=>exact⟨τ',f,j,k,m,q⟩
 |.block id c,a,τ,σ,K,h,d=>by
  have F:=F8 o s hm c a τ σ _ h d
  refine Zk9 (Hz F fun e p hi=>?_)
  obtain⟨τ',f,j,k,m,q⟩:=hi
  cases e with
  |exit i=>
   unfold Vb
   simp only at k⊢
   split at k
   ·rename_i he;rw[Yg (Yb he)];exact⟨τ',f,j,k,m,q⟩
   ·rename_i he;rw[Yj (by rintro rfl;simp at he)];exact⟨τ',f,j,k,m,q⟩
  |_=>exact⟨τ',f,j,k,m,q⟩
 |.cond c x y,a,τ,σ,K,h,d=>by
  have he:∀{b},ev τ.s c=.d (.bool b)→ev σ.s c=.d (.bool b):=fun {b} u=>by rw[Ko (c:=[]) d Ba (by cases c<;>rfl),u];simp[ren]
  unfold Db at h
  split at h
  ·rename_i b a1 L u
   exact OO (he u) (fun e=>F8 o s hm x a1 τ σ K (h.1 e) d) (fun e=>F8 o s hm y L τ σ K (h.2 e) d)
  ·rename_i b f u
   refine OO (he u) (fun e=>?_) (fun e=>?_)
   ·subst e;exact F8 o s hm x f τ σ K h d
   ·subst e;exact F8 o s hm y f τ σ K h d
  ·rename_i b v f u
   cases v with
   |true=>exact OO (he u) (fun e=>F8 o s hm x f τ σ K (h.1 e) d) (fun e=>(h.2 e).elim)
   |false=>exact OO (he u) (fun e=>(h.1 e).elim) (fun e=>F8 o s hm y f τ σ K (h.2 e) d)
  ·exact h.elim
 |.region id ops J,a,τ,σ,K,h,d=>by
  obtain⟨t,rfl⟩:∃l:List Oper,ops=l.toArray:=⟨ops.toList,by simp⟩
  have fin:∀τ' g f p,K .normal (El g τ') f→RG (C.r γ) C.l C.outs g τ' p→cO n C γ K .normal p:=fun τ' g f p k m=>by
   obtain⟨j,q,M⟩:=OI (n:=n) m
   exact⟨_,f,j,k,q,M⟩
  unfold Db at h
  split at h
  ·obtain⟨H,D,G,h,d,E⟩:=Cn (n:=n) o a h d
   refine BT.weak ?_ E
   intro A w N
   have:=Md (o.ren γ) s (ops:=t.toArray) (B:=C.B) (K:=fun τ' env f=>K .normal (El env τ') f) (QQ:=fun e f w'=>∃p,cO n C γ K e p∧R C.l n C.B p f w') [] (fun τ' g f p I w' k m q=>by
    unfold wpList
    exact⟨p,fin _ _ _ _ k m,q⟩) t [] D H G A w (by simpa using h) d N
   rw[Iq]at this
   exact wp_region_lit this
  ·split at h
   case h_2=>exact h.elim
   rename_i z
   simp only[Yc]at z
   obtain⟨H,D,G,h,d,E⟩:=Cn (n:=n) o a h d
   refine BT.weak ?_ E
   refine ZqY hm (ZjA (by simpa using z.1.1)) (by simpa using z.1.2) (by simpa using z.2) (TS t (fun p O=>?_) (Mj (o.ren γ) (l:=C.l) (r:=C.r γ) (outs:=C.outs) (K:=fun τ' env f=>K .normal (El env τ') f) s t [] D H G (by simpa using z.1.2) (by simpa using h) d))
   obtain⟨τ',g,f,k,m⟩:=O
   exact fin _ _ _ _ k m
 |.loop _,a,τ,σ,K,h,d=>h.elim
 |.rangeFunc _ _ _ _,a,τ,σ,K,h,d=>h.elim
 |.scope _,a,τ,σ,K,h,d=>h.elim
 |.label _,a,τ,σ,K,h,d=>h.elim
 |.goto _,a,τ,σ,K,h,d=>h.elim
 |.refuse _,a,τ,σ,K,h,d=>h.elim
theorem uK(k:CxOk C)(m:Bg P T)(hm:P.follows .mixedOrders=true){c:Code}{a:AT}(K:(Ad→Nat)→Exit→St→AT→Prop)(h:∀γ,Db P T C.l n C.outs (C.r γ) c a τ (K γ))
  (o:∀γ e τ' b d,C.G γ→K γ e τ' b→RG (C.r γ) C.l C.outs [] τ' d→Is n C (Q e) d):LW P n C c τ Q:=by
 intro γ σ hg l
 refine Hz (F8 k m hm c a τ σ (K γ) (h γ) l) fun e d hi=>?_
 obtain⟨τ',b,f,g,i,j⟩:=hi
 obtain⟨t,v,u,p,q,r,s⟩:=o γ e τ' b f hg g i
 exact⟨t,v,u,p,q,r,j.trans s⟩
theorem ZRB(i:CxOk C)(k:Bg P T)(hm:P.follows .mixedOrders=true){c:Code}(a:AT){f:List ResultVar}{b:AV→List Blk→Prop}(h:∀γ,Db P T C.l n C.outs (C.r γ) c a τ (KF T f C.outs b)):LW P n C c τ (FQ T f C.outs b):=
 uK i k hm (fun _=>KF T f C.outs b) h fun γ e τ' g l hg d j=>.of hg j (by
  cases e<;>simp only[KF]at d
  ·exact⟨.inl rfl,g,d⟩
  ·exact⟨.inr rfl,g,d⟩)
theorem ZNN(d:CxOk C)(y:Bg P T)(hm:P.follows .mixedOrders=true){c:Code}(a:AT)(lf v:Lf){r:List ResultVar}{b:AV→List Blk→Prop}(x:∀τ,FQ T r C.outs b .ret τ→Q .ret τ)(h:∀γ,Db P T C.l n C.outs (C.r γ) c a τ (KB T r C.outs C.fx (C.r γ) b lf v Q)):LW P n C c τ Q:=
 uK d y hm (fun γ=>KB T r C.outs C.fx (C.r γ) b lf v Q) h fun γ e τ' g B hg f i=>by
  cases e<;>simp only[KB]at f
  ·obtain⟨A,w,z,o,p,q⟩:=Cn (n:=n) d g f i
   obtain⟨s,u,t,j,k,l,m⟩:=Hx (n:=n) d o hg p
   exact⟨s,u,t,j,k,l,q.trans m⟩
  ·obtain⟨A,w,z,o,p,q⟩:=Cn (n:=n) d g f i
   obtain⟨s,u,t,j,k,l,m⟩:=Hx (n:=n) d o hg p
   exact⟨s,u,t,j,k,l,q.trans m⟩
  ·exact .of hg i (x _ ⟨.inr rfl,g,f⟩)
theorem Zrn{sz:Nat}:∀{es:List (List D)} {i j:Nat} {e:List D} {d:D},(∀e∈es,e.length=sz)→es[i]?=some e→e[j]?=some d→es.flatten[i*sz+j]?=some d
 |[],i,j,e,d,h,hi,a=>by simp at hi
 |f::es,0,j,e,d,h,hi,a=>by
  grind
 |f::es,i+1,j,e,d,h,hi,a=>by
  have b:=h f (YB ..)
  rw[Jr,Yt (by rw[b,YT];omega),b,show(i+1)*sz+j-sz=i*sz+j from by rw[YT];omega]
  exact Zrn (fun e he=>h e (Ys _ he)) (by simpa using hi) a
mutual
theorem Zvx(s:CxOk C){γ:Ad→Nat}{H G:Hp}(A:DM (C.r γ) H G)(f:∀k,(H k).live=true→k.1=1∨(k.1=0∧k.2<C.outs)):∀(x:AV) {a:AT} {K:AV→AT→Prop},frz H x a K→∃y p,Fz G C.l (ren (C.r γ) x) (ren (C.r γ) y)∧(C.outs=0→∀r,ren r y=y)∧K y p
 |.d x,a,K,h=>⟨.d x,a,by simp only[ren];exact .keep _ rfl,fun _ r=>by simp[ren],h⟩
 |.e0,a,K,h=>⟨.d (.list []),a,by simp only[ren];exact .e0,fun _ r=>by simp[ren],h⟩
 |.agg xs,a,K,h=>by
  obtain⟨ys,p,o,N,z⟩:=fU s A f xs h
  exact⟨.agg ys,p,by simp only[ren];exact .agg _ _ o.1 o.2,fun e r=>by simp only[ren];rw[N e r],z⟩
 |.ref k g off m,a,K,h=>by
  unfold frz at h
  split at h
  ·rename_i c hl
   have c:=Yb c
   have n:k.2<C.outs:=by
    rcases f k (DZ hl).2 with o|o
    ·omega
    grind
   obtain⟨F,b⟩:=k
   simp only at c n
   subst c
   exact⟨.ref (0,b) g off m,a,by simp only[ren];exact .keep _ (YV (s.out b n)),fun e=>by omega,h⟩
  ·rename_i _ f hl
   split at h
   case h_2=>exact h.elim
   rename_i es p
   obtain⟨⟨o,z,L,O,P⟩,Q⟩:=h
   have f:=Yb f
   obtain⟨v,w,I,u,J⟩:=A.at hl
   obtain⟨F,b⟩:=k
   simp only at f
   subst f
   refine⟨.d (.list es),p,?_,fun _ r=>by simp[ren],Q⟩
   simp only[ren]
   rw[v]
   have E:(C.r γ).κ (1,b)=(C.l+1,b):=s.own b
   refine .ref _ off m es (by rw[E]) w o (by rw[u];exact z) (by rw[u];exact L) (by rw[u,J,CN];exact O) (fun i j e d x hi R D=>?_)
   have B:i<m:=by
    grind
   have S:j<(H (1,b)).sz:=by
    grind
   have T:=Zrn L hi R
   have n:i*(H (1,b)).sz+j<m*(H (1,b)).sz:=by
    have:(i+1)*(H (1,b)).sz≤m*(H (1,b)).sz:=YY _ B
    grind
   have M:(H (1,b)).cells[(off+i)*(H (1,b)).sz+j]?=some (.d d):=by
    have:=congrArg (fun l=>l[i*(H (1,b)).sz+j]?) P
    grind
   rw[u,J,HA,M]at D
   simp only[YZ,ren,Yi]at D
   subst D
   exact .keep _ rfl
  grind
 |.top,a,K,h=>by simp only[frz]at h
 |.p _,a,K,h=>by simp only[frz]at h
 |.ptr _ _ _,a,K,h=>by simp only[frz]at h
 |.mp k g,a,K,h=>by
  unfold frz at h
  split at h
  ·rename_i c hl
   have c:=Yb c
   have n:k.2<C.outs:=by
    rcases f k (DZ hl).2 with o|o
    ·omega
    grind
   obtain⟨F,b⟩:=k
   simp only at c n
   subst c
   exact⟨.mp (0,b) g,a,by simp only[ren];exact .keep _ (YV (s.out b n)),fun e=>by omega,h⟩
  ·rename_i q es _ f hl he
   have f:=Yb f
   obtain⟨v,w,I,_,_⟩:=A.at hl
   obtain⟨F,b⟩:=k
   simp only at f
   subst f
   refine⟨.d (.map q es),a,?_,fun _ r=>by simp[ren],h⟩
   simp only[ren]
   rw[v]
   have E:(C.r γ).κ (1,b)=(C.l+1,b):=s.own b
   exact .mp _ q es (by rw[E]) w (by rw[I,he])
  grind
 |.iptr _ _,a,K,h=>by simp only[frz]at h
 |.ifc t ds q,a,K,h=>⟨.ifc t ds q,a,by simp only[ren];exact .keep _ rfl,fun _ r=>by simp[ren],h⟩
 |.fn _ _ _,a,K,h=>by simp only[frz]at h
 |.tup _,a,K,h=>by simp only[frz]at h
theorem fU(j:CxOk C){γ:Ad→Nat}{H d:Hp}(l:DM (C.r γ) H d)(m:∀k,(H k).live=true→k.1=1∨(k.1=0∧k.2<C.outs)):∀(xs:List AV) {a:AT} {K:List AV→AT→Prop},Iv H xs a K→
  ∃ys f,((Aq (C.r γ) xs).length=(Aq (C.r γ) ys).length∧∀(i:Nat) (x y:AV),(Aq (C.r γ) xs)[i]?=some x→(Aq (C.r γ) ys)[i]?=some y→Fz d C.l x y)∧(C.outs=0→∀r,Aq r ys=ys)∧K ys f
 |[],a,K,h=>⟨[],a,⟨by simp[Aq],fun i x y b=>by simp[Aq]at b⟩,fun _ r=>by simp[Aq],h⟩
 |x::xs,a,K,h=>by
  simp only[Iv]at h
  obtain⟨y,f,p,n,q⟩:=Zvx j l m x h
  obtain⟨ys,c,g,o,s⟩:=fU j l m xs q
  refine⟨y::ys,c,⟨by simp[Aq,g.1],fun i x' t b hy=>?_⟩,fun e r=>by simp only[Aq];rw[n e r,o e r],s⟩
  cases i with
  |zero=>simp only[Aq,Y7,Yi]at b hy;subst b;subst hy;exact p
  |succ i=>simp only[Aq,Ju]at b hy;exact g.2 i x' t b hy
end
theorem Ztf(o:Bg P T){γ:Ad→Nat}(n:RG (C.r γ) C.l C.outs [] τ σ){v:ResultVar}{K:AV→Prop}(h:nA T τ v K):∃x,K x∧∀m (f:List AV→Prop),EN P σ m (fun xs=>f (ren (C.r γ) x::xs))→EN P σ (v::m) f:=by
 cases v with
 |tmp t=>exact⟨_,h,fun m f j=>by unfold EN;rw[(n.s t).1 Ba];exact j⟩
 |cell p t=>
  simp only[nA]at h
  split at h
  case h_2=>exact h.elim
  rename_i k g off i w hi
  have l:σ.s p=ren (C.r γ) (.ptr k g off):=by rw[(n.s p).1 Ba,w]
  split at h
  ·rename_i hl d
   split at h
   case h_2=>exact h.elim
   rename_i c r s
   refine⟨_,h,fun m f j=>?_⟩
   have:=fN (a:=.go .nil) (g:=none) (K:=fun v _=>v=.agg c) (o _ _ hi) n.h (fun b e=>by cases e) (x:=.ptr k g off) (by simp only[MM,hl,d,r,s])
   unfold EN
   rw[l]
   refine gq (fun y hy=>?_) this
   obtain⟨v,q,rfl,rfl⟩:=hy
   exact j
  ·rename_i hl d
   split at h
   case h_2=>exact h.elim
   rename_i c u
   refine⟨_,h,fun m f j=>?_⟩
   have:=fN (a:=.go .nil) (g:=none) (K:=fun v _=>v=c) (o _ _ hi) n.h (fun b e=>by cases e) (x:=.ptr k g off) (by simp only[MM,hl,d,u])
   unfold EN
   rw[l]
   refine gq (fun y hy=>?_) this
   obtain⟨v,q,rfl,rfl⟩:=hy
   exact j
  grind
theorem Zjj(e:Bg P T){γ:Ad→Nat}(d:RG (C.r γ) C.l C.outs [] τ σ):∀(b:List ResultVar) {K:List AV→Prop},dG T τ b K→∃xs,K xs∧∀a:List AV→Prop,a (Aq (C.r γ) xs)→EN P σ b a
 |[],K,h=>⟨[],h,fun a c=>by unfold EN;simpa[Aq]using c⟩
 |v::b,K,h=>by
  obtain⟨x,f,g⟩:=Ztf e d h
  obtain⟨xs,i,j⟩:=Zjj e d b f
  exact⟨x::xs,i,fun a c=>g b a (j _ (by simpa[Aq]using c))⟩
structure OutsOk (C:Cx) (γ:Ad→Nat) (bs:List Blk) (H':Hp):Prop where
 len:bs.length=C.outs
 g:∀i b,bs[i]?=some b→(H' (C.κ (0,i))).g=γ (0,i)+b.g
 live:∀i b,bs[i]?=some b→b.live=true→H' (C.κ (0,i))=AL (C.r γ) (0,i) b
 o:∀k:Ad,¬C.no k→H' k=C.H0 k
theorem g7{H:Hp}:∀(n i j:Nat),(I7 H n i)[j]?=if j<n then some (H (0,i+j))else none
 |0,i,j=>by simp[I7]
 |n+1,i,0=>by simp[I7]
 |n+1,i,j+1=>by
  simp only[I7,Ju,g7 n (i+1) j]
  grind
theorem ZkT{H:Hp}:∀(n i:Nat),(I7 H n i).length=n
 |0,i=>rfl
 |n+1,i=>by simp[I7,ZkT n]
theorem ZIy(l:CxOk C)(F:Bg P T){o:List ResultVar}{LPost:AV→List Blk→Prop}{d:AV→Hp→Prop}{e:Exit}(I:∀γ y s q,C.G γ→LPost y s→OutsOk C γ s q→(C.outs=0→∀r,ren r y=y)→d (ren (C.r γ) y) q)
  (h:Is n C (FQ T o C.outs LPost e) σ):∃f,fins P C.l C.H0 o d e f∧Wk n C σ f:=by
 obtain⟨γ,τ,f,hg,⟨z,a,A⟩,j,J⟩:=h
 refine⟨f,⟨z,?_⟩,J⟩
 obtain⟨xs,B,D⟩:=Zjj (P:=P) F j o A
 obtain⟨ys,L,g,w,E⟩:=fU l j.h j.k xs B
 refine D _ ⟨ren (C.r γ) (DL ys),?_,?_⟩
 ·have hl:=g.1
  have g:=g.2
  have v:ren (C.r γ) (DL ys)=DL (Aq (C.r γ) ys):=by
   match ys with
   |[]=>simp[DL,ren,Aq]
   |[y]=>simp[DL,Aq]
   |y::t::ys=>simp[DL,ren,Aq]
  rw[v]
  generalize Aq (C.r γ) ys=p at hl g
  generalize Aq (C.r γ) xs=u at hl g
  match u,p,hl with
  |[],[],_=>exact .tup _ _ rfl fun i x y K=>by simp at K
  |[x],[y],_=>exact g 0 x y rfl rfl
  |x::x'::u,y::t::ys,hl=>exact .tup _ _ hl g
 ·refine I γ _ _ _ hg E ⟨ZkT _ _,fun i b hi=>?_,fun i b hi G=>?_,fun k H=>?_⟩ (fun e r=>?_)
  ·rw[g7]at hi
   split at hi
   ·rename_i c
    simp only[YJ,Yi]at hi
    subst hi
    rw[show Ia C.l f.H C.H0 (C.κ (0,i))=f.H (C.κ (0,i))from Yg (l.out i c)]
    exact j.go i c
   grind
  ·rw[g7]at hi
   split at hi
   ·rename_i c
    simp only[YJ,Yi]at hi
    subst hi
    rw[show Ia C.l f.H C.H0 (C.κ (0,i))=f.H (C.κ (0,i))from Yg (l.out i c)]
    exact j.h _ G
   grind
  ·unfold Ia
   split
   ·rename_i m;exact j.o k m H
   ·rfl
  ·have:=w e r
   match ys with
   |[]=>simp[DL,ren,Aq]
   |[y]=>simp only[Aq,List.cons.injEq,and_true]at this;simpa[DL]using this
   |y::t::ys=>simp only[DL,ren,this]
def D8:Nat→List AV→List (Nat×AV)
 |_,[]=>[]
 |i,x::xs=>(i,x)::D8 (i+1) xs
theorem ZvY{r:Ren}:∀(ys:List AV) (i j:Nat),ren r (AN (D8 i ys) (i+j))=args (Aq r ys) j
 |[],i,j=>by simp[D8,AN,ren,Aq,args]
 |y::ys,i,0=>by simp[D8,AN,Aq,args]
 |y::ys,i,j+1=>by
  have a:=ZvY (r:=r) ys (i+1) j
  simp only[D8,AN]
  split
  ·rename_i h;have:=Yb h;omega
  ·rw[show i+(j+1)=i+1+j from by omega,a]
   simp[args,Aq]
theorem Zpx{f:FuncId}{fn:Func}(z:List ResultVar){c:Code}{l:Nat}{xs:List AV}{H:Hp}{a:AV→Hp→Prop}{LPost:AV→List Blk→Prop}(C:Base→Cx){γ:Ad→Nat}{ys:List AV}{hs:List (Ad×Blk)}
  (N:P.funcs[f]?=some fn) (M:fn.body=some c) (g:(fn.name== "runtime.NumGoroutine")=false) (v:fn.ntmps=n) (U:fn.results.toList=z) (V:xs.length≤n) (L:Bg P T)
  (u:∀B,CxOk (C B)) (hB:∀B,(C B).l=l∧(C B).B=B∧(C B).H0=H∧(C B).G γ) (x:∀B,Aq ((C B).r γ) ys=xs) (W:∀d,γ (1,d)=0) (Q:∀d,AI hs (1,d)=Fi)
  (b:∀B k,(AI hs k).live=true→k.1=0∧k.2<(C B).outs∧H ((C B).κ k)=AL ((C B).r γ) k (AI hs k)) (O:∀B i,i<(C B).outs→(H ((C B).κ (0,i))).g=γ (0,i)+(AI hs (0,i)).g)
  (R:∀B γ y E D,(C B).G γ→LPost y E→OutsOk (C B) γ E D→((C B).outs=0→∀r,ren r y=y)→a (ren ((C B).r γ) y) D)
  (h:∀B:Base,LW P n (C B) c (Ab (D8 0 ys) hs) (FQ T z (C B).outs LPost)):ZcF P f l xs H a:=by
 refine ZzU z N M g v U V fun B=>?_
 obtain⟨hl,t,s,hg⟩:=hB B
 have I:RG ((C B).r γ) (C B).l (C B).outs [] (Ab (D8 0 ys) hs) ⟨args xs,Ds l H⟩:=by
  refine⟨fun j=>⟨fun _=>?_,fun v=>absurd Ba v⟩,fun k m=>?_,fun d=>?_,fun i hi=>?_,fun k m=>.inr ⟨(b B k m).1,(b B k m).2.1⟩,fun k m _=>?_⟩
  ·have:=ZvY (r:=(C B).r γ) ys 0 j
   rw[YJ,x]at this
   exact this.symm
  ·obtain⟨p,q,F⟩:=b B k m
   show Ds l H ((C B).κ k)=_
   obtain⟨Y,Z⟩:=k
   simp only at p q
   subst p
   rw[mR (by rw[←hl];exact(u B).out _ q)]
   exact F
  ·show(Ds l H ((C B).l+1,d)).g=γ (1,d)+(AI hs (1,d)).g
   rw[hl,ZHw,W,Q]
   rfl
  ·show(Ds l H ((C B).κ (0,i))).g=γ (0,i)+(AI hs (0,i)).g
   rw[mR (by rw[←hl];exact(u B).out _ hi)]
   grind
  ·show Ds l H k=(C B).H0 k
   rw[s]
   exact mR (by rw[←hl];exact m)
 have:=h B γ _ hg I
 intro o w J
 rw[hl,t]at this
 refine wp_mono (this o w J) fun e G w' ⟨σ',S,K⟩=>?_
 obtain⟨A,p,q⟩:=ZIy (P:=P) (u B) L (R B) S
 rw[hl,s]at p
 have F:=q o w
 refine⟨A,p,?_⟩
 have X:=q G w'
 grind
end
def Az:List (Nat×TI)→Nat→Option TI
 |[],_=>none
 |(i,x)::r,j=>match Nat.beq i j with|true=>some x|false=>Az r j
theorem rL{P:Program}:∀(tl:List (Nat×TI)),(∀p∈tl,TIok P p.1 p.2)→Bg P (Az tl)
 |[],_,t,i,h=>by simp[Az]at h
 |(j,x)::r,b,t,i,h=>by
  simp only[Az]at h
  split at h
  ·rename_i he
   have he:=Yb he
   cases h
   subst he
   exact b _ (YB ..)
  ·exact rL r (fun p a=>b p (Ys _ a)) t i h
theorem TIok.of{P:Program}{t:TypeId}{i:TI}(f:DR P t=some i.agg)(k:Go.Eng.kin P t=i.kin)(m:P.cellsOf t=i.siz)(n:i.elm=none∨Go.Eng.elm P t=i.elm)
  (o:((List.range i.fld.length).map fun j=>(Go.Eng.fld P t j,LV P t j))=i.fld.map fun x=>(some (x.1,x.2.1),some x)) (p:i.zer=none∨Go.Eng.zer P t=i.zer) (q:i.eqt=none∨Ng P t=i.eqt) (r:i.str=false∨Lm P t=true)
  (s:i.ik=none∨P.underlying t=i.ik.map .int) (g:i.byt=none∨(∃b,P.bytesOf t≤b∧P.bytesOf t≠0∧i.byt=some b)) (c:i.zer=none∨(i.zer.getD []).all AV.flat=true) (d:i.mp=none∨H4 P t=i.mp:=by first|exact .inl rfl|exact .inr (by kernel_rfl)):TIok P t i where
 agg:=f
 kin:=k
 siz:=m
 elm:=fun e h=>by rcases n with a|a<;>rw[h]at a<;>first|exact a|cases a
 fld:=fun j x h=>by
  have:=congrArg (fun l=>l[j]?) o
  grind
 zer:=fun e h=>by rcases p with a|a<;>rw[h]at a<;>first|exact a|cases a
 eqt:=fun e h=>by rcases q with a|a<;>rw[h]at a<;>first|exact a|cases a
 str:=fun h=>by rcases r with a|a<;>first|exact a|(rw[h]at a;cases a)
 ik:=fun e h=>by rcases s with a|a<;>rw[h]at a<;>first|exact a|cases a
 byt:=fun e h=>by
  grind
 mp:=fun z h=>by rcases d with a|a<;>rw[h]at a<;>first|exact a|cases a
 flt:=fun z h=>by rcases c with a|a<;>rw[h]at a<;>first|exact a|cases a
def WS(l:Nat)(θ:Nat→AV)(H:Hp)(B:Base):Cx:=⟨l,B,fun k=>(l+1,k.2),θ,H,0,fun _=>False,[],fun _=>True⟩
theorem gv(l:Nat)(B:Base)(θ:Nat→AV)(H:Hp):CxOk (WS l θ H B):=⟨fun _=>rfl,fun i h=>absurd h (GC _),fun i j h=>absurd h (GC _),fun _ h=>h.elim,fun _ _ _ h=>h⟩
theorem ZAr{l:Nat}{θ:Nat→AV}{H:Hp}{B:Base}{γ:Ad→Nat}{b:List Blk}{a:Hp}(h:OutsOk (WS l θ H B) γ b a):a=H:=funext fun k=>h.o k id
end Go.Eng
