import Derived.Test.YtbcmdieedjamgaaGreatZd07
import Derived.Test.YtbcmdieedjamgaaGreatZd00
namespace Go.Eng
set_option linter.all false
open Go Go.RowKit
def KF(T:Nat→Option TI)(c:List ResultVar)(os:Nat)(b:AV→List Blk→Prop):Exit→St→AT→Prop
 |.normal,τ,a=>OQ T c os τ a b
 |.ret,τ,a=>OQ T c os τ a b
 |_,_,_=>False
def KB(T:Nat→Option TI)(d:List ResultVar)(os:Nat)(fx:List Nat)(r:Ren)(b:AV→List Blk→Prop)(lf c:Lf)(Q:Exit→St→Prop):Exit→St→AT→Prop
 |.ret,τ,a=>OQ T d os τ a b
 |.normal,τ,a=>A7 r os a τ (fun τ _=>Ei fx lf τ (Q .normal))
 |.exit i,τ,a=>A7 r os a τ (fun τ _=>Ei fx c τ (Q (.exit i)))
 |_,_,_=>False
section
variable {P:Program} {T:Nat→Option TI} {n:Nat} {C:Cx} {τ σ:St} {Q:Exit→St→Prop}
theorem Ud{l:Nat}{ds:List (Option Nat)}:∀(ops:List Oper) {K c:St→Prop} {σ:St},(∀σ,K σ→c σ)→D0 P l n ds ops K σ→D0 P l n ds ops c σ
 |[],K,c,σ,b,h=>b _ h
 |o::a,K,c,σ,b,h=>by
  unfold D0 at h⊢
  split at h
  ·exact Ur (fun σ h=>Ud a b h) h
  ·split at h
   ·refine⟨fun e=>Ur (fun σ h=>Ud a b h) (h.1 e),fun e=>?_⟩
    have d:=h.2 e
    split at d
    ·exact⟨d.1,Ud a b d.2⟩
    grind
   grind
theorem Pw{γ:Ad→Nat}{env:BQ}(h:RG (C.r γ) C.l C.outs env τ σ):∃a,RG (C.r γ) C.l C.outs [] (Dz env τ) a∧Wk n C σ a:=by
 refine⟨⟨fun j=>ren (C.r γ) ((Dz env τ).s j),σ.H⟩,⟨fun j=>⟨fun _=>rfl,fun d=>absurd A4 d⟩,h.h,h.g,h.go,h.k,h.o⟩,fun b w c=>?_⟩
 obtain⟨s,H⟩:=σ
 refine R.weaken c fun j=>?_
 simp only[Dz]
 split
 ·rename_i he
  left
  exact((h.s j).1 (by rw[he];exact A4)).symm
 ·right;simp[ren]
def bH(n:Nat)(C:Cx)(γ:Ad→Nat)(K:Exit→St→AT→Prop)(e:Exit)(σ:St):Prop:=∃τ a b,K e τ a∧RG (C.r γ) C.l C.outs [] τ b∧Wk n C σ b
theorem Zli{r:Ren}{H a:Hp}(l:RenOk r C.l C.outs)(o:DB r H a){d:Nat}{s s':Nat→AV}(hs:∀j,s' j=ren r (s j)){A:Prop}:∀{m:List (Nat×List (List D))},Xc H d s A m→A∧∀p∈m,∃off c,s' p.1=.ref (C.l+1,d) (a (C.l+1,d)).g off c∧
  p.2.length=c∧(∀e∈p.2,e.length=(a (C.l+1,d)).sz)∧(off+c)*(a (C.l+1,d)).sz≤(a (C.l+1,d)).cells.length∧((a (C.l+1,d)).cells.drop (off*(a (C.l+1,d)).sz)).take (c*(a (C.l+1,d)).sz)=p.2.flatten.map .d
 |[],h=>⟨h,fun p f=>by cases f⟩
 |(j,x)::m,h=>by
  simp only[Xc]at h
  split at h
  case h_2=>exact h.elim
  rename_i k q off c w
  split at h
  case h_2=>exact h.elim
  rename_i i hl
  have i:=Cq.1 i
  subst i
  obtain⟨⟨f1,f2,f3,f4,f5⟩,h⟩:=h
  obtain⟨v,y⟩:=Zli l o hs h
  obtain⟨n,t,u,b,g⟩:=o.at hl
  rw[l.own]at n t u b g
  refine⟨v,fun p f=>?_⟩
  rcases Yx.1 f with rfl|f
  ·refine⟨off,c,by rw[hs,w];simp[ren,l.own,n],f1,by rw[b];exact f3,by rw[b,g,CE];exact f4,?_⟩
   rw[b,g,Fe,FS,f5,H7]
  grind
theorem ZlF{r:Ren}{H a:Hp}(s:RenOk r C.l C.outs)(m:DB r H a){d:Nat}{A:Prop}:∀{cs:List (Ad×Nat×List (List D))},W9 H d A cs→A∧∀p∈cs,p.1.1=1∧p.1≠(1,d)∧(H p.1).live=true∧∃off c,(a (r.κ p.1)).cells[p.2.1]?=some (.ref (C.l+1,d) (a (C.l+1,d)).g off c)∧
  p.2.2.length=c∧(∀e∈p.2.2,e.length=(a (C.l+1,d)).sz)∧(off+c)*(a (C.l+1,d)).sz≤(a (C.l+1,d)).cells.length∧((a (C.l+1,d)).cells.drop (off*(a (C.l+1,d)).sz)).take (c*(a (C.l+1,d)).sz)=p.2.2.flatten.map .d
 |[],h=>⟨h,fun p j=>by cases j⟩
 |(k,i,B)::cs,h=>by
  simp only[W9]at h
  split at h
  case h_2=>exact h.elim
  rename_i k' q off c z f b u
  split at h
  case h_2=>exact h.elim
  rename_i n hl
  have n:=Cq.1 n
  subst n
  obtain⟨⟨f1,f2,f3,f4,f5⟩,h⟩:=h
  obtain⟨x,E⟩:=ZlF s m h
  obtain⟨t,v,w,g,l⟩:=m.at hl
  rw[s.own]at t v w g l
  refine⟨x,fun p j=>?_⟩
  rcases Yx.1 j with rfl|j
  ·have y:=m k b
   have o:k≠(1,d):=fun e=>by rw[Cq.2 e]at f;cases f
   refine⟨Ye z,o,b,off,c,?_,f1,by rw[g];exact f3,by rw[g,l,CE];exact f4,?_⟩
   ·rw[y]
    simp only[AL,H5]
    rw[Cm]at u
    rw[u]
    simp[ren,s.own,t]
   ·rw[g,l,Fe,FS,f5,H7]
  grind
theorem Zoi{r:Ren}:∀(b:List (Nat×List (List D))) {s s':Nat→AV},(∀j,s' j=ren r (s j))→∀j,Jt b s' j=ren r (Jt b s j)
 |[],s,s',h,j=>h j
 |(i,c)::b,s,s',h,j=>Zoi b (s:=upd s i (.d (.list c))) (s':=upd s' i (.d (.list c))) (fun q=>by
   simp only[upd]
   by_cases a:q=i
   ·rw[Yj a,Yj a];simp[ren]
   ·rw[Ym a,Ym a];exact h q) j
theorem Ub{r:Ren}(xs:List AV)(i:Nat)(x:AV):(Ao r xs).set i (ren r x)=Ao r (xs.set i x):=by rw[FT,FT,Oj]
theorem Ztf{γ:Ad→Nat}(d:CxOk C):∀(cs:List (Ad×Nat×List (List D))) {τ σ:St},(∀p∈cs,p.1.1=1∧(τ.H p.1).live=true)→RG (C.r γ) C.l C.outs [] τ σ→
  RG (C.r γ) C.l C.outs [] ⟨τ.s,IG cs τ.H⟩ ⟨σ.s,IG (cs.map fun p=>((C.r γ).κ p.1,p.2)) σ.H⟩
 |[],τ,σ,_,h=>h
 |(k,i,a)::cs,τ,σ,e,h=>by
  obtain⟨j,b⟩:=e _ (YB ..)
  have l:=h.h k b
  have c:=RG.updH (d.ren γ) h k ⟨(τ.H k).g,true,(τ.H k).e,(τ.H k).sz,(τ.H k).cells.set i (.d (.list a))⟩ rfl (.inl j)
  have f:AL (C.r γ) k ⟨(τ.H k).g,true,(τ.H k).e,(τ.H k).sz,(τ.H k).cells.set i (.d (.list a))⟩=⟨(σ.H ((C.r γ).κ k)).g,(σ.H ((C.r γ).κ k)).live,(σ.H ((C.r γ).κ k)).e,(σ.H ((C.r γ).κ k)).sz,(σ.H ((C.r γ).κ k)).cells.set i (.d (.list a))⟩:=by
   rw[l]
   simp only[AL]
   rw[←Ub]
   simp[ren]
  rw[f]at c
  have g:(⟨(τ.H k).g,true,(τ.H k).e,(τ.H k).sz,(τ.H k).cells.set i (.d (.list a))⟩:Blk)=⟨(τ.H k).g,(τ.H k).live,(τ.H k).e,(τ.H k).sz,(τ.H k).cells.set i (.d (.list a))⟩:=by rw[b]
  rw[g]at c
  have:=Ztf d cs (fun p m=>by
   obtain⟨n,o⟩:=e p (Yy _ m)
   refine⟨n,?_⟩
   show(updH τ.H k _ p.1).live=true
   unfold updH
   split
   ·exact b
   ·exact o) c
  exact this
theorem fp{r:Ren}{cs:List AV}(h:F0 cs):F0 (Ao r cs):=fun x hx=>by
 rw[FT]at hx
 obtain⟨y,hy,rfl⟩:=YX.1 hx
 have:=h y hy
 cases y with
 |d d=>simp[ren]
 |_=>cases this
theorem o4{H:Hp}{d:Nat}{s:Nat→AV}:∀{b:List Nat},Xe H d s b=true→∀j∈b,∃g,s j=.mp (1,d) g∧BU H (1,d) g=true
 |[],_,j,a=>by cases a
 |i::r,h,j,a=>by
  simp only[Xe]at h
  split at h
  ·rename_i k g he
   simp only[Yd]at h
   have c:=Cq.1 h.1.1
   subst c
   rcases Yx.1 a with rfl|a
   ·grind
   ·exact o4 h.2 j a
  ·cases h
theorem nP{H:Hp}{d:Nat}{s:Nat→AV}:∀{b:List Nat},Xg H d s b=true→∀j∈b,∃g,s j=.ptr (1,d) g 0∧BU H (1,d) g=true
 |[],_,j,a=>by cases a
 |i::r,h,j,a=>by
  simp only[Xg]at h
  split at h
  ·rename_i k g he
   simp only[Yd]at h
   have c:=Cq.1 h.1.1
   subst c
   rcases Yx.1 a with rfl|a
   ·grind
   ·exact nP h.2 j a
  ·cases h
theorem Cd(I:CxOk C){γ:Ad→Nat}:∀(a:AT) {τ σ:St} {K:St→AT→Prop},A7 (C.r γ) C.outs a τ K→RG (C.r γ) C.l C.outs [] τ σ→∃τ' G F,K τ' G∧RG (C.r γ) C.l C.outs [] τ' F∧Wk n C σ F
 |.frz d V cs b,τ,σ,K,h,f=>by
  have l:=I.ren γ
  have hs:∀j,σ.s j=ren (C.r γ) (τ.s j):=fun j=>(f.s j).1 A4
  simp only[A7]at h
  split at h
  case h_2=>exact h.elim
  rename_i hl hz
  have hz:=Yh hz
  obtain⟨h,hjs⟩:=Zli l f.h hs h
  obtain⟨h,hcs⟩:=ZlF l f.h h
  have t:=f.h _ hl
  rw[l.own]at t
  have z:(σ.H (C.l+1,d)).live=true:=by rw[t];rfl
  have U:(σ.H (C.l+1,d)).sz=(τ.H (1,d)).sz:=by rw[t];rfl
  have o:(σ.H (C.l+1,d)).g=(C.r γ).γ (1,d)+(τ.H (1,d)).g:=by rw[t];rfl
  have u:=RG.updK l f (1,d) ⟨(τ.H (1,d)).g,false,(τ.H (1,d)).e,(τ.H (1,d)).sz,(τ.H (1,d)).cells⟩ {σ.H (C.l+1,d)with live:=false } (fun e=>by cases e) o (.inl rfl)
  rw[l.own]at u
  have A:=Ztf I cs (fun p hp=>by
   obtain⟨q1,q2,q3,_⟩:=hcs p hp
   refine⟨q1,?_⟩
   show(updH τ.H (1,d) _ p.1).live=true
   rw[AR _ _ q2]
   exact q3) u
  have Q:RG (C.r γ) C.l C.outs [] ⟨Jt V τ.s,IG cs (updH τ.H (1,d) ⟨(τ.H (1,d)).g,false,(τ.H (1,d)).e,(τ.H (1,d)).sz,(τ.H (1,d)).cells⟩)⟩
    ⟨Jt V σ.s,IG (cs.map fun p=>((C.r γ).κ p.1,p.2)) (updH σ.H (C.l+1,d) {σ.H (C.l+1,d)with live:=false })⟩:=
   ⟨fun j=>⟨fun _=>Zoi V hs j,fun T=>absurd A4 T⟩,A.h,A.g,A.go,A.k,A.o⟩
  obtain⟨τ',G,F,N,v,O⟩:=Cd I b h Q
  refine⟨τ',G,F,N,v,Wk.trans (fun L w M=>?_) O⟩
  obtain⟨s,H⟩:=σ
  refine R.freeze M (k:=(C.l+1,d)) (Yf _) z (by rw[U];omega) V (cs.map fun p=>((C.r γ).κ p.1,p.2)) hjs (fun p hp=>?_)
  obtain⟨pp,hpp,rfl⟩:=YX.1 hp
  obtain⟨q1,q2,q3,q4⟩:=hcs pp hpp
  obtain⟨⟨p1,p2⟩,p3⟩:=pp
  simp only at q1 q2 q3 q4
  subst q1
  have hlv:(H ((C.r γ).κ (1,p2))).live=true:=by have:=f.h _ q3;simp only at this;rw[this];rfl
  exact⟨by simp only;rw[l.own];intro e;simp at e;exact q2 (by rw[e]),by simp only;rw[l.own];exact Yf _,hlv,q4⟩
 |.adc k i d e sz b,τ,σ,K,h,f=>by
  have l:=I.ren γ
  simp only[A7]at h
  split at h
  case h_2=>exact h.elim
  rename_i P hne hlv E
  have P:=Ye P
  have hne:k≠(1,d):=fun e=>by rw[Cq.2 e]at hne;cases hne
  obtain⟨N,v⟩:=k
  simp only at P
  subst P
  have t:=f.h _ hlv
  have u:=RG.updH l f (1,d) ⟨(τ.H (1,d)).g+1,true,e,sz,[]⟩ rfl (.inl rfl)
  have A:=RG.updH l u (1,v) ⟨(τ.H (1,v)).g,true,(τ.H (1,v)).e,(τ.H (1,v)).sz,(τ.H (1,v)).cells.set i (.ref (1,d) ((τ.H (1,d)).g+1) 0 0)⟩ rfl (.inl rfl)
  have e1:AL (C.r γ) (1,d) ⟨(τ.H (1,d)).g+1,true,e,sz,[]⟩=⟨(σ.H (C.l+1,d)).g+1,true,e,sz,[]⟩:=by simp only[AL,f.g,Ao,YI]
  have e2:AL (C.r γ) (1,v) ⟨(τ.H (1,v)).g,true,(τ.H (1,v)).e,(τ.H (1,v)).sz,(τ.H (1,v)).cells.set i (.ref (1,d) ((τ.H (1,d)).g+1) 0 0)⟩=
    ⟨(σ.H (C.l+1,v)).g,(σ.H (C.l+1,v)).live,(σ.H (C.l+1,v)).e,(σ.H (C.l+1,v)).sz,(σ.H (C.l+1,v)).cells.set i (.ref (C.l+1,d) ((σ.H (C.l+1,d)).g+1) 0 0)⟩:=by
   rw[l.own]at t
   rw[t]
   simp only[AL]
   rw[←Ub]
   simp[ren,l.own,f.g,YI]
  rw[e1,e2,l.own,l.own]at A
  obtain⟨τ',G,F,j1,j2,j3⟩:=Cd I b h A
  refine⟨τ',G,F,j1,j2,Wk.trans (fun L w M=>?_) j3⟩
  obtain⟨s,H⟩:=σ
  rw[Cm]at E
  exact R.adoptC M (k:=(C.l+1,d)) (kp:=(C.l+1,v)) rfl rfl (fun e=>by simp at e;exact hne (by rw[e])) (by rw[l.own]at t;simp only at t;rw[t];rfl) (by rw[l.own]at t;simp only at t;rw[t];simp only[AL,H5,E];simp[ren])
 |.ads j d e sz b,τ,σ,K,h,f=>by
  have l:=I.ren γ
  simp only[A7]at h
  split at h
  case h_2=>exact h.elim
  rename_i he
  have hsj:σ.s j=.e0:=by rw[(f.s j).1 A4,gG he];simp[ren]
  have u:=RG.updH l f (1,d) ⟨(τ.H (1,d)).g+1,true,e,sz,[]⟩ rfl (.inl rfl)
  have e1:AL (C.r γ) (1,d) ⟨(τ.H (1,d)).g+1,true,e,sz,[]⟩=⟨(σ.H (C.l+1,d)).g+1,true,e,sz,[]⟩:=by simp only[AL,f.g,Ao,YI]
  rw[e1,l.own]at u
  have Q:RG (C.r γ) C.l C.outs [] ⟨upd τ.s j (.ref (1,d) ((τ.H (1,d)).g+1) 0 0),updH τ.H (1,d) ⟨(τ.H (1,d)).g+1,true,e,sz,[]⟩⟩ ⟨upd σ.s j (.ref (C.l+1,d) ((σ.H (C.l+1,d)).g+1) 0 0),updH σ.H (C.l+1,d) ⟨(σ.H (C.l+1,d)).g+1,true,e,sz,[]⟩⟩:=
   ⟨fun i=>⟨fun _=>by
    simp only[upd]
    by_cases hi:i=j
    ·rw[Yj hi,Yj hi];simp[ren,l.own,f.g,YI]
    ·rw[Ym hi,Ym hi];exact(f.s i).1 A4,fun T=>absurd A4 T⟩,u.h,u.g,u.go,u.k,u.o⟩
  obtain⟨τ',G,F,N,v,O⟩:=Cd I b h Q
  refine⟨τ',G,F,N,v,Wk.trans (fun L w M=>?_) O⟩
  obtain⟨s,H⟩:=σ
  exact R.adopt (e:=e) (sz:=sz) M (C.l+1,d) rfl _ (YO _) hsj
 |.trim k c b,τ,σ,K,h,f=>by
  have l:=I.ren γ
  simp only[A7]at h
  split at h
  case h_2=>exact h.elim
  rename_i hl
  obtain⟨⟨m,hm⟩,h⟩:=h
  have t:=f.h k hl
  have hko:A7 (C.r γ) C.outs b ⟨τ.s,updH τ.H k ⟨(τ.H k).g,true,(τ.H k).e,(τ.H k).sz,c⟩⟩ K∧KI (C.r γ) C.outs k:=by
   unfold trK at h
   split at h
   ·rename_i P;exact⟨h,.inl (Ye P)⟩
   ·rcases f.k k hl with h5|⟨_,h5⟩
    ·have:=h.1.1;omega
    ·exact⟨h.2,.inr ⟨h.1.1,h5,h.1.2⟩⟩
  obtain⟨h,hko⟩:=hko
  have u:=RG.updH l f k ⟨(τ.H k).g,true,(τ.H k).e,(τ.H k).sz,c⟩ rfl hko
  have e1:AL (C.r γ) k ⟨(τ.H k).g,true,(τ.H k).e,(τ.H k).sz,c⟩=⟨(σ.H ((C.r γ).κ k)).g,(σ.H ((C.r γ).κ k)).live,(σ.H ((C.r γ).κ k)).e,(σ.H ((C.r γ).κ k)).sz,(σ.H ((C.r γ).κ k)).cells.take m⟩:=by
   rw[t]
   simp only[AL,FS,hm]
  rw[e1]at u
  obtain⟨τ',G,F,N,v,O⟩:=Cd I b h u
  refine⟨τ',G,F,N,v,Wk.trans (fun L w M=>?_) O⟩
  obtain⟨s,H⟩:=σ
  have hle:((C.r γ).κ k).1≤C.l+1:=by
   obtain⟨N,v⟩:=k
   have:=hko.lk
   simp only at this
   rcases this with rfl|⟨rfl,A⟩
   ·rw[l.own];exact Yf _
   ·exact Sd (l.out v A)
  exact R.trim M hle (by have B:=t;simp only at B;rw[B];rfl) m
 |.reb j d m c b,τ,σ,K,h,f=>by
  have l:=I.ren γ
  simp only[A7]at h
  split at h
  case h_2=>exact h.elim
  rename_i k q off n hsj
  split at h
  case h_2=>exact h.elim
  rename_i hkd hq
  have P:k=(1,d):=Cq.1 hkd
  subst P
  obtain⟨hq1,hl⟩:=EC hq
  subst hq1
  obtain⟨⟨hnm,hlen,E⟩,h⟩:=h
  subst E
  subst hnm
  have t:=f.h (1,d) hl
  rw[l.own]at t
  have z:(σ.H (C.l+1,d)).live=true:=by rw[t];rfl
  have U:(σ.H (C.l+1,d)).sz=(τ.H (1,d)).sz:=by rw[t];rfl
  have o:(σ.H (C.l+1,d)).g=(C.r γ).γ (1,d)+(τ.H (1,d)).g:=by rw[t];rfl
  have hcr:(σ.H (C.l+1,d)).cells=Ao (C.r γ) (τ.H (1,d)).cells:=by rw[t];rfl
  have Z:(σ.H (C.l+1,d)).e=(τ.H (1,d)).e:=by rw[t];rfl
  have hs:σ.s j=.ref (C.l+1,d) (σ.H (C.l+1,d)).g off n:=by rw[(f.s j).1 A4,hsj];simp only[ren];rw[l.own,o]
  have u:=RG.updH l f (1,d) ⟨(τ.H (1,d)).g+1,true,.t (τ.H (1,d)).e.ty,(τ.H (1,d)).sz,(τ.H (1,d)).cells.drop (off*(τ.H (1,d)).sz)⟩ rfl (.inl rfl)
  have e1:AL (C.r γ) (1,d) ⟨(τ.H (1,d)).g+1,true,.t (τ.H (1,d)).e.ty,(τ.H (1,d)).sz,(τ.H (1,d)).cells.drop (off*(τ.H (1,d)).sz)⟩=⟨(σ.H (C.l+1,d)).g+1,true,.t (σ.H (C.l+1,d)).e.ty,(σ.H (C.l+1,d)).sz,(σ.H (C.l+1,d)).cells.drop (off*(σ.H (C.l+1,d)).sz)⟩:=by
   simp only[AL,o,Z,U,hcr,Fe,YI]
  rw[e1,l.own]at u
  have Q:RG (C.r γ) C.l C.outs [] ⟨upd τ.s j (.ref (1,d) ((τ.H (1,d)).g+1) 0 n),updH τ.H (1,d) ⟨(τ.H (1,d)).g+1,true,.t (τ.H (1,d)).e.ty,(τ.H (1,d)).sz,(τ.H (1,d)).cells.drop (off*(τ.H (1,d)).sz)⟩⟩
    ⟨upd σ.s j (.ref (C.l+1,d) ((σ.H (C.l+1,d)).g+1) 0 n),updH σ.H (C.l+1,d) ⟨(σ.H (C.l+1,d)).g+1,true,.t (σ.H (C.l+1,d)).e.ty,(σ.H (C.l+1,d)).sz,(σ.H (C.l+1,d)).cells.drop (off*(σ.H (C.l+1,d)).sz)⟩⟩:=
   ⟨fun i=>⟨fun _=>by
    simp only[upd]
    by_cases hi:i=j
    ·rw[Yj hi,Yj hi];simp only[ren];rw[l.own,o,YI]
    ·rw[Ym hi,Ym hi];exact(f.s i).1 A4,fun T=>absurd A4 T⟩,u.h,u.g,u.go,u.k,u.o⟩
  obtain⟨τ',G,F,N,v,O⟩:=Cd I b h Q
  refine⟨τ',G,F,N,v,Wk.trans (fun L w M=>?_) O⟩
  obtain⟨s,H⟩:=σ
  exact R.rebase M (Yf _) z hs (by rw[U,hcr,CE];exact hlen)
 |.mv d j b,τ,σ,K,h,f=>by
  have l:=I.ren γ
  have hs:∀j,σ.s j=ren (C.r γ) (τ.s j):=fun j=>(f.s j).1 A4
  simp only[A7]at h
  split at h
  case h_2=>exact h.elim
  rename_i hl
  obtain⟨hf,⟨J,hno⟩,h⟩:=h
  have t:=f.h _ hl
  have X:=f.go j J
  rw[l.own]at t
  have z:(σ.H (C.l+1,d)).live=true:=by rw[t];rfl
  have o:(σ.H (C.l+1,d)).g=(C.r γ).γ (1,d)+(τ.H (1,d)).g:=by rw[t];rfl
  have u:=RG.updK l f (1,d) ⟨(τ.H (1,d)).g,false,(τ.H (1,d)).e,(τ.H (1,d)).sz,(τ.H (1,d)).cells⟩ {σ.H (C.l+1,d)with live:=false } (fun e=>by cases e) o (.inl rfl)
  rw[l.own]at u
  have A:=RG.updH l u (0,j) ⟨(τ.H (0,j)).g+1,true,(τ.H (1,d)).e,(τ.H (1,d)).sz,(τ.H (1,d)).cells⟩ rfl (.inr ⟨rfl,J,hno⟩)
  have e2:AL (C.r γ) (0,j) ⟨(τ.H (0,j)).g+1,true,(τ.H (1,d)).e,(τ.H (1,d)).sz,(τ.H (1,d)).cells⟩={σ.H (C.l+1,d)with g:=(σ.H ((C.r γ).κ (0,j))).g+1 }:=by
   rw[t]
   simp only[AL,X,YI]
  rw[e2]at A
  have Q:RG (C.r γ) C.l C.outs [] ⟨fun i=>Fy (1,d) (0,j) (τ.H (1,d)).g ((τ.H (0,j)).g+1) (τ.s i),updH (updH τ.H (1,d) ⟨(τ.H (1,d)).g,false,(τ.H (1,d)).e,(τ.H (1,d)).sz,(τ.H (1,d)).cells⟩) (0,j) ⟨(τ.H (0,j)).g+1,true,(τ.H (1,d)).e,(τ.H (1,d)).sz,(τ.H (1,d)).cells⟩⟩
    ⟨fun i=>ren (C.r γ) (Fy (1,d) (0,j) (τ.H (1,d)).g ((τ.H (0,j)).g+1) (τ.s i)),updH (updH σ.H (C.l+1,d) {σ.H (C.l+1,d)with live:=false }) ((C.r γ).κ (0,j)) {σ.H (C.l+1,d)with g:=(σ.H ((C.r γ).κ (0,j))).g+1 }⟩:=
   ⟨fun i=>⟨fun _=>rfl,fun T=>absurd A4 T⟩,A.h,A.g,A.go,A.k,A.o⟩
  obtain⟨τ',G,F,N,v,O⟩:=Cd I b h Q
  refine⟨τ',G,F,N,v,Wk.trans (fun L w M=>?_) O⟩
  obtain⟨s,H⟩:=σ
  refine R.handout M (k:=(C.l+1,d)) rfl (l.out j J) z (by have B:=t;simp only at B;rw[B];exact fp hf) (fun i=>?_)
  have r:=hs i
  simp only at r
  cases hx:τ.s i with
  |ref q g off c=>
   rw[hx]at r
   rw[gq]
   split
   ·rename_i E
    obtain⟨rfl,rfl⟩:=E
    refine .inr (.inl ⟨off,c,?_,?_⟩)
    ·rw[r];simp only[ren];rw[l.own];simp only at o;rw[o]
    ·simp only[ren];simp only at X;rw[X,YI]
   ·left;rw[r]
  |mp q g=>
   rw[hx]at r
   rw[jx]
   split
   ·rename_i E
    obtain⟨rfl,rfl⟩:=E
    refine .inr (.inr ⟨?_,?_⟩)
    ·rw[r];simp only[ren];rw[l.own];simp only at o;rw[o]
    ·simp only[ren];simp only at X;rw[X,YI]
   ·left;rw[r]
  |_=>left;rw[r,hx];rfl
 |.rnm d d' e i b,τ,σ,K,h,f=>by
  have l:=I.ren γ
  have hs:∀j,σ.s j=ren (C.r γ) (τ.s j):=fun j=>(f.s j).1 A4
  simp only[A7]at h
  split at h
  case h_2=>exact h.elim
  rename_i k g off c hl hdd S Y hle E
  split at h
  case h_2=>exact h.elim
  rename_i P hg
  obtain⟨hf,h⟩:=h
  have P:=Cq.1 P
  subst P
  have hg:=Ye hg
  subst hg
  have hdd:d≠d':=fun q=>by subst q;simp at hdd
  have S:e≠d:=fun q=>by subst q;simp at S
  have Y:e≠d':=fun q=>by subst q;simp at Y
  have t:=f.h _ hl
  have D:=f.h _ hle
  rw[l.own]at t D
  have z:(σ.H (C.l+1,d)).live=true:=by rw[t];rfl
  have hler:(σ.H (C.l+1,e)).live=true:=by rw[D];rfl
  have o:(σ.H (C.l+1,d)).g=(C.r γ).γ (1,d)+(τ.H (1,d)).g:=by rw[t];rfl
  have y:=f.g d'
  have u:=RG.updK l f (1,d) ⟨(τ.H (1,d)).g,false,(τ.H (1,d)).e,(τ.H (1,d)).sz,(τ.H (1,d)).cells⟩ {σ.H (C.l+1,d)with live:=false } (fun e=>by cases e) o (.inl rfl)
  rw[l.own]at u
  have A:=RG.updH l u (1,d') ⟨(τ.H (1,d')).g+1,true,(τ.H (1,d)).e,(τ.H (1,d)).sz,(τ.H (1,d)).cells⟩ rfl (.inl rfl)
  have e2:AL (C.r γ) (1,d') ⟨(τ.H (1,d')).g+1,true,(τ.H (1,d)).e,(τ.H (1,d)).sz,(τ.H (1,d)).cells⟩={σ.H (C.l+1,d)with g:=(σ.H (C.l+1,d')).g+1 }:=by
   rw[t]
   simp only[AL,y,YI]
  rw[e2,l.own]at A
  have W:=RG.updH l A (1,e) ⟨(τ.H (1,e)).g,true,(τ.H (1,e)).e,(τ.H (1,e)).sz,(τ.H (1,e)).cells.set i (.ref (1,d') ((τ.H (1,d')).g+1) off c)⟩ rfl (.inl rfl)
  have e4:AL (C.r γ) (1,e) ⟨(τ.H (1,e)).g,true,(τ.H (1,e)).e,(τ.H (1,e)).sz,(τ.H (1,e)).cells.set i (.ref (1,d') ((τ.H (1,d')).g+1) off c)⟩=
    ⟨(σ.H (C.l+1,e)).g,true,(σ.H (C.l+1,e)).e,(σ.H (C.l+1,e)).sz,(σ.H (C.l+1,e)).cells.set i (.ref (C.l+1,d') ((σ.H (C.l+1,d')).g+1) off c)⟩:=by
   rw[D]
   simp only[AL]
   rw[←Ub]
   simp[ren,l.own,y,YI]
  rw[e4,l.own]at W
  have Q:RG (C.r γ) C.l C.outs [] ⟨fun j=>Fy (1,d) (1,d') (τ.H (1,d)).g ((τ.H (1,d')).g+1) (τ.s j),_⟩
    ⟨fun j=>ren (C.r γ) (Fy (1,d) (1,d') (τ.H (1,d)).g ((τ.H (1,d')).g+1) (τ.s j)),_⟩:=
   ⟨fun i=>⟨fun _=>rfl,fun T=>absurd A4 T⟩,W.h,W.g,W.go,W.k,W.o⟩
  obtain⟨τ',G,F,N,v,O⟩:=Cd I b h Q
  refine⟨τ',G,F,N,v,Wk.trans (fun L w M=>?_) O⟩
  obtain⟨s,H⟩:=σ
  rw[Cm]at E
  refine R.rename M (k:=(C.l+1,d)) (k':=(C.l+1,d')) (q:=(C.l+1,e)) rfl (Yf _) rfl (fun q=>hdd (by simpa using q)) (fun q=>S (by simpa using q)) (fun q=>Y (by simpa using q)) z hler (by have B:=t;simp only at B;rw[B];exact fp hf)
   (by simp only at D o;rw[D];simp only[AL,H5,E];simp[ren,l.own,o]) (fun i=>?_)
  have r:=hs i
  simp only at r
  cases hx:τ.s i with
  |ref q g off c=>
   rw[hx]at r
   rw[gq]
   split
   ·rename_i E
    obtain⟨rfl,rfl⟩:=E
    refine .inr (.inl ⟨off,c,?_,?_⟩)
    ·rw[r];simp only[ren];rw[l.own];simp only at o;rw[o]
    ·simp only[ren];rw[l.own];simp only at y;rw[y,YI]
   ·left;rw[r]
  |mp q g=>
   rw[hx]at r
   rw[jx]
   split
   ·rename_i E
    obtain⟨rfl,rfl⟩:=E
    refine .inr (.inr ⟨?_,?_⟩)
    ·rw[r];simp only[ren];rw[l.own];simp only at o;rw[o]
    ·simp only[ren];rw[l.own];simp only at y;rw[y,YI]
   ·left;rw[r]
  |_=>left;rw[r,hx];rfl
 |.mvc d q e i b,τ,σ,K,h,f=>by
  have l:=I.ren γ
  have hs:∀j,σ.s j=ren (C.r γ) (τ.s j):=fun j=>(f.s j).1 A4
  simp only[A7]at h
  split at h
  case h_2=>exact h.elim
  rename_i k g off c hl S hle E
  split at h
  case h_2=>exact h.elim
  rename_i P hg
  obtain⟨hf,⟨J,hno⟩,h⟩:=h
  have P:=Cq.1 P
  subst P
  have hg:=Ye hg
  subst hg
  have S:e≠d:=fun q'=>by subst q';simp at S
  have t:=f.h _ hl
  have D:=f.h _ hle
  rw[l.own]at t D
  have z:(σ.H (C.l+1,d)).live=true:=by rw[t];rfl
  have hler:(σ.H (C.l+1,e)).live=true:=by rw[D];rfl
  have o:(σ.H (C.l+1,d)).g=(C.r γ).γ (1,d)+(τ.H (1,d)).g:=by rw[t];rfl
  have y:=f.go q J
  have hlo:=l.out q J
  have u:=RG.updK l f (1,d) ⟨(τ.H (1,d)).g,false,(τ.H (1,d)).e,(τ.H (1,d)).sz,(τ.H (1,d)).cells⟩ {σ.H (C.l+1,d)with live:=false } (fun e=>by cases e) o (.inl rfl)
  rw[l.own]at u
  have A:=RG.updH l u (0,q) ⟨(τ.H (0,q)).g+1,true,(τ.H (1,d)).e,(τ.H (1,d)).sz,(τ.H (1,d)).cells⟩ rfl (.inr ⟨rfl,J,hno⟩)
  have e2:AL (C.r γ) (0,q) ⟨(τ.H (0,q)).g+1,true,(τ.H (1,d)).e,(τ.H (1,d)).sz,(τ.H (1,d)).cells⟩={σ.H (C.l+1,d)with g:=(σ.H ((C.r γ).κ (0,q))).g+1 }:=by
   rw[t]
   simp only[AL,y,YI]
  rw[e2]at A
  have W:=RG.updH l A (1,e) ⟨(τ.H (1,e)).g,true,(τ.H (1,e)).e,(τ.H (1,e)).sz,(τ.H (1,e)).cells.set i (.ref (0,q) ((τ.H (0,q)).g+1) off c)⟩ rfl (.inl rfl)
  have e4:AL (C.r γ) (1,e) ⟨(τ.H (1,e)).g,true,(τ.H (1,e)).e,(τ.H (1,e)).sz,(τ.H (1,e)).cells.set i (.ref (0,q) ((τ.H (0,q)).g+1) off c)⟩=
    ⟨(σ.H (C.l+1,e)).g,true,(σ.H (C.l+1,e)).e,(σ.H (C.l+1,e)).sz,(σ.H (C.l+1,e)).cells.set i (.ref ((C.r γ).κ (0,q)) ((σ.H ((C.r γ).κ (0,q))).g+1) off c)⟩:=by
   rw[D]
   simp only[AL]
   rw[←Ub]
   simp[ren,l.own,y,YI]
  rw[e4,l.own]at W
  have Q:RG (C.r γ) C.l C.outs [] ⟨fun j=>Fy (1,d) (0,q) (τ.H (1,d)).g ((τ.H (0,q)).g+1) (τ.s j),_⟩
    ⟨fun j=>ren (C.r γ) (Fy (1,d) (0,q) (τ.H (1,d)).g ((τ.H (0,q)).g+1) (τ.s j)),_⟩:=
   ⟨fun i=>⟨fun _=>rfl,fun T=>absurd A4 T⟩,W.h,W.g,W.go,W.k,W.o⟩
  obtain⟨τ',G,F,N,v,O⟩:=Cd I b h Q
  refine⟨τ',G,F,N,v,Wk.trans (fun L w M=>?_) O⟩
  obtain⟨s,H⟩:=σ
  rw[Cm]at E
  refine R.rename M (k:=(C.l+1,d)) (k':=((C.r γ).κ (0,q))) (q:=(C.l+1,e)) rfl (Sd hlo) rfl (fun q'=>by rw[←q']at hlo;exact absurd hlo (Nat.not_succ_le_self _)) (fun q'=>S (by simpa using q')) (fun q'=>by rw[←q']at hlo;exact absurd hlo (Nat.not_succ_le_self _)) z hler (by have B:=t;simp only at B;rw[B];exact fp hf)
   (by simp only at D o;rw[D];simp only[AL,H5,E];simp[ren,l.own,o]) (fun i=>?_)
  have r:=hs i
  simp only at r
  cases hx:τ.s i with
  |ref q g off c=>
   rw[hx]at r
   rw[gq]
   split
   ·rename_i E
    obtain⟨rfl,rfl⟩:=E
    refine .inr (.inl ⟨off,c,?_,?_⟩)
    ·rw[r];simp only[ren];rw[l.own];simp only at o;rw[o]
    ·simp only[ren];simp only at y;rw[y,YI]
   ·left;rw[r]
  |mp q g=>
   rw[hx]at r
   rw[jx]
   split
   ·rename_i E
    obtain⟨rfl,rfl⟩:=E
    refine .inr (.inr ⟨?_,?_⟩)
    ·rw[r];simp only[ren];rw[l.own];simp only at o;rw[o]
    ·simp only[ren];simp only at y;rw[y,YI]
   ·left;rw[r]
  |_=>left;rw[r,hx];rfl
 |.fzm d V b,τ,σ,K,h,f=>by
  have l:=I.ren γ
  have hs:∀j,σ.s j=ren (C.r γ) (τ.s j):=fun j=>(f.s j).1 A4
  simp only[A7]at h
  split at h
  case h_2=>exact h.elim
  rename_i q es hl he hm
  have hjs:=o4 hm
  have t:=f.h _ hl
  rw[l.own]at t
  have z:(σ.H (C.l+1,d)).live=true:=by rw[t];rfl
  have Z:(σ.H (C.l+1,d)).e=.m q es:=by rw[t];exact he
  have o:(σ.H (C.l+1,d)).g=(C.r γ).γ (1,d)+(τ.H (1,d)).g:=by rw[t];rfl
  have u:=RG.updK l f (1,d) ⟨(τ.H (1,d)).g,false,(τ.H (1,d)).e,(τ.H (1,d)).sz,(τ.H (1,d)).cells⟩ {σ.H (C.l+1,d)with live:=false } (fun e=>by cases e) o (.inl rfl)
  rw[l.own]at u
  have Q:RG (C.r γ) C.l C.outs [] ⟨EN (.d (.map q es)) V τ.s,updH τ.H (1,d) ⟨(τ.H (1,d)).g,false,(τ.H (1,d)).e,(τ.H (1,d)).sz,(τ.H (1,d)).cells⟩⟩ ⟨EN (.d (.map q es)) V σ.s,updH σ.H (C.l+1,d) {σ.H (C.l+1,d)with live:=false }⟩:=
   ⟨fun j=>⟨fun _=>by
    simp only[PZ]
    by_cases J:j∈V
    ·rw[Yj J,Yj J];simp[ren]
    ·rw[Ym J,Ym J];exact hs j,fun T=>absurd A4 T⟩,u.h,u.g,u.go,u.k,u.o⟩
  obtain⟨τ',G,F,N,v,O⟩:=Cd I b h Q
  refine⟨τ',G,F,N,v,Wk.trans (fun L w M=>?_) O⟩
  obtain⟨s,H⟩:=σ
  refine R.freezeM M (k:=(C.l+1,d)) (Yf _) z Z V (fun j J=>?_)
  obtain⟨g,g1,g2⟩:=hjs j J
  have:=hs j
  simp only at this o
  rw[this,g1]
  simp only[ren]
  rw[l.own,o,(EC g2).1]
 |.fzb d V b,τ,σ,K,h,f=>by
  have l:=I.ren γ
  have hs:∀j,σ.s j=ren (C.r γ) (τ.s j):=fun j=>(f.s j).1 A4
  simp only[A7]at h
  split at h
  case h_2=>exact h.elim
  rename_i x ds hl he hm
  have hjs:=nP hm
  have t:=f.h _ hl
  rw[l.own]at t
  have z:(σ.H (C.l+1,d)).live=true:=by rw[t];rfl
  have Z:(σ.H (C.l+1,d)).cells=(x::ds).map .d:=by rw[t];show Ao _ _=_;rw[UF he,H7]
  have o:(σ.H (C.l+1,d)).g=(C.r γ).γ (1,d)+(τ.H (1,d)).g:=by rw[t];rfl
  have u:=RG.updK l f (1,d) ⟨(τ.H (1,d)).g,false,(τ.H (1,d)).e,(τ.H (1,d)).sz,(τ.H (1,d)).cells⟩ {σ.H (C.l+1,d)with live:=false } (fun e=>by cases e) o (.inl rfl)
  rw[l.own]at u
  have Q:RG (C.r γ) C.l C.outs [] ⟨EN (.iptr (x::ds) 0) V τ.s,updH τ.H (1,d) ⟨(τ.H (1,d)).g,false,(τ.H (1,d)).e,(τ.H (1,d)).sz,(τ.H (1,d)).cells⟩⟩ ⟨EN (.iptr (x::ds) 0) V σ.s,updH σ.H (C.l+1,d) {σ.H (C.l+1,d)with live:=false }⟩:=
   ⟨fun j=>⟨fun _=>by
    simp only[PZ]
    by_cases J:j∈V
    ·rw[Yj J,Yj J];simp[ren]
    ·rw[Ym J,Ym J];exact hs j,fun T=>absurd A4 T⟩,u.h,u.g,u.go,u.k,u.o⟩
  obtain⟨τ',G,F,N,v,O⟩:=Cd I b h Q
  refine⟨τ',G,F,N,v,Wk.trans (fun L w M=>?_) O⟩
  obtain⟨s,H⟩:=σ
  refine R.freezeB M (k:=(C.l+1,d)) (Yf _) z Z (by simp) V (fun j J=>?_)
  obtain⟨g,g1,g2⟩:=hjs j J
  have:=hs j
  simp only at this o
  rw[this,g1]
  simp only[ren]
  rw[l.own,o,(EC g2).1]
 |.ents _ _,τ,σ,K,h,f=>⟨τ,_,σ,h,f,Wk.refl σ⟩
 |.all _ _,τ,σ,K,h,f=>⟨τ,_,σ,h,f,Wk.refl σ⟩
 |.nil,τ,σ,K,h,f=>⟨τ,_,σ,h,f,Wk.refl σ⟩
 |.sep _,τ,σ,K,h,f=>⟨τ,_,σ,h,f,Wk.refl σ⟩
 |.go _,τ,σ,K,h,f=>⟨τ,_,σ,h,f,Wk.refl σ⟩
 |.av _ _,τ,σ,K,h,f=>⟨τ,_,σ,h,f,Wk.refl σ⟩
 |.cs _ _,τ,σ,K,h,f=>⟨τ,_,σ,h,f,Wk.refl σ⟩
 |.ds _ _,τ,σ,K,h,f=>⟨τ,_,σ,h,f,Wk.refl σ⟩
 |.num _ _,τ,σ,K,h,f=>⟨τ,_,σ,h,f,Wk.refl σ⟩
 |.nat _ _,τ,σ,K,h,f=>⟨τ,_,σ,h,f,Wk.refl σ⟩
 |.call _ _ _,τ,σ,K,h,f=>⟨τ,_,σ,h,f,Wk.refl σ⟩
 |.callH _ _ _ _,τ,σ,K,h,f=>⟨τ,_,σ,h,f,Wk.refl σ⟩
 |.br _ _,τ,σ,K,h,f=>⟨τ,_,σ,h,f,Wk.refl σ⟩
 |.one _ _,τ,σ,K,h,f=>⟨τ,_,σ,h,f,Wk.refl σ⟩
 |.hard _ _ _ _ _,τ,σ,K,h,f=>⟨τ,_,σ,h,f,Wk.refl σ⟩
theorem GA(o:CxOk C)(s:A8 P T)(hm:P.follows .mixedOrders=true){γ:Ad→Nat}:∀(c:Code) (a:AT) (τ σ:St) (K:Exit→St→AT→Prop),Cw P T C.l n C.outs (C.r γ) c a τ K→RG (C.r γ) C.l C.outs [] τ σ→
  BI P C.l n C.B c (bH n C γ K) σ
 |.skip,a,τ,σ,K,h,d=>Zwn ⟨τ,a,σ,h,d,Wk.refl σ⟩
 |.ret,a,τ,σ,K,h,d=>by
  obtain⟨τ',f,p,k,m,q⟩:=Cd (n:=n) o a h d
  exact BI.weak (ZGV ⟨τ',f,p,k,m,Wk.refl p⟩) q
 |.exit id,a,τ,σ,K,h,d=>Zwl ⟨τ,a,σ,h,d,Wk.refl σ⟩
 |.seq x y,a,τ,σ,K,h,d=>by
  have F:=GA o s hm x a τ σ _ h d
  refine fU (HZ F fun e p hi=>?_)
  obtain⟨τ',f,j,k,m,q⟩:=hi
  cases e with
  |normal=>exact BI.weak (GA o s hm y f τ' j _ k m) q
  |_=>exact⟨τ',f,j,k,m,q⟩
 |.block id c,a,τ,σ,K,h,d=>by
  have F:=GA o s hm c a τ σ _ h d
  refine ZlG (HZ F fun e p hi=>?_)
  obtain⟨τ',f,j,k,m,q⟩:=hi
  cases e with
  |exit i=>
   unfold Vq
   simp only at k⊢
   split at k
   ·rename_i he;rw[Yj (Ye he)];exact⟨τ',f,j,k,m,q⟩
   ·rename_i he;rw[Ym (by rintro rfl;simp at he)];exact⟨τ',f,j,k,m,q⟩
  |_=>exact⟨τ',f,j,k,m,q⟩
 |.cond c x y,a,τ,σ,K,h,d=>by
  have he:∀{b},ev τ.s c=.d (.bool b)→ev σ.s c=.d (.bool b):=fun {b} u=>by rw[Lw (c:=[]) d A4 (by cases c<;>rfl),u];simp[ren]
  unfold Cw at h
  split at h
  ·rename_i b a1 L u
   exact PH (he u) (fun e=>GA o s hm x a1 τ σ K (h.1 e) d) (fun e=>GA o s hm y L τ σ K (h.2 e) d)
  ·rename_i b f u
   refine PH (he u) (fun e=>?_) (fun e=>?_)
   ·subst e;exact GA o s hm x f τ σ K h d
   ·subst e;exact GA o s hm y f τ σ K h d
  ·rename_i b v f u
   cases v with
   |true=>exact PH (he u) (fun e=>GA o s hm x f τ σ K (h.1 e) d) (fun e=>(h.2 e).elim)
   |false=>exact PH (he u) (fun e=>(h.1 e).elim) (fun e=>GA o s hm y f τ σ K (h.2 e) d)
  ·exact h.elim
 |.region id ops J,a,τ,σ,K,h,d=>by
  obtain⟨t,rfl⟩:∃l:List Oper,ops=l.toArray:=⟨ops.toList,by simp⟩
  have fin:∀τ' g f p,K .normal (Dz g τ') f→RG (C.r γ) C.l C.outs g τ' p→bH n C γ K .normal p:=fun τ' g f p k m=>by
   obtain⟨j,q,M⟩:=Pw (n:=n) m
   exact⟨_,f,j,k,q,M⟩
  unfold Cw at h
  split at h
  ·obtain⟨H,D,G,h,d,E⟩:=Cd (n:=n) o a h d
   refine BI.weak ?_ E
   intro A w N
   have:=MV (o.ren γ) s (ops:=t.toArray) (B:=C.B) (K:=fun τ' env f=>K .normal (Dz env τ') f) (QQ:=fun e f w'=>∃p,bH n C γ K e p∧R C.l n C.B p f w') [] (fun τ' g f p I w' k m q=>by
    unfold wpList
    exact⟨p,fin _ _ _ _ k m,q⟩) t [] D H G A w (by simpa using h) d N
   rw[FG]at this
   exact wp_region_lit this
  ·split at h
   case h_2=>exact h.elim
   rename_i z
   simp only[Yd]at z
   obtain⟨H,D,G,h,d,E⟩:=Cd (n:=n) o a h d
   refine BI.weak ?_ E
   refine ZpP hm (Zi6 (by simpa using z.1.1)) (by simpa using z.1.2) (by simpa using z.2) (Ud t (fun p O=>?_) (M4 (o.ren γ) (l:=C.l) (r:=C.r γ) (outs:=C.outs) (K:=fun τ' env f=>K .normal (Dz env τ') f) s t [] D H G (by simpa using z.1.2) (by simpa using h) d))
   obtain⟨τ',g,f,k,m⟩:=O
   exact fin _ _ _ _ k m
 |.loop _,a,τ,σ,K,h,d=>h.elim
 |.rangeFunc _ _ _ _,a,τ,σ,K,h,d=>h.elim
 |.scope _,a,τ,σ,K,h,d=>h.elim
 |.label _,a,τ,σ,K,h,d=>h.elim
 |.goto _,a,τ,σ,K,h,d=>h.elim
 |.refuse _,a,τ,σ,K,h,d=>h.elim
theorem qa(k:CxOk C)(m:A8 P T)(hm:P.follows .mixedOrders=true){c:Code}{a:AT}(K:(Ad→Nat)→Exit→St→AT→Prop)(h:∀γ,Cw P T C.l n C.outs (C.r γ) c a τ (K γ))
  (p:∀γ e τ' b d,C.G γ→K γ e τ' b→RG (C.r γ) C.l C.outs [] τ' d→Is n C (Q e) d):LW P n C c τ Q:=by
 intro γ σ o l
 refine HZ (GA k m hm c a τ σ (K γ) (h γ) l) fun e d hi=>?_
 obtain⟨τ',b,f,g,i,j⟩:=hi
 obtain⟨u,w,v,q,r,s,t⟩:=p γ e τ' b f o g i
 exact⟨u,w,v,q,r,s,j.trans t⟩
theorem ZNe(i:CxOk C)(k:A8 P T)(hm:P.follows .mixedOrders=true){c:Code}(a:AT){f:List ResultVar}{b:AV→List Blk→Prop}(h:∀γ,Cw P T C.l n C.outs (C.r γ) c a τ (KF T f C.outs b)):LW P n C c τ (FQ T f C.outs b):=
 qa i k hm (fun _=>KF T f C.outs b) h fun γ e τ' g m l d j=>.of l j (by
  cases e<;>simp only[KF]at d
  ·exact⟨.inl rfl,g,d⟩
  ·exact⟨.inr rfl,g,d⟩)
theorem ZKA(d:CxOk C)(z:A8 P T)(hm:P.follows .mixedOrders=true){c:Code}(a:AT)(lf w:Lf){s:List ResultVar}{b:AV→List Blk→Prop}(y:∀τ,FQ T s C.outs b .ret τ→Q .ret τ)(h:∀γ,Cw P T C.l n C.outs (C.r γ) c a τ (KB T s C.outs C.fx (C.r γ) b lf w Q)):LW P n C c τ Q:=
 qa d z hm (fun γ=>KB T s C.outs C.fx (C.r γ) b lf w Q) h fun γ e τ' g D j f i=>by
  cases e<;>simp only[KB]at f
  ·obtain⟨B,x,A,p,q,r⟩:=Cd (n:=n) d g f i
   obtain⟨t,v,u,k,l,m,o⟩:=H2 (n:=n) d p j q
   exact⟨t,v,u,k,l,m,r.trans o⟩
  ·obtain⟨B,x,A,p,q,r⟩:=Cd (n:=n) d g f i
   obtain⟨t,v,u,k,l,m,o⟩:=H2 (n:=n) d p j q
   exact⟨t,v,u,k,l,m,r.trans o⟩
  ·exact .of j i (y _ ⟨.inr rfl,g,f⟩)
theorem Zsz{sz:Nat}:∀{es:List (List D)} {i j:Nat} {e:List D} {d:D},(∀e∈es,e.length=sz)→es[i]?=some e→e[j]?=some d→es.flatten[i*sz+j]?=some d
 |[],i,j,e,d,h,hi,a=>by simp at hi
 |f::es,0,j,e,d,h,hi,a=>by
  grind
 |f::es,i+1,j,e,d,h,hi,a=>by
  have b:=h f (YB ..)
  rw[Kx,YC (by rw[b,YZ];omega),b,show(i+1)*sz+j-sz=i*sz+j from by rw[YZ];omega]
  exact Zsz (fun e he=>h e (Yy _ he)) (by simpa using hi) a
mutual
theorem Zul(u:CxOk C){γ:Ad→Nat}{H G:Hp}(B:DB (C.r γ) H G)(f:∀k,(H k).live=true→k.1=1∨(k.1=0∧k.2<C.outs)):∀(x:AV) {a:AT} {K:AV→AT→Prop},frz H x a K→∃y p,Fz G C.l (ren (C.r γ) x) (ren (C.r γ) y)∧(C.outs=0→∀r,ren r y=y)∧K y p
 |.d x,a,K,h=>⟨.d x,a,by simp only[ren];exact .keep _ rfl,fun _ r=>by simp[ren],h⟩
 |.e0,a,K,h=>⟨.d (.list []),a,by simp only[ren];exact .e0,fun _ r=>by simp[ren],h⟩
 |.agg xs,a,K,h=>by
  obtain⟨ys,p,o,N,A⟩:=fk u B f xs h
  exact⟨.agg ys,p,by simp only[ren];exact .agg _ _ o.1 o.2,fun e r=>by simp only[ren];rw[N e r],A⟩
 |.ref k g off m,a,K,h=>by
  unfold frz at h
  split at h
  ·rename_i c hl
   have c:=Ye c
   have n:k.2<C.outs:=by
    rcases f k (EC hl).2 with o|o
    ·omega
    grind
   obtain⟨F,b⟩:=k
   simp only at c n
   subst c
   exact⟨.ref (0,b) g off m,a,by simp only[ren];exact .keep _ (Yo (u.out b n)),fun e=>by omega,h⟩
  ·rename_i _ f hl
   split at h
   case h_2=>exact h.elim
   rename_i s p
   obtain⟨⟨o,A,L,O,P⟩,Q⟩:=h
   have f:=Ye f
   obtain⟨w,z,I,v,J⟩:=B.at hl
   obtain⟨F,b⟩:=k
   simp only at f
   subst f
   refine⟨.d (.list s),p,?_,fun _ r=>by simp[ren],Q⟩
   simp only[ren]
   rw[w]
   have E:(C.r γ).κ (1,b)=(C.l+1,b):=u.own b
   refine .ref _ off m s (by rw[E]) z o (by rw[v];exact A) (by rw[v];exact L) (by rw[v,J,CE];exact O) (fun i j e d x hi R hx=>?_)
   have D:i<m:=by
    grind
   have S:j<(H (1,b)).sz:=by
    grind
   have T:=Zsz L hi R
   have n:i*(H (1,b)).sz+j<m*(H (1,b)).sz:=by
    have:(i+1)*(H (1,b)).sz≤m*(H (1,b)).sz:=D9 _ D
    grind
   have M:(H (1,b)).cells[(off+i)*(H (1,b)).sz+j]?=some (.d d):=by
    have:=congrArg (fun l=>l[i*(H (1,b)).sz+j]?) P
    grind
   rw[v,J,H5,M]at hx
   simp only[YV,ren,Yk]at hx
   subst hx
   exact .keep _ rfl
  grind
 |.top,a,K,h=>by simp only[frz]at h
 |.p _,a,K,h=>by simp only[frz]at h
 |.ptr _ _ _,a,K,h=>by simp only[frz]at h
 |.mp k g,a,K,h=>by
  unfold frz at h
  split at h
  ·rename_i c hl
   have c:=Ye c
   have n:k.2<C.outs:=by
    rcases f k (EC hl).2 with o|o
    ·omega
    grind
   obtain⟨F,b⟩:=k
   simp only at c n
   subst c
   exact⟨.mp (0,b) g,a,by simp only[ren];exact .keep _ (Yo (u.out b n)),fun e=>by omega,h⟩
  ·rename_i q s _ f hl he
   have f:=Ye f
   obtain⟨w,z,I,_,_⟩:=B.at hl
   obtain⟨F,b⟩:=k
   simp only at f
   subst f
   refine⟨.d (.map q s),a,?_,fun _ r=>by simp[ren],h⟩
   simp only[ren]
   rw[w]
   have E:(C.r γ).κ (1,b)=(C.l+1,b):=u.own b
   exact .mp _ q s (by rw[E]) z (by rw[I,he])
  grind
 |.iptr _ _,a,K,h=>by simp only[frz]at h
 |.ifc t ds q,a,K,h=>⟨.ifc t ds q,a,by simp only[ren];exact .keep _ rfl,fun _ r=>by simp[ren],h⟩
 |.fn _ _ _,a,K,h=>by simp only[frz]at h
 |.tup _,a,K,h=>by simp only[frz]at h
theorem fk(g:CxOk C){γ:Ad→Nat}{H c:Hp}(j:DB (C.r γ) H c)(l:∀k,(H k).live=true→k.1=1∨(k.1=0∧k.2<C.outs)):∀(xs:List AV) {a:AT} {K:List AV→AT→Prop},Jv H xs a K→
  ∃ys d,((Ao (C.r γ) xs).length=(Ao (C.r γ) ys).length∧∀(i:Nat) (x y:AV),(Ao (C.r γ) xs)[i]?=some x→(Ao (C.r γ) ys)[i]?=some y→Fz c C.l x y)∧(C.outs=0→∀r,Ao r ys=ys)∧K ys d
 |[],a,K,h=>⟨[],a,⟨by simp[Ao],fun i x y hx=>by simp[Ao]at hx⟩,fun _ r=>by simp[Ao],h⟩
 |x::xs,a,K,h=>by
  simp only[Jv]at h
  obtain⟨y,d,o,m,p⟩:=Zul g j l x h
  obtain⟨ys,b,f,n,q⟩:=fk g j l xs p
  refine⟨y::ys,b,⟨by simp[Ao,f.1],fun i x' s hx hy=>?_⟩,fun e r=>by simp only[Ao];rw[m e r,n e r],q⟩
  cases i with
  |zero=>simp only[Ao,Gu,Yk]at hx hy;subst hx;subst hy;exact o
  |succ i=>simp only[Ao,L2]at hx hy;exact f.2 i x' s hx hy
end
theorem Zuf(o:A8 P T){γ:Ad→Nat}(n:RG (C.r γ) C.l C.outs [] τ σ){v:ResultVar}{K:AV→Prop}(h:jN T τ v K):∃x,K x∧∀m (f:List AV→Prop),EM P σ m (fun xs=>f (ren (C.r γ) x::xs))→EM P σ (v::m) f:=by
 cases v with
 |tmp t=>exact⟨_,h,fun m f j=>by unfold EM;rw[(n.s t).1 A4];exact j⟩
 |cell p t=>
  simp only[jN]at h
  split at h
  case h_2=>exact h.elim
  rename_i k g off i w hi
  have l:σ.s p=ren (C.r γ) (.ptr k g off):=by rw[(n.s p).1 A4,w]
  split at h
  ·rename_i hl d
   split at h
   case h_2=>exact h.elim
   rename_i c r s
   refine⟨_,h,fun m f j=>?_⟩
   have:=ft (a:=.go .nil) (g:=none) (K:=fun v _=>v=.agg c) (o _ _ hi) n.h (fun b e=>by cases e) (x:=.ptr k g off) (by simp only[Nn,hl,d,r,s])
   unfold EM
   rw[l]
   refine fJ (fun y hy=>?_) this
   obtain⟨v,q,rfl,rfl⟩:=hy
   exact j
  ·rename_i hl d
   split at h
   case h_2=>exact h.elim
   rename_i c u
   refine⟨_,h,fun m f j=>?_⟩
   have:=ft (a:=.go .nil) (g:=none) (K:=fun v _=>v=c) (o _ _ hi) n.h (fun b e=>by cases e) (x:=.ptr k g off) (by simp only[Nn,hl,d,u])
   unfold EM
   rw[l]
   refine fJ (fun y hy=>?_) this
   obtain⟨v,q,rfl,rfl⟩:=hy
   exact j
  grind
theorem Zi7(e:A8 P T){γ:Ad→Nat}(d:RG (C.r γ) C.l C.outs [] τ σ):∀(b:List ResultVar) {K:List AV→Prop},bW T τ b K→∃xs,K xs∧∀a:List AV→Prop,a (Ao (C.r γ) xs)→EM P σ b a
 |[],K,h=>⟨[],h,fun a c=>by unfold EM;simpa[Ao]using c⟩
 |v::b,K,h=>by
  obtain⟨x,f,g⟩:=Zuf e d h
  obtain⟨xs,i,j⟩:=Zi7 e d b f
  exact⟨x::xs,i,fun a c=>g b a (j _ (by simpa[Ao]using c))⟩
structure OutsOk (C:Cx) (γ:Ad→Nat) (bs:List Blk) (H':Hp):Prop where
 len:bs.length=C.outs
 g:∀i b,bs[i]?=some b→(H' (C.κ (0,i))).g=γ (0,i)+b.g
 live:∀i b,bs[i]?=some b→b.live=true→H' (C.κ (0,i))=AL (C.r γ) (0,i) b
 o:∀k:Ad,¬C.no k→H' k=C.H0 k
theorem fZ{H:Hp}:∀(n i j:Nat),(J0 H n i)[j]?=if j<n then some (H (0,i+j))else none
 |0,i,j=>by simp[J0]
 |n+1,i,0=>by simp[J0]
 |n+1,i,j+1=>by
  simp only[J0,L2,fZ n (i+1) j]
  grind
theorem Zlm{H:Hp}:∀(n i:Nat),(J0 H n i).length=n
 |0,i=>rfl
 |n+1,i=>by simp[J0,Zlm n]
theorem ZGT(l:CxOk C)(F:A8 P T){o:List ResultVar}{LPost:AV→List Blk→Prop}{d:AV→Hp→Prop}{e:Exit}(J:∀γ y s q,C.G γ→LPost y s→OutsOk C γ s q→(C.outs=0→∀r,ren r y=y)→d (ren (C.r γ) y) q)
  (h:Is n C (FQ T o C.outs LPost e) σ):∃f,fins P C.l C.H0 o d e f∧Wk n C σ f:=by
 obtain⟨γ,τ,f,H,⟨z,a,A⟩,j,K⟩:=h
 refine⟨f,⟨z,?_⟩,K⟩
 obtain⟨xs,B,D⟩:=Zi7 (P:=P) F j o A
 obtain⟨ys,L,g,w,E⟩:=fk l j.h j.k xs B
 refine D _ ⟨ren (C.r γ) (DJ ys),?_,?_⟩
 ·have hl:=g.1
  have g:=g.2
  have v:ren (C.r γ) (DJ ys)=DJ (Ao (C.r γ) ys):=by
   match ys with
   |[]=>simp[DJ,ren,Ao]
   |[y]=>simp[DJ,Ao]
   |y::t::ys=>simp[DJ,ren,Ao]
  rw[v]
  generalize Ao (C.r γ) ys=p at hl g
  generalize Ao (C.r γ) xs=u at hl g
  match u,p,hl with
  |[],[],_=>exact .tup _ _ rfl fun i x y hx=>by simp at hx
  |[x],[y],_=>exact g 0 x y rfl rfl
  |x::x'::u,y::t::ys,hl=>exact .tup _ _ hl g
 ·refine J γ _ _ _ H E ⟨Zlm _ _,fun i b hi=>?_,fun i b hi G=>?_,fun k I=>?_⟩ (fun e r=>?_)
  ·rw[fZ]at hi
   split at hi
   ·rename_i c
    simp only[YP,Yk]at hi
    subst hi
    rw[show I0 C.l f.H C.H0 (C.κ (0,i))=f.H (C.κ (0,i))from Yj (l.out i c)]
    exact j.go i c
   grind
  ·rw[fZ]at hi
   split at hi
   ·rename_i c
    simp only[YP,Yk]at hi
    subst hi
    rw[show I0 C.l f.H C.H0 (C.κ (0,i))=f.H (C.κ (0,i))from Yj (l.out i c)]
    exact j.h _ G
   grind
  ·unfold I0
   split
   ·rename_i m;exact j.o k m I
   ·rfl
  ·have:=w e r
   match ys with
   |[]=>simp[DJ,ren,Ao]
   |[y]=>simp only[Ao,List.cons.injEq,OA]at this;simpa[DJ]using this
   |y::t::ys=>simp only[DJ,ren,this]
def DA:Nat→List AV→List (Nat×AV)
 |_,[]=>[]
 |i,x::xs=>(i,x)::DA (i+1) xs
theorem ZuE{r:Ren}:∀(ys:List AV) (i j:Nat),ren r (AA (DA i ys) (i+j))=args (Ao r ys) j
 |[],i,j=>by simp[DA,AA,ren,Ao,args]
 |y::ys,i,0=>by simp[DA,AA,Ao,args]
 |y::ys,i,j+1=>by
  have a:=ZuE (r:=r) ys (i+1) j
  simp only[DA,AA]
  split
  ·rename_i h;have:=Ye h;omega
  ·rw[show i+(j+1)=i+1+j from by omega,a]
   simp[args,Ao]
theorem Zoq{f:FuncId}{fn:Func}(z:List ResultVar){c:Code}{l:Nat}{xs:List AV}{H:Hp}{a:AV→Hp→Prop}{LPost:AV→List Blk→Prop}(C:Base→Cx){γ:Ad→Nat}{ys:List AV}{hs:List (Ad×Blk)}
  (O:P.funcs[f]?=some fn) (N:fn.body=some c) (g:(fn.name== "runtime.NumGoroutine")=false) (v:fn.ntmps=n) (W:fn.results.toList=z) (hx:xs.length≤n) (M:A8 P T)
  (u:∀B,CxOk (C B)) (I:∀B,(C B).l=l∧(C B).B=B∧(C B).H0=H∧(C B).G γ) (x:∀B,Ao ((C B).r γ) ys=xs) (X:∀d,γ (1,d)=0) (S:∀d,AC hs (1,d)=Ft)
  (b:∀B k,(AC hs k).live=true→k.1=0∧k.2<(C B).outs∧H ((C B).κ k)=AL ((C B).r γ) k (AC hs k)) (R:∀B i,i<(C B).outs→(H ((C B).κ (0,i))).g=γ (0,i)+(AC hs (0,i)).g)
  (U:∀B γ y E D,(C B).G γ→LPost y E→OutsOk (C B) γ E D→((C B).outs=0→∀r,ren r y=y)→a (ren ((C B).r γ) y) D)
  (h:∀B:Base,LW P n (C B) c (Ac (DA 0 ys) hs) (FQ T z (C B).outs LPost)):Zc9 P f l xs H a:=by
 refine Zxh z O N g v W hx fun B=>?_
 obtain⟨hl,t,s,Q⟩:=I B
 have J:RG ((C B).r γ) (C B).l (C B).outs [] (Ac (DA 0 ys) hs) ⟨args xs,Df l H⟩:=by
  refine⟨fun j=>⟨fun _=>?_,fun v=>absurd A4 v⟩,fun k m=>?_,fun d=>?_,fun i hi=>?_,fun k m=>.inr ⟨(b B k m).1,(b B k m).2.1⟩,fun k m _=>?_⟩
  ·have:=ZuE (r:=(C B).r γ) ys 0 j
   rw[YP,x]at this
   exact this.symm
  ·obtain⟨p,q,F⟩:=b B k m
   show Df l H ((C B).κ k)=_
   obtain⟨Z,k2⟩:=k
   simp only at p q
   subst p
   rw[iW (by rw[←hl];exact(u B).out _ q)]
   exact F
  ·show(Df l H ((C B).l+1,d)).g=γ (1,d)+(AC hs (1,d)).g
   rw[hl,ZI2,X,S]
   rfl
  ·show(Df l H ((C B).κ (0,i))).g=γ (0,i)+(AC hs (0,i)).g
   rw[iW (by rw[←hl];exact(u B).out _ hi)]
   grind
  ·show Df l H k=(C B).H0 k
   rw[s]
   exact iW (by rw[←hl];exact m)
 have:=h B γ _ Q J
 intro o w K
 rw[hl,t]at this
 refine wp_mono (this o w K) fun e G w' ⟨σ',V,L⟩=>?_
 obtain⟨A,p,q⟩:=ZGT (P:=P) (u B) M (U B) V
 rw[hl,s]at p
 have F:=q o w
 refine⟨A,p,?_⟩
 have Y:=q G w'
 grind
end
end Go.Eng
namespace Go.Eng
set_option linter.all false
open Go Go.RowKit
def As:List (Nat×TI)→Nat→Option TI
 |[],_=>none
 |(i,x)::r,j=>match Nat.beq i j with|true=>some x|false=>As r j
theorem mX{P:Program}:∀(tl:List (Nat×TI)),(∀p∈tl,TIok P p.1 p.2)→A8 P (As tl)
 |[],_,t,i,h=>by simp[As]at h
 |(j,x)::r,b,t,i,h=>by
  simp only[As]at h
  split at h
  ·rename_i he
   have he:=Ye he
   cases h
   subst he
   exact b _ (YB ..)
  ·exact mX r (fun p a=>b p (Yy _ a)) t i h
theorem TIok.of{P:Program}{t:TypeId}{i:TI}(f:DK P t=some i.agg)(k:Go.Eng.kin P t=i.kin)(m:P.cellsOf t=i.siz)(n:i.elm=none∨Go.Eng.elm P t=i.elm)
  (o:((List.range i.fld.length).map fun j=>(Go.Eng.fld P t j,L7 P t j))=i.fld.map fun x=>(some (x.1,x.2.1),some x)) (p:i.zer=none∨Go.Eng.zer P t=i.zer) (q:i.eqt=none∨NR P t=i.eqt) (r:i.str=false∨Ms P t=true)
  (s:i.ik=none∨P.underlying t=i.ik.map .int) (g:i.byt=none∨(∃b,P.bytesOf t≤b∧P.bytesOf t≠0∧i.byt=some b)) (c:i.zer=none∨(i.zer.getD []).all AV.flat=true) (d:i.mp=none∨Mb P t=i.mp:=by first|exact .inl rfl|exact .inr (by kernel_rfl)):TIok P t i where
 agg:=f
 kin:=k
 siz:=m
 elm:=fun e h=>by rcases n with a|a<;>rw[h]at a<;>first|exact a|cases a
 fld:=fun j x h=>by
  have:=congrArg (fun l=>l[j]?) o
  grind
 zer:=fun e h=>by rcases p with a|a<;>rw[h]at a<;>first|exact a|cases a
 eqt:=fun e h=>by rcases q with a|a<;>rw[h]at a<;>first|exact a|cases a
 str:=fun h=>by rcases r with a|a<;>first|exact a|(rw[h]at a;cases a)
 ik:=fun e h=>by rcases s with a|a<;>rw[h]at a<;>first|exact a|cases a
 byt:=fun e h=>by
  grind
 mp:=fun z h=>by rcases d with a|a<;>rw[h]at a<;>first|exact a|cases a
 flt:=fun z h=>by rcases c with a|a<;>rw[h]at a<;>first|exact a|cases a
def Xa(l:Nat)(θ:Nat→AV)(H:Hp)(B:Base):Cx:=⟨l,B,fun k=>(l+1,k.2),θ,H,0,fun _=>False,[],fun _=>True⟩
theorem Zlp(l:Nat)(B:Base)(θ:Nat→AV)(H:Hp):CxOk (Xa l θ H B):=⟨fun _=>rfl,fun i h=>absurd h (Y2 _),fun i j h=>absurd h (Y2 _),fun _ h=>h.elim,fun _ _ _ h=>h⟩
theorem ZyI{l:Nat}{θ:Nat→AV}{H:Hp}{B:Base}{γ:Ad→Nat}{b:List Blk}{a:Hp}(h:OutsOk (Xa l θ H B) γ b a):a=H:=funext fun k=>h.o k id
end Go.Eng
namespace Go.Eng
structure Raw where
 num:Int
 wire:Int
 bits:Int
 data:ByteArray
deriving Inhabited,DecidableEq
mutual
inductive Val where
 |mk (kind bits:Int) (text:ByteArray) (list:List Val) (pairs:List Pr) (slots:List Slt) (raws:List Raw)
inductive Pr where
 |mk (key val:Val)
inductive Slt where
 |mk (num:Int) (val:Val)
end
inductive Msk where
 |mk (num:Int) (subs:List Msk)
instance:Inhabited Val:=⟨.mk 0 0 .empty [] [] [] []⟩
instance:Inhabited Pr:=⟨.mk default default⟩
instance:Inhabited Slt:=⟨.mk 0 default⟩
instance:Inhabited Msk:=⟨.mk 0 []⟩
def Val.kind:Val→Int|.mk k _ _ _ _ _ _=>k
def Val.bits:Val→Int|.mk _ b _ _ _ _ _=>b
def Val.text:Val→ByteArray|.mk _ _ t _ _ _ _=>t
def Val.list:Val→List Val|.mk _ _ _ l _ _ _=>l
def Val.pairs:Val→List Pr|.mk _ _ _ _ p _ _=>p
def Val.slots:Val→List Slt|.mk _ _ _ _ _ s _=>s
def Val.raws:Val→List Raw|.mk _ _ _ _ _ _ r=>r
def Pr.key:Pr→Val|.mk k _=>k
def Pr.val:Pr→Val|.mk _ v=>v
def Slt.num:Slt→Int|.mk n _=>n
def Slt.val:Slt→Val|.mk _ v=>v
def Msk.num:Msk→Int|.mk n _=>n
def Msk.subs:Msk→List Msk|.mk _ s=>s
def Bp(s:ByteArray):List D:=[.str s]
def ZYi(s:Int):List D:=[.int .i64 s]
def AO(s:Bool):List D:=[.bool s]
def Au(x:Raw):List D:=[.int .i64 x.num,.int .i64 x.wire,.int .u64 x.bits,.str x.data]
mutual
def AW:Val→List D
 |.mk k b t l p s r=>[.int .i64 k,.int .u64 b,.str t,.list (Ny l),.list (MA p),.list (NL s),.list (r.map Au)]
def Ny:List Val→List (List D)
 |[]=>[]
 |v::vs=>AW v::Ny vs
def Aq:Pr→List D
 |.mk k v=>AW k++AW v
def MA:List Pr→List (List D)
 |[]=>[]
 |v::vs=>Aq v::MA vs
def Ap:Slt→List D
 |.mk n v=>.int .i64 n::AW v
def NL:List Slt→List (List D)
 |[]=>[]
 |v::vs=>Ap v::NL vs
end
mutual
def AJ:Msk→List D
 |.mk n s=>[.int .i64 n,.list (WZ s)]
def WZ:List Msk→List (List D)
 |[]=>[]
 |v::vs=>AJ v::WZ vs
end
theorem Zq3(l:List Val):Ny l=l.map AW:=by induction l with|nil=>rfl|cons v l a=>simp[Ny,a]
theorem Zye(l:List Pr):MA l=l.map Aq:=by induction l with|nil=>rfl|cons v l a=>simp[MA,a]
theorem Zsw(l:List Slt):NL l=l.map Ap:=by induction l with|nil=>rfl|cons v l a=>simp[NL,a]
theorem Ztd(l:List Msk):WZ l=l.map AJ:=by induction l with|nil=>rfl|cons v l a=>simp[WZ,a]
def Ae(x:Val):List D:=[.int .i64 x.kind,.int .u64 x.bits,.str x.text,.list (x.list.map AW),.list (x.pairs.map Aq),.list (x.slots.map Ap),.list (x.raws.map Au)]
def NP(x:Pr):List D:=[.int .i64 x.key.kind,.int .u64 x.key.bits,.str x.key.text,.list (x.key.list.map AW),.list (x.key.pairs.map Aq),.list (x.key.slots.map Ap),.list (x.key.raws.map Au),.int .i64 x.val.kind,.int .u64 x.val.bits,.str x.val.text,.list (x.val.list.map AW),.list (x.val.pairs.map Aq),.list (x.val.slots.map Ap),.list (x.val.raws.map Au)]
def Dk(x:Slt):List D:=[.int .i64 x.num,.int .i64 x.val.kind,.int .u64 x.val.bits,.str x.val.text,.list (x.val.list.map AW),.list (x.val.pairs.map Aq),.list (x.val.slots.map Ap),.list (x.val.raws.map Au)]
def HA(x:Msk):List D:=[.int .i64 x.num,.list (x.subs.map AJ)]
theorem GG(v:Val):AW v=Ae v:=by
 cases v;simp[AW,Ae,Zq3,Zye,Zsw,Val.kind,Val.bits,Val.text,Val.list,Val.pairs,Val.slots,Val.raws]
theorem Lu(v:Pr):Aq v=NP v:=by cases v;simp[Aq,GG,Ae,NP,Pr.key,Pr.val]
theorem Ll(v:Slt):Ap v=Dk v:=by cases v;simp[Ap,GG,Ae,Dk,Slt.num,Slt.val]
theorem JP(v:Msk):AJ v=HA v:=by cases v;simp[AJ,HA,Ztd,Msk.num,Msk.subs]
structure Typ where
 kind:Int
 name:ByteArray
deriving Inhabited,DecidableEq
def HB(x:Typ):List D:=[.int .i64 x.kind,.str x.name]
structure Nt where
 name:ByteArray
 val:Val
deriving Inhabited
def B7(x:Nt):List D:=[.str x.name,.int .i64 x.val.kind,.int .u64 x.val.bits,.str x.val.text,.list (x.val.list.map AW),.list (x.val.pairs.map Aq),.list (x.val.slots.map Ap),.list (x.val.raws.map Au)]
structure Fld where
 num:Int
 name:ByteArray
 card:Int
 key:Int
 type:Typ
 union:ByteArray
 hasDefault:Bool
 dflt:Val
 notes:List Nt
deriving Inhabited
def Av(x:Fld):List D:=[.int .i64 x.num,.str x.name,.int .i64 x.card,.int .i64 x.key,.int .i64 x.type.kind,.str x.type.name,.str x.union,.bool x.hasDefault,.int .i64 x.dflt.kind,.int .u64 x.dflt.bits,.str x.dflt.text,.list (x.dflt.list.map AW),.list (x.dflt.pairs.map Aq),.list (x.dflt.slots.map Ap),.list (x.dflt.raws.map Au),.list (x.notes.map B7)]
structure Spn where
 lo:Int
 hi:Int
deriving Inhabited,DecidableEq
def CA(x:Spn):List D:=[.int .i64 x.lo,.int .i64 x.hi]
structure By where
 b:UInt8
deriving Inhabited,DecidableEq
def By.v(x:By):Int:=x.b.toNat
def eBy(x:By):List D:=[.int .u8 x.v]
structure Msg where
 name:ByteArray
 fields:List Fld
 reserved:List Spn
 gone:List ByteArray
 notes:List Nt
deriving Inhabited
def AH(x:Msg):List D:=[.str x.name,.list (x.fields.map Av),.list (x.reserved.map CA),.list (x.gone.map Bp),.list (x.notes.map B7)]
structure Itm where
 name:ByteArray
 num:Int
 notes:List Nt
deriving Inhabited
def F8(x:Itm):List D:=[.str x.name,.int .i64 x.num,.list (x.notes.map B7)]
structure Enm where
 name:ByteArray
 opn:Bool
 items:List Itm
 reserved:List Spn
 notes:List Nt
deriving Inhabited
def Ct(x:Enm):List D:=[.str x.name,.bool x.opn,.list (x.items.map F8),.list (x.reserved.map CA),.list (x.notes.map B7)]
structure Mth where
 name:ByteArray
 inn:ByteArray
 out:ByteArray
 shape:Int
 notes:List Nt
deriving Inhabited
def Hz(x:Mth):List D:=[.str x.name,.str x.inn,.str x.out,.int .i64 x.shape,.list (x.notes.map B7)]
structure Svc where
 name:ByteArray
 methods:List Mth
 notes:List Nt
deriving Inhabited
def Da(x:Svc):List D:=[.str x.name,.list (x.methods.map Hz),.list (x.notes.map B7)]
structure Scm where
 messages:List Msg
 enums:List Enm
 services:List Svc
deriving Inhabited
def Am(x:Scm):List D:=[.list (x.messages.map AH),.list (x.enums.map Ct),.list (x.services.map Da)]
structure Fil where
 name:ByteArray
 space:ByteArray
 imports:List ByteArray
 messages:List Msg
 enums:List Enm
 services:List Svc
deriving Inhabited
def ZZI(x:Fil):List D:=[.str x.name,.str x.space,.list (x.imports.map Bp),.list (x.messages.map AH),.list (x.enums.map Ct),.list (x.services.map Da)]
structure Prb where
 dfn:ByteArray
 num:Int
 err:Int
deriving Inhabited,DecidableEq
def Ak(x:Prb):List D:=[.str x.dfn,.int .i64 x.num,.int .i64 x.err]
structure Stp where
 num:Int
 pos:Int
 hasKey:Bool
 key:Val
deriving Inhabited
structure Edt where
 path:List Stp
 kind:Int
 val:Val
deriving Inhabited
class Mv (V:Type) where
 q:Bool
 e:V→List D
 z:V
def DN{V:Type}[Mv V](p:ByteArray×V):List D:=.str p.1::Mv.e p.2
instance:Mv (List Int):=⟨false,fun x=>[.list (x.map ZYi)],[]⟩
instance (V:Type) [Mv V]:Mv (List (ByteArray×V)):=⟨false,fun m=>[.map (Mv.q V) (m.map DN)],[]⟩
structure Web where
 messages:List (ByteArray×Msg)
 enums:List (ByteArray×Bool)
deriving Inhabited
structure Lst where
 dfn:ByteArray
 l:List Prb
deriving Inhabited
structure Acs where
 m:Msg
 s:Scm
deriving Inhabited
structure Lnk where
 files:List Fil
 f:Fil
 known:List ByteArray
 messages:List ByteArray
 enums:List Enm
deriving Inhabited
def Fo(x:List Raw):List D:=[.list (x.map Au)]
def Fl(x:List Val):List D:=[.list (x.map AW)]
def Fp(x:List Pr):List D:=[.list (x.map Aq)]
def ZYv:Raw:=⟨0,0,0,⟨#[]⟩⟩
def Mg:Val:=.mk 0 0 ⟨#[]⟩ [] [] [] []
def zPr:Pr:=.mk Mg Mg
def ZZw:Slt:=.mk 0 Mg
def ZYk:Msk:=.mk 0 []
def ZZA:Typ:=⟨0,⟨#[]⟩⟩
def zNt:Nt:=⟨⟨#[]⟩,Mg⟩
def ZYj:Fld:=⟨0,⟨#[]⟩,0,0,ZZA,⟨#[]⟩,false,Mg,[]⟩
def ZYm:Spn:=⟨0,0⟩
def zBy:By:=⟨0⟩
def ZZa:Msg:=⟨⟨#[]⟩,[],[],[],[]⟩
def ZZj:Itm:=⟨⟨#[]⟩,0,[]⟩
def ZYI:Enm:=⟨⟨#[]⟩,false,[],[],[]⟩
def ZZd:Mth:=⟨⟨#[]⟩,⟨#[]⟩,⟨#[]⟩,0,[]⟩
def ZY7:Svc:=⟨⟨#[]⟩,[],[]⟩
def ZZJ:Fil:=⟨⟨#[]⟩,⟨#[]⟩,[],[],[],[]⟩
def ZZo:Prb:=⟨⟨#[]⟩,0,0⟩
end Go.Eng
namespace Go.Eng
set_option linter.all false
open Go Go.RowKit
def IV:List Nat→Code→Code
 |[],c=>c
 |0::p,.seq a _=>IV p a
 |_::p,.seq _ b=>IV p b
 |0::p,.cond _ a _=>IV p a
 |_::p,.cond _ _ b=>IV p b
 |_::p,.block _ c=>IV p c
 |_::p,.loop c=>IV p c
 |_::p,.scope c=>IV p c
 |_,c=>c
def At(f:Func):Code:=f.body.getD .skip
def Ab{α:Type}(e:α→List D)(xs:List α):List AV:=((xs.map e).flatten).map .d
theorem Fc{α:Type}(e:α→List D)(xs:List α):Ig (Ab e xs):=fun x hx=>by
 obtain⟨d,_,rfl⟩:=YX.1 hx;rfl
theorem FV{α:Type}{e:α→List D}{sz:Nat}(he:∀x,(e x).length=sz)(xs:List α):(Ab e xs).length=xs.length*sz:=by
 unfold Ab
 induction xs with
 |nil=>simp
 |cons x xs a=>simp only[YG,YT,Kx,Yr,he,E1,YZ]at a⊢;omega
theorem Uj{α:Type}(e:α→List D)(xs ys:List α):Ab e (xs++ys)=Ab e xs++Ab e ys:=by simp[Ab]
section
variable {P:Program} {n:Nat} {C:Cx} {τ:St} {Q:Exit→St→Prop}
theorem Zt4{c:Code}(id:Nat)(x:Code)(b:c=.block id x)(h:LW P n C x τ (fun e τ'=>match e with|.exit i=>(match Nat.beq i id with|true=>Q .normal τ'|false=>Q (.exit i) τ')|e=>Q e τ')):LW P n C c τ Q:=b▸Zxn (h.mono fun e τ' a=>by
 cases e with
 |exit i=>
  simp only at a⊢
  split at a
  ·rename_i he;rw[Yj (Ye he)];exact a
  ·rename_i he;rw[Ym (by rintro rfl;simp at he)];exact a
 |_=>exact a)
end
theorem Zpr{P:Program}{T:Nat→Option TI}{n:Nat}{f:FuncId}{fn:Func}(e:List ResultVar)(c:Code){l:Nat}{xs:List AV}{H:Hp}{a:AV→Hp→Prop}(θ:Nat→AV)(ys:List AV)
  (j:P.funcs[f]?=some fn) (hb:fn.body=some c) (b:(fn.name== "runtime.NumGoroutine")=false) (o:fn.ntmps=n) (r:fn.results.toList=e) (hx:xs.length≤n) (g:A8 P T)
  (d:Ao ⟨fun k=>(l+1,k.2),fun _=>0,θ,H,fun _=>False⟩ ys=xs) (h:∀B:Base,LW P n (Xa l θ H B) c (Ac (DA 0 ys) []) (FQ T e 0 (fun y _=>a y H))):Zc9 P f l xs H a:=
 Zoq e (Xa l θ H) (γ:=fun _=>0) (LPost:=fun y _=>a y H) j hb b o r hx g (fun B=>Zlp l B θ H) (fun B=>⟨rfl,rfl,rfl,trivial⟩) (fun B=>d) (fun _=>rfl) (fun _=>rfl) (fun B k m=>by simp[AC,Ft]at m) (fun B i hi=>absurd hi (Y2 _))
  (fun B γ y t s _ q p hy=>by rw[hy rfl,ZyI p];exact q) h
theorem ZH0{α:Type}(e:α→List D)(xs:List α):BC ((xs.map e).length:Nat) xs.length:=by simp[BC]
theorem ZsO{α:Type}{e e':α→List D}{xs:List α}{i:Nat}{x:α}(hx:xs[i]?=some x)(he:∀x,e x=e' x):Jo (xs.map e) (i:Nat) (e' x):=⟨by omega,by simp[hx,he]⟩
theorem ZGt{α:Type}{e e':α→List D}{xs:List α}{i:Nat}{z:α}(hi:i<xs.length)(he:∀x,e x=e' x):Jo (xs.map e) (i:Nat) (e' (xs.getD i z)):=by
 refine ZsO ?_ he
 grind
theorem ic{a r:Int}(h:a=r)(b: -9223372036854775808≤r)(c:r<9223372036854775808):Cs .i64 a r:=by
 subst h;exact IntWalk.i64_in _ ⟨b,by omega⟩
theorem ZUo{i len sz:Nat}(h:i<len):Mh (i:Nat) len 0 sz (i*sz):=⟨by omega,by omega,by simp⟩
theorem Zwi{sz:Nat}{e:List D}(C:List AV)(he:e.length=sz):Em sz C (.d (.list [e])) 1 (e.map .d):=by
 refine⟨Yu.2 fun x hx=>?_,fun q a=>?_,rfl,by simp⟩
 ·obtain⟨d,_,rfl⟩:=YX.1 hx;rfl
 grind
theorem T8{α:Type}{sz:Nat}{e:α→List D}(C:List AV)(xs:List α)(he:∀x,(e x).length=sz):Em sz C (.d (.list (xs.map e))) xs.length (Ab e xs):=by
 refine⟨Yu.2 fun x hx=>?_,fun q a=>?_,by simp,rfl⟩
 ·obtain⟨d,_,rfl⟩:=YX.1 hx;rfl
 grind
theorem Zv4{α:Type}{sz:Nat}{e:α→List D}(k:Ad)(g:Nat)(xs:List α)(he:∀x,(e x).length=sz):Em sz (Ab e xs) (.ref k g 0 xs.length) xs.length (Ab e xs):=by
 refine⟨Yu.2 fun x hx=>?_,rfl,by rw[FV he];simp,by rw[Ky,L5,←FV he xs,L0]⟩
 obtain⟨d,_,rfl⟩:=YX.1 hx;rfl
theorem Zy0{α:Type}{sz byt:Nat}{e:α→List D}(xs ys:List α){a:Nat}(he:∀x,(e x).length=sz)(b:xs.length+ys.length=a)(hb:a*byt≤140737488355328):
  KY (Ab e xs) 0 xs.length ys.length sz byt (Ab e ys) (Ab e (xs++ys)) a:=
 ⟨by rw[FV he,YP],by rw[Ky,L5,Uj],b,hb⟩
theorem Zv6{α:Type}(e:α→List D)(x:α):Ab e [x]=(e x).map .d:=by simp[Ab]
theorem gO{α:Type}{sz:Nat}{e:α→List D}(xs:List α)(b:sz≠0)(he:∀x,(e x).length=sz):HM (Ab e xs) 0 xs.length sz (xs.map e):=
 ⟨by simp,b,fun q a=>by obtain⟨x,_,rfl⟩:=YX.1 a;exact he x,by rw[FV he];simp,by rw[Ky,L5,←FV he xs,L0];rfl⟩
theorem Zn0{α:Type}{e e':α→List D}{xs:List α}{i:Int}{z:α}(a:0≤i)(hi:i<xs.length)(he:∀x,e x=e' x):Jo (xs.map e) i (e' (xs.getD i.toNat z)):=by
 have h:=ZGt (e:=e) (e':=e') (xs:=xs) (i:=i.toNat) (z:=z) (by omega) he
 grind
theorem ZUs(s:ByteArray):s.data.toList.length=s.size:=by simp
theorem ZI0{s:ByteArray}{i:Nat}{x:UInt8}(h:s.data.toList[i]?=some x):Jx s (i:Nat) (x.toNat:Nat):=⟨by omega,x,by simpa using h,rfl⟩
theorem Zrr{s:ByteArray}{i:Nat}(h:i<s.size):Jx s (i:Nat) ((s.data.toList.getD i 0).toNat:Nat):=by
 refine ZI0 ?_
 rw[Yg,Yc (by rw[ZUs];exact h)];rfl
theorem T7{α:Type}{sz byt c:Nat}{e:α→List D}{news:List AV}(xs ys:List α)(he:∀x,(e x).length=sz)(a:ys.length=c)(b:news=Ab e ys)(hb:(xs.length+ys.length)*byt≤140737488355328):
  KY (Ab e xs) 0 xs.length c sz byt news (Ab e (xs++ys)) (xs++ys).length:=by
 subst a;subst b
 exact Zy0 xs ys he (by rw[Yr]) (by rw[Yr];exact hb)
section
variable {P:Program} {l:Nat} {r:Ren} {f:FuncId} {xs xs':List AV} {hb:List (Ad×Blk)} {x x':AV}
def CJ(P:Program)(l:Nat)(no:Ad→Prop)(H:Hp)(c:AV)(e:List AV)(y:AV):Prop:=
 ∃f first a,c=.fn (.func f) first a∧∀l' b,l≤l'→(∀k:Ad,k.1≤l→¬no k→b k=H k)→Zc9 P f l' (first++e++a) b (fun g d=>g=y∧d=b)
theorem Zyz{i:Nat}{c:AV}(j:r.θ i=c)(h:CJ P l r.no r.H0 c xs' x')(d:Ao r xs=xs')(e:ren r x=x'):NA P l r i xs hb x:=by
 obtain⟨f,first,a,rfl,h⟩:=h
 exact⟨f,first,a,j,fun b _ g=>by rw[d,e];exact h (l+1) b (Nat.le_succ l) g⟩
theorem ZyW{H:Hp}{no:Ad→Prop}{c:List AV}{y:AV}(h:∀l' a,Zc9 P f l' c a (fun d b=>d=y∧b=a)):CJ P l no H (.fn (.func f) [] []) c y:=
 ⟨f,[],[],rfl,fun l' a _ _=>by simpa using h l' a⟩
end
section
variable {P:Program} {T:Nat→Option TI} {n:Nat} {C:Cx} {τ:St} {Q:Exit→St→Prop}
theorem ZGY(g:CxOk C)(k:A8 P T)(hm:P.follows .mixedOrders=true){os:Nat}{fx:List Nat}(d:C.outs=os)(i:C.fx=fx){c:Code}(a:AT)(lf e:Lf)(f:List ResultVar){b:AV→List Blk→Prop}(q:Ren→(Exit→St→Prop)→(AV→List Blk→Prop)→Prop)
  (l:∀r Q b,Cw P T C.l n os r c a τ (KB T f os fx r b lf e Q)=q r Q b) (j:∀τ,FQ T f os b .ret τ→Q .ret τ) (h:∀r,r.θ=C.θ→r.H0=C.H0→r.κ=C.κ→r.no=C.no→q r Q b):LW P n C c τ Q:=
 ZKA g k hm a lf e (by rw[d];exact j) (fun γ=>by rw[d,i,l];exact h _ rfl rfl rfl rfl)
theorem ZHv(e:CxOk C)(g:A8 P T)(hm:P.follows .mixedOrders=true){os:Nat}(f:C.outs=os){c:Code}(a:AT)(d:List ResultVar){b:AV→List Blk→Prop}(q:Ren→(AV→List Blk→Prop)→Prop)
  (i:∀r b,Cw P T C.l n os r c a τ (KF T d os b)=q r b) (h:∀r,r.θ=C.θ→r.H0=C.H0→r.κ=C.κ→r.no=C.no→q r b):LW P n C c τ (FQ T d os b):=by
 subst f
 exact ZNe e g hm a (fun γ=>by rw[i];exact h _ rfl rfl rfl rfl)
mutual
theorem Zy7{H:Hp}:∀(x:AV) {a:AT} {K c:AV→AT→Prop},(∀y a,K y a→c y a)→frz H x a K→frz H x a c
 |.d x,a,K,c,b,h=>b _ _ h
 |.e0,a,K,c,b,h=>b _ _ h
 |.agg xs,a,K,c,b,h=>ZlB xs (fun ys a h=>b _ _ h) h
 |.ref k g off m,a,K,c,b,h=>by
  unfold frz at h⊢
  grind
 |.top,a,K,c,b,h=>by simp only[frz]at h
 |.p _,a,K,c,b,h=>by simp only[frz]at h
 |.ptr _ _ _,a,K,c,b,h=>by simp only[frz]at h
 |.mp k g,a,K,c,b,h=>by
  unfold frz at h⊢
  grind
 |.iptr _ _,a,K,c,b,h=>by simp only[frz]at h
 |.ifc _ _ _,a,K,c,b,h=>b _ _ h
 |.fn _ _ _,a,K,c,b,h=>by simp only[frz]at h
 |.tup _,a,K,c,b,h=>by simp only[frz]at h
theorem ZlB{H:Hp}:∀(xs:List AV) {a:AT} {K b:List AV→AT→Prop},(∀y a,K y a→b y a)→Jv H xs a K→Jv H xs a b
 |[],a,K,b,c,h=>c _ _ h
 |x::xs,a,K,b,c,h=>by
  simp only[Jv]at h⊢
  exact Zy7 x (fun y a h=>ZlB xs (fun ys a h=>c _ _ h) h) h
end
end
end Go.Eng
