import Derived.Test.YtalafnjhcecdpaaGreatDoorZc07
import Derived.Test.YtalafnjhcecdpaaGreatDoorZc00
namespace Go.Eng
set_option linter.all false
open Go Go.RowKit
def KF(T:Nat→Option TI)(c:List ResultVar)(os:Nat)(b:AV→List Blk→Prop):Exit→St→AT→Prop
 |.normal,τ,a=>NT T c os τ a b
 |.ret,τ,a=>NT T c os τ a b
 |_,_,_=>False
def KB(T:Nat→Option TI)(d:List ResultVar)(os:Nat)(fx:List Nat)(r:Ren)(b:AV→List Blk→Prop)(lf c:Lf)(Q:Exit→St→Prop):Exit→St→AT→Prop
 |.ret,τ,a=>NT T d os τ a b
 |.normal,τ,a=>A4 r os a τ (fun τ _=>DV fx lf τ (Q .normal))
 |.exit i,τ,a=>A4 r os a τ (fun τ _=>DV fx c τ (Q (.exit i)))
 |_,_,_=>False
section
variable {P:Program} {T:Nat→Option TI} {n:Nat} {C:Cx} {τ σ:St} {Q:Exit→St→Prop}
theorem Sj{l:Nat}{ds:List (Option Nat)}:∀(ops:List Oper) {K c:St→Prop} {σ:St},(∀σ,K σ→c σ)→DG P l n ds ops K σ→DG P l n ds ops c σ
 |[],K,c,σ,b,h=>b _ h
 |o::a,K,c,σ,b,h=>by
  unfold DG at h⊢
  split at h
  ·exact Sm (fun σ h=>Sj a b h) h
  ·split at h
   ·refine⟨fun e=>Sm (fun σ h=>Sj a b h) (h.1 e),fun e=>?_⟩
    have d:=h.2 e
    split at d
    ·exact⟨d.1,Sj a b d.2⟩
    grind
   grind
theorem Ox{γ:Ad→Nat}{env:Bx}(h:RG (C.r γ) C.l C.outs env τ σ):∃a,RG (C.r γ) C.l C.outs [] (Dx env τ) a∧Wk n C σ a:=by
 refine⟨⟨fun j=>ren (C.r γ) ((Dx env τ).s j),σ.H⟩,⟨fun j=>⟨fun _=>rfl,fun d=>absurd A3 d⟩,h.h,h.g,h.go,h.k,h.o⟩,fun b w c=>?_⟩
 obtain⟨s,H⟩:=σ
 refine R.weaken c fun j=>?_
 simp only[Dx]
 split
 ·rename_i he
  left
  exact((h.s j).1 (by rw[he];exact A3)).symm
 ·right;simp[ren]
def V2(n:Nat)(C:Cx)(γ:Ad→Nat)(K:Exit→St→AT→Prop)(e:Exit)(σ:St):Prop:=∃τ a b,K e τ a∧RG (C.r γ) C.l C.outs [] τ b∧Wk n C σ b
theorem mr{r:Ren}{H a:Hp}(l:RenOk r C.l C.outs)(o:Do r H a){d:Nat}{s s':Nat→AV}(hs:∀j,s' j=ren r (s j)){A:Prop}:∀{m:List (Nat×List (List D))},Uw H d s A m→A∧∀p∈m,∃off c,s' p.1=.ref (C.l+1,d) (a (C.l+1,d)).g off c∧
  p.2.length=c∧(∀e∈p.2,e.length=(a (C.l+1,d)).sz)∧(off+c)*(a (C.l+1,d)).sz≤(a (C.l+1,d)).cells.length∧((a (C.l+1,d)).cells.drop (off*(a (C.l+1,d)).sz)).take (c*(a (C.l+1,d)).sz)=p.2.flatten.map .d
 |[],h=>⟨h,fun p f=>by cases f⟩
 |(j,x)::m,h=>by
  simp only[Uw]at h
  split at h
  case h_2=>exact h.elim
  rename_i k q off c w
  split at h
  case h_2=>exact h.elim
  rename_i i hl
  have i:=Cg.1 i
  subst i
  obtain⟨⟨f1,f2,f3,f4,f5⟩,h⟩:=h
  obtain⟨v,y⟩:=mr l o hs h
  obtain⟨n,t,u,b,g⟩:=o.at hl
  rw[l.own]at n t u b g
  refine⟨v,fun p f=>?_⟩
  rcases Yu.1 f with rfl|f
  ·refine⟨off,c,by rw[hs,w];simp[ren,l.own,n],f1,by rw[b];exact f3,by rw[b,g,Cu];exact f4,?_⟩
   rw[b,g,EG,Fk,f5,HE]
  grind
theorem mA{r:Ren}{H a:Hp}(s:RenOk r C.l C.outs)(m:Do r H a){d:Nat}{A:Prop}:∀{cs:List (Ad×Nat×List (List D))},Uo H d A cs→A∧∀p∈cs,p.1.1=1∧p.1≠(1,d)∧(H p.1).live=true∧∃off c,(a (r.κ p.1)).cells[p.2.1]?=some (.ref (C.l+1,d) (a (C.l+1,d)).g off c)∧
  p.2.2.length=c∧(∀e∈p.2.2,e.length=(a (C.l+1,d)).sz)∧(off+c)*(a (C.l+1,d)).sz≤(a (C.l+1,d)).cells.length∧((a (C.l+1,d)).cells.drop (off*(a (C.l+1,d)).sz)).take (c*(a (C.l+1,d)).sz)=p.2.2.flatten.map .d
 |[],h=>⟨h,fun p j=>by cases j⟩
 |(k,i,B)::cs,h=>by
  simp only[Uo]at h
  split at h
  case h_2=>exact h.elim
  rename_i k' q off c z f b u
  split at h
  case h_2=>exact h.elim
  rename_i n hl
  have n:=Cg.1 n
  subst n
  obtain⟨⟨f1,f2,f3,f4,f5⟩,h⟩:=h
  obtain⟨x,E⟩:=mA s m h
  obtain⟨t,v,w,g,l⟩:=m.at hl
  rw[s.own]at t v w g l
  refine⟨x,fun p j=>?_⟩
  rcases Yu.1 j with rfl|j
  ·have y:=m k b
   have o:k≠(1,d):=fun e=>by rw[Cg.2 e]at f;cases f
   refine⟨Yb z,o,b,off,c,?_,f1,by rw[g];exact f3,by rw[g,l,Cu];exact f4,?_⟩
   ·rw[y]
    simp only[AE,HA]
    rw[Cb]at u
    rw[u]
    simp[ren,s.own,t]
   ·rw[g,l,EG,Fk,f5,HE]
  grind
theorem nw{r:Ren}:∀(b:List (Nat×List (List D))) {s s':Nat→AV},(∀j,s' j=ren r (s j))→∀j,Jj b s' j=ren r (Jj b s j)
 |[],s,s',h,j=>h j
 |(i,c)::b,s,s',h,j=>nw b (s:=upd s i (.d (.list c))) (s':=upd s' i (.d (.list c))) (fun q=>by
   simp only[upd]
   by_cases a:q=i
   ·rw[Yk a,Yk a];simp[ren]
   ·rw[Yi a,Yi a];exact h q) j
theorem Sf{r:Ren}(xs:List AV)(i:Nat)(x:AV):(Al r xs).set i (ren r x)=Al r (xs.set i x):=by rw[Fl,Fl,Nq]
theorem oi{γ:Ad→Nat}(d:CxOk C):∀(cs:List (Ad×Nat×List (List D))) {τ σ:St},(∀p∈cs,p.1.1=1∧(τ.H p.1).live=true)→RG (C.r γ) C.l C.outs [] τ σ→
  RG (C.r γ) C.l C.outs [] ⟨τ.s,HZ cs τ.H⟩ ⟨σ.s,HZ (cs.map fun p=>((C.r γ).κ p.1,p.2)) σ.H⟩
 |[],τ,σ,_,h=>h
 |(k,i,a)::cs,τ,σ,e,h=>by
  obtain⟨j,b⟩:=e _ (Yz ..)
  have l:=h.h k b
  have c:=RG.updH (d.ren γ) h k ⟨(τ.H k).g,true,(τ.H k).e,(τ.H k).sz,(τ.H k).cells.set i (.d (.list a))⟩ rfl (.inl j)
  have f:AE (C.r γ) k ⟨(τ.H k).g,true,(τ.H k).e,(τ.H k).sz,(τ.H k).cells.set i (.d (.list a))⟩=⟨(σ.H ((C.r γ).κ k)).g,(σ.H ((C.r γ).κ k)).live,(σ.H ((C.r γ).κ k)).e,(σ.H ((C.r γ).κ k)).sz,(σ.H ((C.r γ).κ k)).cells.set i (.d (.list a))⟩:=by
   rw[l]
   simp only[AE]
   rw[←Sf]
   simp[ren]
  rw[f]at c
  have g:(⟨(τ.H k).g,true,(τ.H k).e,(τ.H k).sz,(τ.H k).cells.set i (.d (.list a))⟩:Blk)=⟨(τ.H k).g,(τ.H k).live,(τ.H k).e,(τ.H k).sz,(τ.H k).cells.set i (.d (.list a))⟩:=by rw[b]
  rw[g]at c
  have:=oi d cs (fun p m=>by
   obtain⟨n,o⟩:=e p (Yx _ m)
   refine⟨n,?_⟩
   show(updH τ.H k _ p.1).live=true
   unfold updH
   split
   ·exact b
   ·exact o) c
  exact this
theorem Zl{r:Ren}{cs:List AV}(h:Fq cs):Fq (Al r cs):=fun x hx=>by
 rw[Fl]at hx
 obtain⟨y,hy,rfl⟩:=YT.1 hx
 have:=h y hy
 cases y with
 |d d=>simp[ren]
 |_=>cases this
theorem o7{H:Hp}{d:Nat}{s:Nat→AV}:∀{b:List Nat},Ux H d s b=true→∀j∈b,∃g,s j=.mp (1,d) g∧BL H (1,d) g=true
 |[],_,j,a=>by cases a
 |i::r,h,j,a=>by
  simp only[Ux]at h
  split at h
  ·rename_i k g he
   simp only[Yc]at h
   have c:=Cg.1 h.1.1
   subst c
   rcases Yu.1 a with rfl|a
   ·grind
   ·exact o7 h.2 j a
  ·cases h
theorem pq{H:Hp}{d:Nat}{s:Nat→AV}:∀{b:List Nat},Uy H d s b=true→∀j∈b,∃g,s j=.ptr (1,d) g 0∧BL H (1,d) g=true
 |[],_,j,a=>by cases a
 |i::r,h,j,a=>by
  simp only[Uy]at h
  split at h
  ·rename_i k g he
   simp only[Yc]at h
   have c:=Cg.1 h.1.1
   subst c
   rcases Yu.1 a with rfl|a
   ·grind
   ·exact pq h.2 j a
  ·cases h
theorem B8(I:CxOk C){γ:Ad→Nat}:∀(a:AT) {τ σ:St} {K:St→AT→Prop},A4 (C.r γ) C.outs a τ K→RG (C.r γ) C.l C.outs [] τ σ→∃τ' G F,K τ' G∧RG (C.r γ) C.l C.outs [] τ' F∧Wk n C σ F
 |.frz d V cs b,τ,σ,K,h,f=>by
  have l:=I.ren γ
  have hs:∀j,σ.s j=ren (C.r γ) (τ.s j):=fun j=>(f.s j).1 A3
  simp only[A4]at h
  split at h
  case h_2=>exact h.elim
  rename_i hl hz
  have hz:=Yg hz
  obtain⟨h,hjs⟩:=mr l f.h hs h
  obtain⟨h,hcs⟩:=mA l f.h h
  have t:=f.h _ hl
  rw[l.own]at t
  have z:(σ.H (C.l+1,d)).live=true:=by rw[t];rfl
  have U:(σ.H (C.l+1,d)).sz=(τ.H (1,d)).sz:=by rw[t];rfl
  have o:(σ.H (C.l+1,d)).g=(C.r γ).γ (1,d)+(τ.H (1,d)).g:=by rw[t];rfl
  have u:=RG.updK l f (1,d) ⟨(τ.H (1,d)).g,false,(τ.H (1,d)).e,(τ.H (1,d)).sz,(τ.H (1,d)).cells⟩ {σ.H (C.l+1,d)with live:=false } (fun e=>by cases e) o (.inl rfl)
  rw[l.own]at u
  have A:=oi I cs (fun p hp=>by
   obtain⟨q1,q2,q3,_⟩:=hcs p hp
   refine⟨q1,?_⟩
   show(updH τ.H (1,d) _ p.1).live=true
   rw[AB _ _ q2]
   exact q3) u
  have Q:RG (C.r γ) C.l C.outs [] ⟨Jj V τ.s,HZ cs (updH τ.H (1,d) ⟨(τ.H (1,d)).g,false,(τ.H (1,d)).e,(τ.H (1,d)).sz,(τ.H (1,d)).cells⟩)⟩
    ⟨Jj V σ.s,HZ (cs.map fun p=>((C.r γ).κ p.1,p.2)) (updH σ.H (C.l+1,d) {σ.H (C.l+1,d)with live:=false })⟩:=
   ⟨fun j=>⟨fun _=>nw V hs j,fun T=>absurd A3 T⟩,A.h,A.g,A.go,A.k,A.o⟩
  obtain⟨τ',G,F,N,v,O⟩:=B8 I b h Q
  refine⟨τ',G,F,N,v,Wk.trans (fun L w M=>?_) O⟩
  obtain⟨s,H⟩:=σ
  refine R.freeze M (k:=(C.l+1,d)) (Ye _) z (by rw[U];omega) V (cs.map fun p=>((C.r γ).κ p.1,p.2)) hjs (fun p hp=>?_)
  obtain⟨pp,hpp,rfl⟩:=YT.1 hp
  obtain⟨q1,q2,q3,q4⟩:=hcs pp hpp
  obtain⟨⟨p1,p2⟩,p3⟩:=pp
  simp only at q1 q2 q3 q4
  subst q1
  have hlv:(H ((C.r γ).κ (1,p2))).live=true:=by have:=f.h _ q3;simp only at this;rw[this];rfl
  exact⟨by simp only;rw[l.own];intro e;simp at e;exact q2 (by rw[e]),by simp only;rw[l.own];exact Ye _,hlv,q4⟩
 |.adc k i d e sz b,τ,σ,K,h,f=>by
  have l:=I.ren γ
  simp only[A4]at h
  split at h
  case h_2=>exact h.elim
  rename_i P hne hlv E
  have P:=Yb P
  have hne:k≠(1,d):=fun e=>by rw[Cg.2 e]at hne;cases hne
  obtain⟨N,v⟩:=k
  simp only at P
  subst P
  have t:=f.h _ hlv
  have u:=RG.updH l f (1,d) ⟨(τ.H (1,d)).g+1,true,e,sz,[]⟩ rfl (.inl rfl)
  have A:=RG.updH l u (1,v) ⟨(τ.H (1,v)).g,true,(τ.H (1,v)).e,(τ.H (1,v)).sz,(τ.H (1,v)).cells.set i (.ref (1,d) ((τ.H (1,d)).g+1) 0 0)⟩ rfl (.inl rfl)
  have e1:AE (C.r γ) (1,d) ⟨(τ.H (1,d)).g+1,true,e,sz,[]⟩=⟨(σ.H (C.l+1,d)).g+1,true,e,sz,[]⟩:=by simp only[AE,f.g,Al,YI]
  have e2:AE (C.r γ) (1,v) ⟨(τ.H (1,v)).g,true,(τ.H (1,v)).e,(τ.H (1,v)).sz,(τ.H (1,v)).cells.set i (.ref (1,d) ((τ.H (1,d)).g+1) 0 0)⟩=
    ⟨(σ.H (C.l+1,v)).g,(σ.H (C.l+1,v)).live,(σ.H (C.l+1,v)).e,(σ.H (C.l+1,v)).sz,(σ.H (C.l+1,v)).cells.set i (.ref (C.l+1,d) ((σ.H (C.l+1,d)).g+1) 0 0)⟩:=by
   rw[l.own]at t
   rw[t]
   simp only[AE]
   rw[←Sf]
   simp[ren,l.own,f.g,YI]
  rw[e1,e2,l.own,l.own]at A
  obtain⟨τ',G,F,j1,j2,j3⟩:=B8 I b h A
  refine⟨τ',G,F,j1,j2,Wk.trans (fun L w M=>?_) j3⟩
  obtain⟨s,H⟩:=σ
  rw[Cb]at E
  exact R.adoptC M (k:=(C.l+1,d)) (kp:=(C.l+1,v)) rfl rfl (fun e=>by simp at e;exact hne (by rw[e])) (by rw[l.own]at t;simp only at t;rw[t];rfl) (by rw[l.own]at t;simp only at t;rw[t];simp only[AE,HA,E];simp[ren])
 |.ads j d e sz b,τ,σ,K,h,f=>by
  have l:=I.ren γ
  simp only[A4]at h
  split at h
  case h_2=>exact h.elim
  rename_i he
  have hsj:σ.s j=.e0:=by rw[(f.s j).1 A3,aL he];simp[ren]
  have u:=RG.updH l f (1,d) ⟨(τ.H (1,d)).g+1,true,e,sz,[]⟩ rfl (.inl rfl)
  have e1:AE (C.r γ) (1,d) ⟨(τ.H (1,d)).g+1,true,e,sz,[]⟩=⟨(σ.H (C.l+1,d)).g+1,true,e,sz,[]⟩:=by simp only[AE,f.g,Al,YI]
  rw[e1,l.own]at u
  have Q:RG (C.r γ) C.l C.outs [] ⟨upd τ.s j (.ref (1,d) ((τ.H (1,d)).g+1) 0 0),updH τ.H (1,d) ⟨(τ.H (1,d)).g+1,true,e,sz,[]⟩⟩ ⟨upd σ.s j (.ref (C.l+1,d) ((σ.H (C.l+1,d)).g+1) 0 0),updH σ.H (C.l+1,d) ⟨(σ.H (C.l+1,d)).g+1,true,e,sz,[]⟩⟩:=
   ⟨fun i=>⟨fun _=>by
    simp only[upd]
    by_cases hi:i=j
    ·rw[Yk hi,Yk hi];simp[ren,l.own,f.g,YI]
    ·rw[Yi hi,Yi hi];exact(f.s i).1 A3,fun T=>absurd A3 T⟩,u.h,u.g,u.go,u.k,u.o⟩
  obtain⟨τ',G,F,N,v,O⟩:=B8 I b h Q
  refine⟨τ',G,F,N,v,Wk.trans (fun L w M=>?_) O⟩
  obtain⟨s,H⟩:=σ
  exact R.adopt (e:=e) (sz:=sz) M (C.l+1,d) rfl _ (YN _) hsj
 |.trim k c b,τ,σ,K,h,f=>by
  have l:=I.ren γ
  simp only[A4]at h
  split at h
  case h_2=>exact h.elim
  rename_i hl
  obtain⟨⟨m,hm⟩,h⟩:=h
  have t:=f.h k hl
  have hko:A4 (C.r γ) C.outs b ⟨τ.s,updH τ.H k ⟨(τ.H k).g,true,(τ.H k).e,(τ.H k).sz,c⟩⟩ K∧Ku (C.r γ) C.outs k:=by
   unfold rh at h
   split at h
   ·rename_i P;exact⟨h,.inl (Yb P)⟩
   ·rcases f.k k hl with h5|⟨_,h5⟩
    ·have:=h.1.1;omega
    ·exact⟨h.2,.inr ⟨h.1.1,h5,h.1.2⟩⟩
  obtain⟨h,hko⟩:=hko
  have u:=RG.updH l f k ⟨(τ.H k).g,true,(τ.H k).e,(τ.H k).sz,c⟩ rfl hko
  have e1:AE (C.r γ) k ⟨(τ.H k).g,true,(τ.H k).e,(τ.H k).sz,c⟩=⟨(σ.H ((C.r γ).κ k)).g,(σ.H ((C.r γ).κ k)).live,(σ.H ((C.r γ).κ k)).e,(σ.H ((C.r γ).κ k)).sz,(σ.H ((C.r γ).κ k)).cells.take m⟩:=by
   rw[t]
   simp only[AE,Fk,hm]
  rw[e1]at u
  obtain⟨τ',G,F,N,v,O⟩:=B8 I b h u
  refine⟨τ',G,F,N,v,Wk.trans (fun L w M=>?_) O⟩
  obtain⟨s,H⟩:=σ
  have hle:((C.r γ).κ k).1≤C.l+1:=by
   obtain⟨N,v⟩:=k
   have:=hko.lk
   simp only at this
   rcases this with rfl|⟨rfl,A⟩
   ·rw[l.own];exact Ye _
   ·exact Qf (l.out v A)
  exact R.trim M hle (by have B:=t;simp only at B;rw[B];rfl) m
 |.reb j d m c b,τ,σ,K,h,f=>by
  have l:=I.ren γ
  simp only[A4]at h
  split at h
  case h_2=>exact h.elim
  rename_i k q off n hsj
  split at h
  case h_2=>exact h.elim
  rename_i hkd hq
  have P:k=(1,d):=Cg.1 hkd
  subst P
  obtain⟨hq1,hl⟩:=Eb hq
  subst hq1
  obtain⟨⟨hnm,hlen,E⟩,h⟩:=h
  subst E
  subst hnm
  have t:=f.h (1,d) hl
  rw[l.own]at t
  have z:(σ.H (C.l+1,d)).live=true:=by rw[t];rfl
  have U:(σ.H (C.l+1,d)).sz=(τ.H (1,d)).sz:=by rw[t];rfl
  have o:(σ.H (C.l+1,d)).g=(C.r γ).γ (1,d)+(τ.H (1,d)).g:=by rw[t];rfl
  have hcr:(σ.H (C.l+1,d)).cells=Al (C.r γ) (τ.H (1,d)).cells:=by rw[t];rfl
  have Z:(σ.H (C.l+1,d)).e=(τ.H (1,d)).e:=by rw[t];rfl
  have hs:σ.s j=.ref (C.l+1,d) (σ.H (C.l+1,d)).g off n:=by rw[(f.s j).1 A3,hsj];simp only[ren];rw[l.own,o]
  have u:=RG.updH l f (1,d) ⟨(τ.H (1,d)).g+1,true,.t (τ.H (1,d)).e.ty,(τ.H (1,d)).sz,(τ.H (1,d)).cells.drop (off*(τ.H (1,d)).sz)⟩ rfl (.inl rfl)
  have e1:AE (C.r γ) (1,d) ⟨(τ.H (1,d)).g+1,true,.t (τ.H (1,d)).e.ty,(τ.H (1,d)).sz,(τ.H (1,d)).cells.drop (off*(τ.H (1,d)).sz)⟩=⟨(σ.H (C.l+1,d)).g+1,true,.t (σ.H (C.l+1,d)).e.ty,(σ.H (C.l+1,d)).sz,(σ.H (C.l+1,d)).cells.drop (off*(σ.H (C.l+1,d)).sz)⟩:=by
   simp only[AE,o,Z,U,hcr,EG,YI]
  rw[e1,l.own]at u
  have Q:RG (C.r γ) C.l C.outs [] ⟨upd τ.s j (.ref (1,d) ((τ.H (1,d)).g+1) 0 n),updH τ.H (1,d) ⟨(τ.H (1,d)).g+1,true,.t (τ.H (1,d)).e.ty,(τ.H (1,d)).sz,(τ.H (1,d)).cells.drop (off*(τ.H (1,d)).sz)⟩⟩
    ⟨upd σ.s j (.ref (C.l+1,d) ((σ.H (C.l+1,d)).g+1) 0 n),updH σ.H (C.l+1,d) ⟨(σ.H (C.l+1,d)).g+1,true,.t (σ.H (C.l+1,d)).e.ty,(σ.H (C.l+1,d)).sz,(σ.H (C.l+1,d)).cells.drop (off*(σ.H (C.l+1,d)).sz)⟩⟩:=
   ⟨fun i=>⟨fun _=>by
    simp only[upd]
    by_cases hi:i=j
    ·rw[Yk hi,Yk hi];simp only[ren];rw[l.own,o,YI]
    ·rw[Yi hi,Yi hi];exact(f.s i).1 A3,fun T=>absurd A3 T⟩,u.h,u.g,u.go,u.k,u.o⟩
  obtain⟨τ',G,F,N,v,O⟩:=B8 I b h Q
  refine⟨τ',G,F,N,v,Wk.trans (fun L w M=>?_) O⟩
  obtain⟨s,H⟩:=σ
  exact R.rebase M (Ye _) z hs (by rw[U,hcr,Cu];exact hlen)
 |.mv d j b,τ,σ,K,h,f=>by
  have l:=I.ren γ
  have hs:∀j,σ.s j=ren (C.r γ) (τ.s j):=fun j=>(f.s j).1 A3
  simp only[A4]at h
  split at h
  case h_2=>exact h.elim
  rename_i hl
  obtain⟨hf,⟨J,hno⟩,h⟩:=h
  have t:=f.h _ hl
  have X:=f.go j J
  rw[l.own]at t
  have z:(σ.H (C.l+1,d)).live=true:=by rw[t];rfl
  have o:(σ.H (C.l+1,d)).g=(C.r γ).γ (1,d)+(τ.H (1,d)).g:=by rw[t];rfl
  have u:=RG.updK l f (1,d) ⟨(τ.H (1,d)).g,false,(τ.H (1,d)).e,(τ.H (1,d)).sz,(τ.H (1,d)).cells⟩ {σ.H (C.l+1,d)with live:=false } (fun e=>by cases e) o (.inl rfl)
  rw[l.own]at u
  have A:=RG.updH l u (0,j) ⟨(τ.H (0,j)).g+1,true,(τ.H (1,d)).e,(τ.H (1,d)).sz,(τ.H (1,d)).cells⟩ rfl (.inr ⟨rfl,J,hno⟩)
  have e2:AE (C.r γ) (0,j) ⟨(τ.H (0,j)).g+1,true,(τ.H (1,d)).e,(τ.H (1,d)).sz,(τ.H (1,d)).cells⟩={σ.H (C.l+1,d)with g:=(σ.H ((C.r γ).κ (0,j))).g+1 }:=by
   rw[t]
   simp only[AE,X,YI]
  rw[e2]at A
  have Q:RG (C.r γ) C.l C.outs [] ⟨fun i=>EZ (1,d) (0,j) (τ.H (1,d)).g ((τ.H (0,j)).g+1) (τ.s i),updH (updH τ.H (1,d) ⟨(τ.H (1,d)).g,false,(τ.H (1,d)).e,(τ.H (1,d)).sz,(τ.H (1,d)).cells⟩) (0,j) ⟨(τ.H (0,j)).g+1,true,(τ.H (1,d)).e,(τ.H (1,d)).sz,(τ.H (1,d)).cells⟩⟩
    ⟨fun i=>ren (C.r γ) (EZ (1,d) (0,j) (τ.H (1,d)).g ((τ.H (0,j)).g+1) (τ.s i)),updH (updH σ.H (C.l+1,d) {σ.H (C.l+1,d)with live:=false }) ((C.r γ).κ (0,j)) {σ.H (C.l+1,d)with g:=(σ.H ((C.r γ).κ (0,j))).g+1 }⟩:=
   ⟨fun i=>⟨fun _=>rfl,fun T=>absurd A3 T⟩,A.h,A.g,A.go,A.k,A.o⟩
  obtain⟨τ',G,F,N,v,O⟩:=B8 I b h Q
  refine⟨τ',G,F,N,v,Wk.trans (fun L w M=>?_) O⟩
  obtain⟨s,H⟩:=σ
  refine R.handout M (k:=(C.l+1,d)) rfl (l.out j J) z (by have B:=t;simp only at B;rw[B];exact Zl hf) (fun i=>?_)
  have r:=hs i
  simp only at r
  cases hx:τ.s i with
  |ref q g off c=>
   rw[hx]at r
   rw[ay]
   split
   ·rename_i E
    obtain⟨rfl,rfl⟩:=E
    refine .inr (.inl ⟨off,c,?_,?_⟩)
    ·rw[r];simp only[ren];rw[l.own];simp only at o;rw[o]
    ·simp only[ren];simp only at X;rw[X,YI]
   ·left;rw[r]
  |mp q g=>
   rw[hx]at r
   rw[bn]
   split
   ·rename_i E
    obtain⟨rfl,rfl⟩:=E
    refine .inr (.inr ⟨?_,?_⟩)
    ·rw[r];simp only[ren];rw[l.own];simp only at o;rw[o]
    ·simp only[ren];simp only at X;rw[X,YI]
   ·left;rw[r]
  |_=>left;rw[r,hx];rfl
 |.rnm d d' e i b,τ,σ,K,h,f=>by
  have l:=I.ren γ
  have hs:∀j,σ.s j=ren (C.r γ) (τ.s j):=fun j=>(f.s j).1 A3
  simp only[A4]at h
  split at h
  case h_2=>exact h.elim
  rename_i k g off c hl hdd S Y hle E
  split at h
  case h_2=>exact h.elim
  rename_i P hg
  obtain⟨hf,h⟩:=h
  have P:=Cg.1 P
  subst P
  have hg:=Yb hg
  subst hg
  have hdd:d≠d':=fun q=>by subst q;simp at hdd
  have S:e≠d:=fun q=>by subst q;simp at S
  have Y:e≠d':=fun q=>by subst q;simp at Y
  have t:=f.h _ hl
  have D:=f.h _ hle
  rw[l.own]at t D
  have z:(σ.H (C.l+1,d)).live=true:=by rw[t];rfl
  have hler:(σ.H (C.l+1,e)).live=true:=by rw[D];rfl
  have o:(σ.H (C.l+1,d)).g=(C.r γ).γ (1,d)+(τ.H (1,d)).g:=by rw[t];rfl
  have y:=f.g d'
  have u:=RG.updK l f (1,d) ⟨(τ.H (1,d)).g,false,(τ.H (1,d)).e,(τ.H (1,d)).sz,(τ.H (1,d)).cells⟩ {σ.H (C.l+1,d)with live:=false } (fun e=>by cases e) o (.inl rfl)
  rw[l.own]at u
  have A:=RG.updH l u (1,d') ⟨(τ.H (1,d')).g+1,true,(τ.H (1,d)).e,(τ.H (1,d)).sz,(τ.H (1,d)).cells⟩ rfl (.inl rfl)
  have e2:AE (C.r γ) (1,d') ⟨(τ.H (1,d')).g+1,true,(τ.H (1,d)).e,(τ.H (1,d)).sz,(τ.H (1,d)).cells⟩={σ.H (C.l+1,d)with g:=(σ.H (C.l+1,d')).g+1 }:=by
   rw[t]
   simp only[AE,y,YI]
  rw[e2,l.own]at A
  have W:=RG.updH l A (1,e) ⟨(τ.H (1,e)).g,true,(τ.H (1,e)).e,(τ.H (1,e)).sz,(τ.H (1,e)).cells.set i (.ref (1,d') ((τ.H (1,d')).g+1) off c)⟩ rfl (.inl rfl)
  have e4:AE (C.r γ) (1,e) ⟨(τ.H (1,e)).g,true,(τ.H (1,e)).e,(τ.H (1,e)).sz,(τ.H (1,e)).cells.set i (.ref (1,d') ((τ.H (1,d')).g+1) off c)⟩=
    ⟨(σ.H (C.l+1,e)).g,true,(σ.H (C.l+1,e)).e,(σ.H (C.l+1,e)).sz,(σ.H (C.l+1,e)).cells.set i (.ref (C.l+1,d') ((σ.H (C.l+1,d')).g+1) off c)⟩:=by
   rw[D]
   simp only[AE]
   rw[←Sf]
   simp[ren,l.own,y,YI]
  rw[e4,l.own]at W
  have Q:RG (C.r γ) C.l C.outs [] ⟨fun j=>EZ (1,d) (1,d') (τ.H (1,d)).g ((τ.H (1,d')).g+1) (τ.s j),_⟩
    ⟨fun j=>ren (C.r γ) (EZ (1,d) (1,d') (τ.H (1,d)).g ((τ.H (1,d')).g+1) (τ.s j)),_⟩:=
   ⟨fun i=>⟨fun _=>rfl,fun T=>absurd A3 T⟩,W.h,W.g,W.go,W.k,W.o⟩
  obtain⟨τ',G,F,N,v,O⟩:=B8 I b h Q
  refine⟨τ',G,F,N,v,Wk.trans (fun L w M=>?_) O⟩
  obtain⟨s,H⟩:=σ
  rw[Cb]at E
  refine R.rename M (k:=(C.l+1,d)) (k':=(C.l+1,d')) (q:=(C.l+1,e)) rfl (Ye _) rfl (fun q=>hdd (by simpa using q)) (fun q=>S (by simpa using q)) (fun q=>Y (by simpa using q)) z hler (by have B:=t;simp only at B;rw[B];exact Zl hf)
   (by simp only at D o;rw[D];simp only[AE,HA,E];simp[ren,l.own,o]) (fun i=>?_)
  have r:=hs i
  simp only at r
  cases hx:τ.s i with
  |ref q g off c=>
   rw[hx]at r
   rw[ay]
   split
   ·rename_i E
    obtain⟨rfl,rfl⟩:=E
    refine .inr (.inl ⟨off,c,?_,?_⟩)
    ·rw[r];simp only[ren];rw[l.own];simp only at o;rw[o]
    ·simp only[ren];rw[l.own];simp only at y;rw[y,YI]
   ·left;rw[r]
  |mp q g=>
   rw[hx]at r
   rw[bn]
   split
   ·rename_i E
    obtain⟨rfl,rfl⟩:=E
    refine .inr (.inr ⟨?_,?_⟩)
    ·rw[r];simp only[ren];rw[l.own];simp only at o;rw[o]
    ·simp only[ren];rw[l.own];simp only at y;rw[y,YI]
   ·left;rw[r]
  |_=>left;rw[r,hx];rfl
 |.mvc d q e i b,τ,σ,K,h,f=>by
  have l:=I.ren γ
  have hs:∀j,σ.s j=ren (C.r γ) (τ.s j):=fun j=>(f.s j).1 A3
  simp only[A4]at h
  split at h
  case h_2=>exact h.elim
  rename_i k g off c hl S hle E
  split at h
  case h_2=>exact h.elim
  rename_i P hg
  obtain⟨hf,⟨J,hno⟩,h⟩:=h
  have P:=Cg.1 P
  subst P
  have hg:=Yb hg
  subst hg
  have S:e≠d:=fun q'=>by subst q';simp at S
  have t:=f.h _ hl
  have D:=f.h _ hle
  rw[l.own]at t D
  have z:(σ.H (C.l+1,d)).live=true:=by rw[t];rfl
  have hler:(σ.H (C.l+1,e)).live=true:=by rw[D];rfl
  have o:(σ.H (C.l+1,d)).g=(C.r γ).γ (1,d)+(τ.H (1,d)).g:=by rw[t];rfl
  have y:=f.go q J
  have hlo:=l.out q J
  have u:=RG.updK l f (1,d) ⟨(τ.H (1,d)).g,false,(τ.H (1,d)).e,(τ.H (1,d)).sz,(τ.H (1,d)).cells⟩ {σ.H (C.l+1,d)with live:=false } (fun e=>by cases e) o (.inl rfl)
  rw[l.own]at u
  have A:=RG.updH l u (0,q) ⟨(τ.H (0,q)).g+1,true,(τ.H (1,d)).e,(τ.H (1,d)).sz,(τ.H (1,d)).cells⟩ rfl (.inr ⟨rfl,J,hno⟩)
  have e2:AE (C.r γ) (0,q) ⟨(τ.H (0,q)).g+1,true,(τ.H (1,d)).e,(τ.H (1,d)).sz,(τ.H (1,d)).cells⟩={σ.H (C.l+1,d)with g:=(σ.H ((C.r γ).κ (0,q))).g+1 }:=by
   rw[t]
   simp only[AE,y,YI]
  rw[e2]at A
  have W:=RG.updH l A (1,e) ⟨(τ.H (1,e)).g,true,(τ.H (1,e)).e,(τ.H (1,e)).sz,(τ.H (1,e)).cells.set i (.ref (0,q) ((τ.H (0,q)).g+1) off c)⟩ rfl (.inl rfl)
  have e4:AE (C.r γ) (1,e) ⟨(τ.H (1,e)).g,true,(τ.H (1,e)).e,(τ.H (1,e)).sz,(τ.H (1,e)).cells.set i (.ref (0,q) ((τ.H (0,q)).g+1) off c)⟩=
    ⟨(σ.H (C.l+1,e)).g,true,(σ.H (C.l+1,e)).e,(σ.H (C.l+1,e)).sz,(σ.H (C.l+1,e)).cells.set i (.ref ((C.r γ).κ (0,q)) ((σ.H ((C.r γ).κ (0,q))).g+1) off c)⟩:=by
   rw[D]
   simp only[AE]
   rw[←Sf]
   simp[ren,l.own,y,YI]
  rw[e4,l.own]at W
  have Q:RG (C.r γ) C.l C.outs [] ⟨fun j=>EZ (1,d) (0,q) (τ.H (1,d)).g ((τ.H (0,q)).g+1) (τ.s j),_⟩
    ⟨fun j=>ren (C.r γ) (EZ (1,d) (0,q) (τ.H (1,d)).g ((τ.H (0,q)).g+1) (τ.s j)),_⟩:=
   ⟨fun i=>⟨fun _=>rfl,fun T=>absurd A3 T⟩,W.h,W.g,W.go,W.k,W.o⟩
  obtain⟨τ',G,F,N,v,O⟩:=B8 I b h Q
  refine⟨τ',G,F,N,v,Wk.trans (fun L w M=>?_) O⟩
  obtain⟨s,H⟩:=σ
  rw[Cb]at E
  refine R.rename M (k:=(C.l+1,d)) (k':=((C.r γ).κ (0,q))) (q:=(C.l+1,e)) rfl (Qf hlo) rfl (fun q'=>by rw[←q']at hlo;exact absurd hlo (Nat.not_succ_le_self _)) (fun q'=>S (by simpa using q')) (fun q'=>by rw[←q']at hlo;exact absurd hlo (Nat.not_succ_le_self _)) z hler (by have B:=t;simp only at B;rw[B];exact Zl hf)
   (by simp only at D o;rw[D];simp only[AE,HA,E];simp[ren,l.own,o]) (fun i=>?_)
  have r:=hs i
  simp only at r
  cases hx:τ.s i with
  |ref q g off c=>
   rw[hx]at r
   rw[ay]
   split
   ·rename_i E
    obtain⟨rfl,rfl⟩:=E
    refine .inr (.inl ⟨off,c,?_,?_⟩)
    ·rw[r];simp only[ren];rw[l.own];simp only at o;rw[o]
    ·simp only[ren];simp only at y;rw[y,YI]
   ·left;rw[r]
  |mp q g=>
   rw[hx]at r
   rw[bn]
   split
   ·rename_i E
    obtain⟨rfl,rfl⟩:=E
    refine .inr (.inr ⟨?_,?_⟩)
    ·rw[r];simp only[ren];rw[l.own];simp only at o;rw[o]
    ·simp only[ren];simp only at y;rw[y,YI]
   ·left;rw[r]
  |_=>left;rw[r,hx];rfl
 |.fzm d V b,τ,σ,K,h,f=>by
  have l:=I.ren γ
  have hs:∀j,σ.s j=ren (C.r γ) (τ.s j):=fun j=>(f.s j).1 A3
  simp only[A4]at h
  split at h
  case h_2=>exact h.elim
  rename_i q es hl he hm
  have hjs:=o7 hm
  have t:=f.h _ hl
  rw[l.own]at t
  have z:(σ.H (C.l+1,d)).live=true:=by rw[t];rfl
  have Z:(σ.H (C.l+1,d)).e=.m q es:=by rw[t];exact he
  have o:(σ.H (C.l+1,d)).g=(C.r γ).γ (1,d)+(τ.H (1,d)).g:=by rw[t];rfl
  have u:=RG.updK l f (1,d) ⟨(τ.H (1,d)).g,false,(τ.H (1,d)).e,(τ.H (1,d)).sz,(τ.H (1,d)).cells⟩ {σ.H (C.l+1,d)with live:=false } (fun e=>by cases e) o (.inl rfl)
  rw[l.own]at u
  have Q:RG (C.r γ) C.l C.outs [] ⟨Eo (.d (.map q es)) V τ.s,updH τ.H (1,d) ⟨(τ.H (1,d)).g,false,(τ.H (1,d)).e,(τ.H (1,d)).sz,(τ.H (1,d)).cells⟩⟩ ⟨Eo (.d (.map q es)) V σ.s,updH σ.H (C.l+1,d) {σ.H (C.l+1,d)with live:=false }⟩:=
   ⟨fun j=>⟨fun _=>by
    simp only[OJ]
    by_cases J:j∈V
    ·rw[Yk J,Yk J];simp[ren]
    ·rw[Yi J,Yi J];exact hs j,fun T=>absurd A3 T⟩,u.h,u.g,u.go,u.k,u.o⟩
  obtain⟨τ',G,F,N,v,O⟩:=B8 I b h Q
  refine⟨τ',G,F,N,v,Wk.trans (fun L w M=>?_) O⟩
  obtain⟨s,H⟩:=σ
  refine R.freezeM M (k:=(C.l+1,d)) (Ye _) z Z V (fun j J=>?_)
  obtain⟨g,g1,g2⟩:=hjs j J
  have:=hs j
  simp only at this o
  rw[this,g1]
  simp only[ren]
  rw[l.own,o,(Eb g2).1]
 |.fzb d V b,τ,σ,K,h,f=>by
  have l:=I.ren γ
  have hs:∀j,σ.s j=ren (C.r γ) (τ.s j):=fun j=>(f.s j).1 A3
  simp only[A4]at h
  split at h
  case h_2=>exact h.elim
  rename_i x ds hl he hm
  have hjs:=pq hm
  have t:=f.h _ hl
  rw[l.own]at t
  have z:(σ.H (C.l+1,d)).live=true:=by rw[t];rfl
  have Z:(σ.H (C.l+1,d)).cells=(x::ds).map .d:=by rw[t];show Al _ _=_;rw[SC he,HE]
  have o:(σ.H (C.l+1,d)).g=(C.r γ).γ (1,d)+(τ.H (1,d)).g:=by rw[t];rfl
  have u:=RG.updK l f (1,d) ⟨(τ.H (1,d)).g,false,(τ.H (1,d)).e,(τ.H (1,d)).sz,(τ.H (1,d)).cells⟩ {σ.H (C.l+1,d)with live:=false } (fun e=>by cases e) o (.inl rfl)
  rw[l.own]at u
  have Q:RG (C.r γ) C.l C.outs [] ⟨Eo (.iptr (x::ds) 0) V τ.s,updH τ.H (1,d) ⟨(τ.H (1,d)).g,false,(τ.H (1,d)).e,(τ.H (1,d)).sz,(τ.H (1,d)).cells⟩⟩ ⟨Eo (.iptr (x::ds) 0) V σ.s,updH σ.H (C.l+1,d) {σ.H (C.l+1,d)with live:=false }⟩:=
   ⟨fun j=>⟨fun _=>by
    simp only[OJ]
    by_cases J:j∈V
    ·rw[Yk J,Yk J];simp[ren]
    ·rw[Yi J,Yi J];exact hs j,fun T=>absurd A3 T⟩,u.h,u.g,u.go,u.k,u.o⟩
  obtain⟨τ',G,F,N,v,O⟩:=B8 I b h Q
  refine⟨τ',G,F,N,v,Wk.trans (fun L w M=>?_) O⟩
  obtain⟨s,H⟩:=σ
  refine R.freezeB M (k:=(C.l+1,d)) (Ye _) z Z (by simp) V (fun j J=>?_)
  obtain⟨g,g1,g2⟩:=hjs j J
  have:=hs j
  simp only at this o
  rw[this,g1]
  simp only[ren]
  rw[l.own,o,(Eb g2).1]
 |.ents _ _,τ,σ,K,h,f=>⟨τ,_,σ,h,f,Wk.refl σ⟩
 |.all _ _,τ,σ,K,h,f=>⟨τ,_,σ,h,f,Wk.refl σ⟩
 |.nil,τ,σ,K,h,f=>⟨τ,_,σ,h,f,Wk.refl σ⟩
 |.sep _,τ,σ,K,h,f=>⟨τ,_,σ,h,f,Wk.refl σ⟩
 |.go _,τ,σ,K,h,f=>⟨τ,_,σ,h,f,Wk.refl σ⟩
 |.av _ _,τ,σ,K,h,f=>⟨τ,_,σ,h,f,Wk.refl σ⟩
 |.cs _ _,τ,σ,K,h,f=>⟨τ,_,σ,h,f,Wk.refl σ⟩
 |.ds _ _,τ,σ,K,h,f=>⟨τ,_,σ,h,f,Wk.refl σ⟩
 |.num _ _,τ,σ,K,h,f=>⟨τ,_,σ,h,f,Wk.refl σ⟩
 |.nat _ _,τ,σ,K,h,f=>⟨τ,_,σ,h,f,Wk.refl σ⟩
 |.call _ _ _,τ,σ,K,h,f=>⟨τ,_,σ,h,f,Wk.refl σ⟩
 |.callH _ _ _ _,τ,σ,K,h,f=>⟨τ,_,σ,h,f,Wk.refl σ⟩
 |.br _ _,τ,σ,K,h,f=>⟨τ,_,σ,h,f,Wk.refl σ⟩
 |.one _ _,τ,σ,K,h,f=>⟨τ,_,σ,h,f,Wk.refl σ⟩
 |.hard _ _ _ _ _,τ,σ,K,h,f=>⟨τ,_,σ,h,f,Wk.refl σ⟩
theorem FW(o:CxOk C)(s:A5 P T)(hm:P.follows .mixedOrders=true){γ:Ad→Nat}:∀(c:Code) (a:AT) (τ σ:St) (K:Exit→St→AT→Prop),Cw P T C.l n C.outs (C.r γ) c a τ K→RG (C.r γ) C.l C.outs [] τ σ→
  BB P C.l n C.B c (V2 n C γ K) σ
 |.skip,a,τ,σ,K,h,d=>ZvY ⟨τ,a,σ,h,d,Wk.refl σ⟩
 |.ret,a,τ,σ,K,h,d=>by
  obtain⟨τ',f,p,k,m,q⟩:=B8 (n:=n) o a h d
  exact BB.weak (rV ⟨τ',f,p,k,m,Wk.refl p⟩) q
 |.exit id,a,τ,σ,K,h,d=>Zvy ⟨τ,a,σ,h,d,Wk.refl σ⟩
 |.seq x y,a,τ,σ,K,h,d=>by
  have F:=FW o s hm x a τ σ _ h d
  refine Z7 (Hw F fun e p hi=>?_)
  obtain⟨τ',f,j,k,m,q⟩:=hi
  cases e with
  |normal=>exact BB.weak (FW o s hm y f τ' j _ k m) q
  |_=>exact⟨τ',f,j,k,m,q⟩
 |.block id c,a,τ,σ,K,h,d=>by
  have F:=FW o s hm c a τ σ _ h d
  refine mL (Hw F fun e p hi=>?_)
  obtain⟨τ',f,j,k,m,q⟩:=hi
  cases e with
  |exit i=>
   unfold SV
   simp only at k⊢
   split at k
   ·rename_i he;rw[Yk (Yb he)];exact⟨τ',f,j,k,m,q⟩
   ·rename_i he;rw[Yi (by rintro rfl;simp at he)];exact⟨τ',f,j,k,m,q⟩
  |_=>exact⟨τ',f,j,k,m,q⟩
 |.cond c x y,a,τ,σ,K,h,d=>by
  have he:∀{b},ev τ.s c=.d (.bool b)→ev σ.s c=.d (.bool b):=fun {b} u=>by rw[J9 (c:=[]) d A3 (by cases c<;>rfl),u];simp[ren]
  unfold Cw at h
  split at h
  ·rename_i b a1 L u
   exact OC (he u) (fun e=>FW o s hm x a1 τ σ K (h.1 e) d) (fun e=>FW o s hm y L τ σ K (h.2 e) d)
  ·rename_i b f u
   refine OC (he u) (fun e=>?_) (fun e=>?_)
   ·subst e;exact FW o s hm x f τ σ K h d
   ·subst e;exact FW o s hm y f τ σ K h d
  ·rename_i b v f u
   cases v with
   |true=>exact OC (he u) (fun e=>FW o s hm x f τ σ K (h.1 e) d) (fun e=>(h.2 e).elim)
   |false=>exact OC (he u) (fun e=>(h.1 e).elim) (fun e=>FW o s hm y f τ σ K (h.2 e) d)
  ·exact h.elim
 |.region id ops J,a,τ,σ,K,h,d=>by
  obtain⟨t,rfl⟩:∃l:List Oper,ops=l.toArray:=⟨ops.toList,by simp⟩
  have fin:∀τ' g f p,K .normal (Dx g τ') f→RG (C.r γ) C.l C.outs g τ' p→V2 n C γ K .normal p:=fun τ' g f p k m=>by
   obtain⟨j,q,M⟩:=Ox (n:=n) m
   exact⟨_,f,j,k,q,M⟩
  unfold Cw at h
  split at h
  ·obtain⟨H,D,G,h,d,E⟩:=B8 (n:=n) o a h d
   refine BB.weak ?_ E
   intro A w N
   have:=L8 (o.ren γ) s (ops:=t.toArray) (B:=C.B) (K:=fun τ' env f=>K .normal (Dx env τ') f) (QQ:=fun e f w'=>∃p,V2 n C γ K e p∧R C.l n C.B p f w') [] (fun τ' g f p I w' k m q=>by
    unfold wpList
    exact⟨p,fin _ _ _ _ k m,q⟩) t [] D H G A w (by simpa using h) d N
   rw[NC]at this
   exact wp_region_lit this
  ·split at h
   case h_2=>exact h.elim
   rename_i z
   simp only[Yc]at z
   obtain⟨H,D,G,h,d,E⟩:=B8 (n:=n) o a h d
   refine BB.weak ?_ E
   refine yM hm (l5 (by simpa using z.1.1)) (by simpa using z.1.2) (by simpa using z.2) (Sj t (fun p O=>?_) (Mb (o.ren γ) (l:=C.l) (r:=C.r γ) (outs:=C.outs) (K:=fun τ' env f=>K .normal (Dx env τ') f) s t [] D H G (by simpa using z.1.2) (by simpa using h) d))
   obtain⟨τ',g,f,k,m⟩:=O
   exact fin _ _ _ _ k m
 |.loop _,a,τ,σ,K,h,d=>h.elim
 |.rangeFunc _ _ _ _,a,τ,σ,K,h,d=>h.elim
 |.scope _,a,τ,σ,K,h,d=>h.elim
 |.label _,a,τ,σ,K,h,d=>h.elim
 |.goto _,a,τ,σ,K,h,d=>h.elim
 |.refuse _,a,τ,σ,K,h,d=>h.elim
theorem gq(k:CxOk C)(m:A5 P T)(hm:P.follows .mixedOrders=true){c:Code}{a:AT}(K:(Ad→Nat)→Exit→St→AT→Prop)(h:∀γ,Cw P T C.l n C.outs (C.r γ) c a τ (K γ))
  (p:∀γ e τ' b d,C.G γ→K γ e τ' b→RG (C.r γ) C.l C.outs [] τ' d→Is n C (Q e) d):LW P n C c τ Q:=by
 intro γ σ o l
 refine Hw (FW k m hm c a τ σ (K γ) (h γ) l) fun e d hi=>?_
 obtain⟨τ',b,f,g,i,j⟩:=hi
 obtain⟨u,w,v,q,r,s,t⟩:=p γ e τ' b f o g i
 exact⟨u,w,v,q,r,s,j.trans t⟩
theorem sK(i:CxOk C)(k:A5 P T)(hm:P.follows .mixedOrders=true){c:Code}(a:AT){f:List ResultVar}{b:AV→List Blk→Prop}(h:∀γ,Cw P T C.l n C.outs (C.r γ) c a τ (KF T f C.outs b)):LW P n C c τ (FQ T f C.outs b):=
 gq i k hm (fun _=>KF T f C.outs b) h fun γ e τ' g m l d j=>.of l j (by
  cases e<;>simp only[KF]at d
  ·exact⟨.inl rfl,g,d⟩
  ·exact⟨.inr rfl,g,d⟩)
theorem tz(d:CxOk C)(z:A5 P T)(hm:P.follows .mixedOrders=true){c:Code}(a:AT)(lf w:Lf){s:List ResultVar}{b:AV→List Blk→Prop}(y:∀τ,FQ T s C.outs b .ret τ→Q .ret τ)(h:∀γ,Cw P T C.l n C.outs (C.r γ) c a τ (KB T s C.outs C.fx (C.r γ) b lf w Q)):LW P n C c τ Q:=
 gq d z hm (fun γ=>KB T s C.outs C.fx (C.r γ) b lf w Q) h fun γ e τ' g D j f i=>by
  cases e<;>simp only[KB]at f
  ·obtain⟨B,x,A,p,q,r⟩:=B8 (n:=n) d g f i
   obtain⟨t,v,u,k,l,m,o⟩:=Hv (n:=n) d p j q
   exact⟨t,v,u,k,l,m,r.trans o⟩
  ·obtain⟨B,x,A,p,q,r⟩:=B8 (n:=n) d g f i
   obtain⟨t,v,u,k,l,m,o⟩:=Hv (n:=n) d p j q
   exact⟨t,v,u,k,l,m,r.trans o⟩
  ·exact .of j i (y _ ⟨.inr rfl,g,f⟩)
theorem oG{sz:Nat}:∀{es:List (List D)} {i j:Nat} {e:List D} {d:D},(∀e∈es,e.length=sz)→es[i]?=some e→e[j]?=some d→es.flatten[i*sz+j]?=some d
 |[],i,j,e,d,h,hi,a=>by simp at hi
 |f::es,0,j,e,d,h,hi,a=>by
  grind
 |f::es,i+1,j,e,d,h,hi,a=>by
  have b:=h f (Yz ..)
  rw[JA,YC (by rw[b,YX];omega),b,show(i+1)*sz+j-sz=i*sz+j from by rw[YX];omega]
  exact oG (fun e he=>h e (Yx _ he)) (by simpa using hi) a
mutual
theorem yW(u:CxOk C){γ:Ad→Nat}{H G:Hp}(B:Do (C.r γ) H G)(f:∀k,(H k).live=true→k.1=1∨(k.1=0∧k.2<C.outs)):∀(x:AV) {a:AT} {K:AV→AT→Prop},frz H x a K→∃y p,Fz G C.l (ren (C.r γ) x) (ren (C.r γ) y)∧(C.outs=0→∀r,ren r y=y)∧K y p
 |.d x,a,K,h=>⟨.d x,a,by simp only[ren];exact .keep _ rfl,fun _ r=>by simp[ren],h⟩
 |.e0,a,K,h=>⟨.d (.list []),a,by simp only[ren];exact .e0,fun _ r=>by simp[ren],h⟩
 |.agg xs,a,K,h=>by
  obtain⟨ys,p,o,N,A⟩:=Zv u B f xs h
  exact⟨.agg ys,p,by simp only[ren];exact .agg _ _ o.1 o.2,fun e r=>by simp only[ren];rw[N e r],A⟩
 |.ref k g off m,a,K,h=>by
  unfold frz at h
  split at h
  ·rename_i c hl
   have c:=Yb c
   have n:k.2<C.outs:=by
    rcases f k (Eb hl).2 with o|o
    ·omega
    grind
   obtain⟨F,b⟩:=k
   simp only at c n
   subst c
   exact⟨.ref (0,b) g off m,a,by simp only[ren];exact .keep _ (Yo (u.out b n)),fun e=>by omega,h⟩
  ·rename_i _ f hl
   split at h
   case h_2=>exact h.elim
   rename_i s p
   obtain⟨⟨o,A,L,O,P⟩,Q⟩:=h
   have f:=Yb f
   obtain⟨w,z,I,v,J⟩:=B.at hl
   obtain⟨F,b⟩:=k
   simp only at f
   subst f
   refine⟨.d (.list s),p,?_,fun _ r=>by simp[ren],Q⟩
   simp only[ren]
   rw[w]
   have E:(C.r γ).κ (1,b)=(C.l+1,b):=u.own b
   refine .ref _ off m s (by rw[E]) z o (by rw[v];exact A) (by rw[v];exact L) (by rw[v,J,Cu];exact O) (fun i j e d x hi R hx=>?_)
   have D:i<m:=by
    grind
   have S:j<(H (1,b)).sz:=by
    grind
   have T:=oG L hi R
   have n:i*(H (1,b)).sz+j<m*(H (1,b)).sz:=by
    have:(i+1)*(H (1,b)).sz≤m*(H (1,b)).sz:=Y2 _ D
    grind
   have M:(H (1,b)).cells[(off+i)*(H (1,b)).sz+j]?=some (.d d):=by
    have:=congrArg (fun l=>l[i*(H (1,b)).sz+j]?) P
    grind
   rw[v,J,HA,M]at hx
   simp only[YZ,ren,Yh]at hx
   subst hx
   exact .keep _ rfl
  grind
 |.top,a,K,h=>by simp only[frz]at h
 |.p _,a,K,h=>by simp only[frz]at h
 |.ptr _ _ _,a,K,h=>by simp only[frz]at h
 |.mp k g,a,K,h=>by
  unfold frz at h
  split at h
  ·rename_i c hl
   have c:=Yb c
   have n:k.2<C.outs:=by
    rcases f k (Eb hl).2 with o|o
    ·omega
    grind
   obtain⟨F,b⟩:=k
   simp only at c n
   subst c
   exact⟨.mp (0,b) g,a,by simp only[ren];exact .keep _ (Yo (u.out b n)),fun e=>by omega,h⟩
  ·rename_i q s _ f hl he
   have f:=Yb f
   obtain⟨w,z,I,_,_⟩:=B.at hl
   obtain⟨F,b⟩:=k
   simp only at f
   subst f
   refine⟨.d (.map q s),a,?_,fun _ r=>by simp[ren],h⟩
   simp only[ren]
   rw[w]
   have E:(C.r γ).κ (1,b)=(C.l+1,b):=u.own b
   exact .mp _ q s (by rw[E]) z (by rw[I,he])
  grind
 |.iptr _ _,a,K,h=>by simp only[frz]at h
 |.ifc t ds q,a,K,h=>⟨.ifc t ds q,a,by simp only[ren];exact .keep _ rfl,fun _ r=>by simp[ren],h⟩
 |.fn _ _ _,a,K,h=>by simp only[frz]at h
 |.tup _,a,K,h=>by simp only[frz]at h
theorem Zv(g:CxOk C){γ:Ad→Nat}{H c:Hp}(j:Do (C.r γ) H c)(l:∀k,(H k).live=true→k.1=1∨(k.1=0∧k.2<C.outs)):∀(xs:List AV) {a:AT} {K:List AV→AT→Prop},Jk H xs a K→
  ∃ys d,((Al (C.r γ) xs).length=(Al (C.r γ) ys).length∧∀(i:Nat) (x y:AV),(Al (C.r γ) xs)[i]?=some x→(Al (C.r γ) ys)[i]?=some y→Fz c C.l x y)∧(C.outs=0→∀r,Al r ys=ys)∧K ys d
 |[],a,K,h=>⟨[],a,⟨by simp[Al],fun i x y hx=>by simp[Al]at hx⟩,fun _ r=>by simp[Al],h⟩
 |x::xs,a,K,h=>by
  simp only[Jk]at h
  obtain⟨y,d,o,m,p⟩:=yW g j l x h
  obtain⟨ys,b,f,n,q⟩:=Zv g j l xs p
  refine⟨y::ys,b,⟨by simp[Al,f.1],fun i x' s hx hy=>?_⟩,fun e r=>by simp only[Al];rw[m e r,n e r],q⟩
  cases i with
  |zero=>simp only[Al,FO,Yh]at hx hy;subst hx;subst hy;exact o
  |succ i=>simp only[Al,K8]at hx hy;exact f.2 i x' s hx hy
end
theorem zw(o:A5 P T){γ:Ad→Nat}(n:RG (C.r γ) C.l C.outs [] τ σ){v:ResultVar}{K:AV→Prop}(h:cS T τ v K):∃x,K x∧∀m (f:List AV→Prop),Er P σ m (fun xs=>f (ren (C.r γ) x::xs))→Er P σ (v::m) f:=by
 cases v with
 |tmp t=>exact⟨_,h,fun m f j=>by unfold Er;rw[(n.s t).1 A3];exact j⟩
 |cell p t=>
  simp only[cS]at h
  split at h
  case h_2=>exact h.elim
  rename_i k g off i w hi
  have l:σ.s p=ren (C.r γ) (.ptr k g off):=by rw[(n.s p).1 A3,w]
  split at h
  ·rename_i hl d
   split at h
   case h_2=>exact h.elim
   rename_i c r s
   refine⟨_,h,fun m f j=>?_⟩
   have:=Zk (a:=.go .nil) (g:=none) (K:=fun v _=>v=.agg c) (o _ _ hi) n.h (fun b e=>by cases e) (x:=.ptr k g off) (by simp only[MV,hl,d,r,s])
   unfold Er
   rw[l]
   refine ZO (fun y hy=>?_) this
   obtain⟨v,q,rfl,rfl⟩:=hy
   exact j
  ·rename_i hl d
   split at h
   case h_2=>exact h.elim
   rename_i c u
   refine⟨_,h,fun m f j=>?_⟩
   have:=Zk (a:=.go .nil) (g:=none) (K:=fun v _=>v=c) (o _ _ hi) n.h (fun b e=>by cases e) (x:=.ptr k g off) (by simp only[MV,hl,d,u])
   unfold Er
   rw[l]
   refine ZO (fun y hy=>?_) this
   obtain⟨v,q,rfl,rfl⟩:=hy
   exact j
  grind
theorem lU(e:A5 P T){γ:Ad→Nat}(d:RG (C.r γ) C.l C.outs [] τ σ):∀(b:List ResultVar) {K:List AV→Prop},WO T τ b K→∃xs,K xs∧∀a:List AV→Prop,a (Al (C.r γ) xs)→Er P σ b a
 |[],K,h=>⟨[],h,fun a c=>by unfold Er;simpa[Al]using c⟩
 |v::b,K,h=>by
  obtain⟨x,f,g⟩:=zw e d h
  obtain⟨xs,i,j⟩:=lU e d b f
  exact⟨x::xs,i,fun a c=>g b a (j _ (by simpa[Al]using c))⟩
structure OutsOk (C:Cx) (γ:Ad→Nat) (bs:List Blk) (H':Hp):Prop where
 len:bs.length=C.outs
 g:∀i b,bs[i]?=some b→(H' (C.κ (0,i))).g=γ (0,i)+b.g
 live:∀i b,bs[i]?=some b→b.live=true→H' (C.κ (0,i))=AE (C.r γ) (0,i) b
 o:∀k:Ad,¬C.no k→H' k=C.H0 k
theorem ag{H:Hp}:∀(n i j:Nat),(IR H n i)[j]?=if j<n then some (H (0,i+j))else none
 |0,i,j=>by simp[IR]
 |n+1,i,0=>by simp[IR]
 |n+1,i,j+1=>by
  simp only[IR,K8,ag n (i+1) j]
  grind
theorem mD{H:Hp}:∀(n i:Nat),(IR H n i).length=n
 |0,i=>rfl
 |n+1,i=>by simp[IR,mD n]
theorem rT(l:CxOk C)(F:A5 P T){o:List ResultVar}{LPost:AV→List Blk→Prop}{d:AV→Hp→Prop}{e:Exit}(J:∀γ y s q,C.G γ→LPost y s→OutsOk C γ s q→(C.outs=0→∀r,ren r y=y)→d (ren (C.r γ) y) q)
  (h:Is n C (FQ T o C.outs LPost e) σ):∃f,fins P C.l C.H0 o d e f∧Wk n C σ f:=by
 obtain⟨γ,τ,f,H,⟨z,a,A⟩,j,K⟩:=h
 refine⟨f,⟨z,?_⟩,K⟩
 obtain⟨xs,B,D⟩:=lU (P:=P) F j o A
 obtain⟨ys,L,g,w,E⟩:=Zv l j.h j.k xs B
 refine D _ ⟨ren (C.r γ) (Dn ys),?_,?_⟩
 ·have hl:=g.1
  have g:=g.2
  have v:ren (C.r γ) (Dn ys)=Dn (Al (C.r γ) ys):=by
   match ys with
   |[]=>simp[Dn,ren,Al]
   |[y]=>simp[Dn,Al]
   |y::t::ys=>simp[Dn,ren,Al]
  rw[v]
  generalize Al (C.r γ) ys=p at hl g
  generalize Al (C.r γ) xs=u at hl g
  match u,p,hl with
  |[],[],_=>exact .tup _ _ rfl fun i x y hx=>by simp at hx
  |[x],[y],_=>exact g 0 x y rfl rfl
  |x::x'::u,y::t::ys,hl=>exact .tup _ _ hl g
 ·refine J γ _ _ _ H E ⟨mD _ _,fun i b hi=>?_,fun i b hi G=>?_,fun k I=>?_⟩ (fun e r=>?_)
  ·rw[ag]at hi
   split at hi
   ·rename_i c
    simp only[YP,Yh]at hi
    subst hi
    rw[show Im C.l f.H C.H0 (C.κ (0,i))=f.H (C.κ (0,i))from Yk (l.out i c)]
    exact j.go i c
   grind
  ·rw[ag]at hi
   split at hi
   ·rename_i c
    simp only[YP,Yh]at hi
    subst hi
    rw[show Im C.l f.H C.H0 (C.κ (0,i))=f.H (C.κ (0,i))from Yk (l.out i c)]
    exact j.h _ G
   grind
  ·unfold Im
   split
   ·rename_i m;exact j.o k m I
   ·rfl
  ·have:=w e r
   match ys with
   |[]=>simp[Dn,ren,Al]
   |[y]=>simp only[Al,List.cons.injEq,Lg]at this;simpa[Dn]using this
   |y::t::ys=>simp only[Dn,ren,this]
def Ds:Nat→List AV→List (Nat×AV)
 |_,[]=>[]
 |i,x::xs=>(i,x)::Ds (i+1) xs
theorem ob{r:Ren}:∀(ys:List AV) (i j:Nat),ren r (Av (Ds i ys) (i+j))=args (Al r ys) j
 |[],i,j=>by simp[Ds,Av,ren,Al,args]
 |y::ys,i,0=>by simp[Ds,Av,Al,args]
 |y::ys,i,j+1=>by
  have a:=ob (r:=r) ys (i+1) j
  simp only[Ds,Av]
  split
  ·rename_i h;have:=Yb h;omega
  ·rw[show i+(j+1)=i+1+j from by omega,a]
   simp[args,Al]
theorem nk{f:FuncId}{fn:Func}(z:List ResultVar){c:Code}{l:Nat}{xs:List AV}{H:Hp}{a:AV→Hp→Prop}{LPost:AV→List Blk→Prop}(C:Base→Cx){γ:Ad→Nat}{ys:List AV}{hs:List (Ad×Blk)}
  (O:P.funcs[f]?=some fn) (N:fn.body=some c) (g:(fn.name== "runtime.NumGoroutine")=false) (v:fn.ntmps=n) (W:fn.results.toList=z) (hx:xs.length≤n) (M:A5 P T)
  (u:∀B,CxOk (C B)) (I:∀B,(C B).l=l∧(C B).B=B∧(C B).H0=H∧(C B).G γ) (x:∀B,Al ((C B).r γ) ys=xs) (X:∀d,γ (1,d)=0) (S:∀d,Ax hs (1,d)=EU)
  (b:∀B k,(Ax hs k).live=true→k.1=0∧k.2<(C B).outs∧H ((C B).κ k)=AE ((C B).r γ) k (Ax hs k)) (R:∀B i,i<(C B).outs→(H ((C B).κ (0,i))).g=γ (0,i)+(Ax hs (0,i)).g)
  (U:∀B γ y E D,(C B).G γ→LPost y E→OutsOk (C B) γ E D→((C B).outs=0→∀r,ren r y=y)→a (ren ((C B).r γ) y) D)
  (h:∀B:Base,LW P n (C B) c (Ac (Ds 0 ys) hs) (FQ T z (C B).outs LPost)):Zcu P f l xs H a:=by
 refine ZvF z O N g v W hx fun B=>?_
 obtain⟨hl,t,s,Q⟩:=I B
 have J:RG ((C B).r γ) (C B).l (C B).outs [] (Ac (Ds 0 ys) hs) ⟨args xs,Db l H⟩:=by
  refine⟨fun j=>⟨fun _=>?_,fun v=>absurd A3 v⟩,fun k m=>?_,fun d=>?_,fun i hi=>?_,fun k m=>.inr ⟨(b B k m).1,(b B k m).2.1⟩,fun k m _=>?_⟩
  ·have:=ob (r:=(C B).r γ) ys 0 j
   rw[YP,x]at this
   exact this.symm
  ·obtain⟨p,q,F⟩:=b B k m
   show Db l H ((C B).κ k)=_
   obtain⟨Z,k2⟩:=k
   simp only at p q
   subst p
   rw[be (by rw[←hl];exact(u B).out _ q)]
   exact F
  ·show(Db l H ((C B).l+1,d)).g=γ (1,d)+(Ax hs (1,d)).g
   rw[hl,su,X,S]
   rfl
  ·show(Db l H ((C B).κ (0,i))).g=γ (0,i)+(Ax hs (0,i)).g
   rw[be (by rw[←hl];exact(u B).out _ hi)]
   grind
  ·show Db l H k=(C B).H0 k
   rw[s]
   exact be (by rw[←hl];exact m)
 have:=h B γ _ Q J
 intro o w K
 rw[hl,t]at this
 refine wp_mono (this o w K) fun e G w' ⟨σ',V,L⟩=>?_
 obtain⟨A,p,q⟩:=rT (P:=P) (u B) M (U B) V
 rw[hl,s]at p
 have F:=q o w
 refine⟨A,p,?_⟩
 have Y:=q G w'
 grind
end
end Go.Eng
namespace Go.Eng
set_option linter.all false
open Go Go.RowKit
def Ar:List (Nat×TI)→Nat→Option TI
 |[],_=>none
 |(i,x)::r,j=>match Nat.beq i j with|true=>some x|false=>Ar r j
theorem oT{P:Program}:∀(tl:List (Nat×TI)),(∀p∈tl,TIok P p.1 p.2)→A5 P (Ar tl)
 |[],_,t,i,h=>by simp[Ar]at h
 |(j,x)::r,b,t,i,h=>by
  simp only[Ar]at h
  split at h
  ·rename_i he
   have he:=Yb he
   cases h
   subst he
   exact b _ (Yz ..)
  ·exact oT r (fun p a=>b p (Yx _ a)) t i h
theorem TIok.of{P:Program}{t:TypeId}{i:TI}(f:Dt P t=some i.agg)(k:Go.Eng.kin P t=i.kin)(m:P.cellsOf t=i.siz)(n:i.elm=none∨Go.Eng.elm P t=i.elm)
  (o:((List.range i.fld.length).map fun j=>(Go.Eng.fld P t j,LP P t j))=i.fld.map fun x=>(some (x.1,x.2.1),some x)) (p:i.zer=none∨Go.Eng.zer P t=i.zer) (q:i.eqt=none∨MZ P t=i.eqt) (r:i.str=false∨LJ P t=true)
  (s:i.ik=none∨P.underlying t=i.ik.map .int) (g:i.byt=none∨(∃b,P.bytesOf t≤b∧P.bytesOf t≠0∧i.byt=some b)) (c:i.zer=none∨(i.zer.getD []).all AV.flat=true) (d:i.mp=none∨Li P t=i.mp:=by first|exact .inl rfl|exact .inr (by kernel_rfl)):TIok P t i where
 agg:=f
 kin:=k
 siz:=m
 elm:=fun e h=>by rcases n with a|a<;>rw[h]at a<;>first|exact a|cases a
 fld:=fun j x h=>by
  have:=congrArg (fun l=>l[j]?) o
  grind
 zer:=fun e h=>by rcases p with a|a<;>rw[h]at a<;>first|exact a|cases a
 eqt:=fun e h=>by rcases q with a|a<;>rw[h]at a<;>first|exact a|cases a
 str:=fun h=>by rcases r with a|a<;>first|exact a|(rw[h]at a;cases a)
 ik:=fun e h=>by rcases s with a|a<;>rw[h]at a<;>first|exact a|cases a
 byt:=fun e h=>by
  grind
 mp:=fun z h=>by rcases d with a|a<;>rw[h]at a<;>first|exact a|cases a
 flt:=fun z h=>by rcases c with a|a<;>rw[h]at a<;>first|exact a|cases a
def Up(l:Nat)(θ:Nat→AV)(H:Hp)(B:Base):Cx:=⟨l,B,fun k=>(l+1,k.2),θ,H,0,fun _=>False,[],fun _=>True⟩
theorem mh(l:Nat)(B:Base)(θ:Nat→AV)(H:Hp):CxOk (Up l θ H B):=⟨fun _=>rfl,fun i h=>absurd h (Y0 _),fun i j h=>absurd h (Y0 _),fun _ h=>h.elim,fun _ _ _ h=>h⟩
theorem Zuu{l:Nat}{θ:Nat→AV}{H:Hp}{B:Base}{γ:Ad→Nat}{b:List Blk}{a:Hp}(h:OutsOk (Up l θ H B) γ b a):a=H:=funext fun k=>h.o k id
end Go.Eng
namespace Go.Eng
structure Raw where
 num:Int
 wire:Int
 bits:Int
 data:ByteArray
deriving Inhabited,DecidableEq
mutual
inductive Val where
 |mk (kind bits:Int) (text:ByteArray) (list:List Val) (pairs:List Pr) (slots:List Slt) (raws:List Raw)
inductive Pr where
 |mk (key val:Val)
inductive Slt where
 |mk (num:Int) (val:Val)
end
inductive Msk where
 |mk (num:Int) (subs:List Msk)
instance:Inhabited Val:=⟨.mk 0 0 .empty [] [] [] []⟩
instance:Inhabited Pr:=⟨.mk default default⟩
instance:Inhabited Slt:=⟨.mk 0 default⟩
instance:Inhabited Msk:=⟨.mk 0 []⟩
def Val.kind:Val→Int|.mk k _ _ _ _ _ _=>k
def Val.bits:Val→Int|.mk _ b _ _ _ _ _=>b
def Val.text:Val→ByteArray|.mk _ _ t _ _ _ _=>t
def Val.list:Val→List Val|.mk _ _ _ l _ _ _=>l
def Val.pairs:Val→List Pr|.mk _ _ _ _ p _ _=>p
def Val.slots:Val→List Slt|.mk _ _ _ _ _ s _=>s
def Val.raws:Val→List Raw|.mk _ _ _ _ _ _ r=>r
def Pr.key:Pr→Val|.mk k _=>k
def Pr.val:Pr→Val|.mk _ v=>v
def Slt.num:Slt→Int|.mk n _=>n
def Slt.val:Slt→Val|.mk _ v=>v
def Msk.num:Msk→Int|.mk n _=>n
def Msk.subs:Msk→List Msk|.mk _ s=>s
def AZ(s:ByteArray):List D:=[.str s]
def wh(s:Int):List D:=[.int .i64 s]
def AK(s:Bool):List D:=[.bool s]
def AA(x:Raw):List D:=[.int .i64 x.num,.int .i64 x.wire,.int .u64 x.bits,.str x.data]
mutual
def AJ:Val→List D
 |.mk k b t l p s r=>[.int .i64 k,.int .u64 b,.str t,.list (MT l),.list (LG p),.list (MQ s),.list (r.map AA)]
def MT:List Val→List (List D)
 |[]=>[]
 |v::vs=>AJ v::MT vs
def Ap:Pr→List D
 |.mk k v=>AJ k++AJ v
def LG:List Pr→List (List D)
 |[]=>[]
 |v::vs=>Ap v::LG vs
def Ao:Slt→List D
 |.mk n v=>.int .i64 n::AJ v
def MQ:List Slt→List (List D)
 |[]=>[]
 |v::vs=>Ao v::MQ vs
end
mutual
def NM:Msk→List D
 |.mk n s=>[.int .i64 n,.list (T7 s)]
def T7:List Msk→List (List D)
 |[]=>[]
 |v::vs=>NM v::T7 vs
end
theorem zG(l:List Val):MT l=l.map AJ:=by induction l with|nil=>rfl|cons v l a=>simp[MT,a]
theorem Zt0(l:List Pr):LG l=l.map Ap:=by induction l with|nil=>rfl|cons v l a=>simp[LG,a]
theorem z7(l:List Slt):MQ l=l.map Ao:=by induction l with|nil=>rfl|cons v l a=>simp[MQ,a]
theorem zi(l:List Msk):T7 l=l.map NM:=by induction l with|nil=>rfl|cons v l a=>simp[T7,a]
def Ah(x:Val):List D:=[.int .i64 x.kind,.int .u64 x.bits,.str x.text,.list (x.list.map AJ),.list (x.pairs.map Ap),.list (x.slots.map Ao),.list (x.raws.map AA)]
def CD(x:Pr):List D:=[.int .i64 x.key.kind,.int .u64 x.key.bits,.str x.key.text,.list (x.key.list.map AJ),.list (x.key.pairs.map Ap),.list (x.key.slots.map Ao),.list (x.key.raws.map AA),.int .i64 x.val.kind,.int .u64 x.val.bits,.str x.val.text,.list (x.val.list.map AJ),.list (x.val.pairs.map Ap),.list (x.val.slots.map Ao),.list (x.val.raws.map AA)]
def BF(x:Slt):List D:=[.int .i64 x.num,.int .i64 x.val.kind,.int .u64 x.val.bits,.str x.val.text,.list (x.val.list.map AJ),.list (x.val.pairs.map Ap),.list (x.val.slots.map Ao),.list (x.val.raws.map AA)]
def kM(x:Msk):List D:=[.int .i64 x.num,.list (x.subs.map NM)]
theorem F2(v:Val):AJ v=Ah v:=by
 cases v;simp[AJ,Ah,zG,Zt0,z7,Val.kind,Val.bits,Val.text,Val.list,Val.pairs,Val.slots,Val.raws]
theorem Ka(v:Pr):Ap v=CD v:=by cases v;simp[Ap,F2,Ah,CD,Pr.key,Pr.val]
theorem J5(v:Slt):Ao v=BF v:=by cases v;simp[Ao,F2,Ah,BF,Slt.num,Slt.val]
theorem ZJE(v:Msk):NM v=kM v:=by cases v;simp[NM,kM,zi,Msk.num,Msk.subs]
structure Typ where
 kind:Int
 name:ByteArray
deriving Inhabited,DecidableEq
def DY(x:Typ):List D:=[.int .i64 x.kind,.str x.name]
structure Nt where
 name:ByteArray
 val:Val
deriving Inhabited
def B3(x:Nt):List D:=[.str x.name,.int .i64 x.val.kind,.int .u64 x.val.bits,.str x.val.text,.list (x.val.list.map AJ),.list (x.val.pairs.map Ap),.list (x.val.slots.map Ao),.list (x.val.raws.map AA)]
structure Fld where
 num:Int
 name:ByteArray
 card:Int
 key:Int
 type:Typ
 union:ByteArray
 hasDefault:Bool
 dflt:Val
 notes:List Nt
deriving Inhabited
def Au(x:Fld):List D:=[.int .i64 x.num,.str x.name,.int .i64 x.card,.int .i64 x.key,.int .i64 x.type.kind,.str x.type.name,.str x.union,.bool x.hasDefault,.int .i64 x.dflt.kind,.int .u64 x.dflt.bits,.str x.dflt.text,.list (x.dflt.list.map AJ),.list (x.dflt.pairs.map Ap),.list (x.dflt.slots.map Ao),.list (x.dflt.raws.map AA),.list (x.notes.map B3)]
structure Spn where
 lo:Int
 hi:Int
deriving Inhabited,DecidableEq
def Cq(x:Spn):List D:=[.int .i64 x.lo,.int .i64 x.hi]
structure By where
 b:UInt8
deriving Inhabited,DecidableEq
def By.v(x:By):Int:=x.b.toNat
def eBy(x:By):List D:=[.int .u8 x.v]
structure Msg where
 name:ByteArray
 fields:List Fld
 reserved:List Spn
 gone:List ByteArray
 notes:List Nt
deriving Inhabited
def AO(x:Msg):List D:=[.str x.name,.list (x.fields.map Au),.list (x.reserved.map Cq),.list (x.gone.map AZ),.list (x.notes.map B3)]
structure Itm where
 name:ByteArray
 num:Int
 notes:List Nt
deriving Inhabited
def CK(x:Itm):List D:=[.str x.name,.int .i64 x.num,.list (x.notes.map B3)]
structure Enm where
 name:ByteArray
 opn:Bool
 items:List Itm
 reserved:List Spn
 notes:List Nt
deriving Inhabited
def BO(x:Enm):List D:=[.str x.name,.bool x.opn,.list (x.items.map CK),.list (x.reserved.map Cq),.list (x.notes.map B3)]
structure Mth where
 name:ByteArray
 inn:ByteArray
 out:ByteArray
 shape:Int
 notes:List Nt
deriving Inhabited
def G4(x:Mth):List D:=[.str x.name,.str x.inn,.str x.out,.int .i64 x.shape,.list (x.notes.map B3)]
structure Svc where
 name:ByteArray
 methods:List Mth
 notes:List Nt
deriving Inhabited
def C8(x:Svc):List D:=[.str x.name,.list (x.methods.map G4),.list (x.notes.map B3)]
structure Scm where
 messages:List Msg
 enums:List Enm
 services:List Svc
deriving Inhabited
def At(x:Scm):List D:=[.list (x.messages.map AO),.list (x.enums.map BO),.list (x.services.map C8)]
structure Fil where
 name:ByteArray
 space:ByteArray
 imports:List ByteArray
 messages:List Msg
 enums:List Enm
 services:List Svc
deriving Inhabited
def ZNc(x:Fil):List D:=[.str x.name,.str x.space,.list (x.imports.map AZ),.list (x.messages.map AO),.list (x.enums.map BO),.list (x.services.map C8)]
structure Prb where
 dfn:ByteArray
 num:Int
 err:Int
deriving Inhabited,DecidableEq
def Ai(x:Prb):List D:=[.str x.dfn,.int .i64 x.num,.int .i64 x.err]
structure Stp where
 num:Int
 pos:Int
 hasKey:Bool
 key:Val
deriving Inhabited
structure Edt where
 path:List Stp
 kind:Int
 val:Val
deriving Inhabited
class Mv (V:Type) where
 q:Bool
 e:V→List D
 z:V
def Dz{V:Type}[Mv V](p:ByteArray×V):List D:=.str p.1::Mv.e p.2
instance:Mv (List Int):=⟨false,fun x=>[.list (x.map wh)],[]⟩
instance (V:Type) [Mv V]:Mv (List (ByteArray×V)):=⟨false,fun m=>[.map (Mv.q V) (m.map Dz)],[]⟩
structure Web where
 messages:List (ByteArray×Msg)
 enums:List (ByteArray×Bool)
deriving Inhabited
structure Lst where
 dfn:ByteArray
 l:List Prb
deriving Inhabited
structure Acs where
 m:Msg
 s:Scm
deriving Inhabited
structure Nod where
 kind:Int
 bits:Int
 text:ByteArray
 list:Int
 pairs:Int
 slots:Int
 raws:Int
deriving Inhabited,DecidableEq
def wt(x:Nod):List D:=[.int .i64 x.kind,.int .u64 x.bits,.str x.text,.int .i64 x.list,.int .i64 x.pairs,.int .i64 x.slots,.int .i64 x.raws]
structure Lnk where
 files:List Fil
 f:Fil
 known:List ByteArray
 messages:List ByteArray
 enums:List Enm
deriving Inhabited
def wN:Raw:=⟨0,0,0,⟨#[]⟩⟩
def LN:Val:=.mk 0 0 ⟨#[]⟩ [] [] [] []
def zPr:Pr:=.mk LN LN
def wZ:Slt:=.mk 0 LN
def ZNb:Msk:=.mk 0 []
def wG:Typ:=⟨0,⟨#[]⟩⟩
def zNt:Nt:=⟨⟨#[]⟩,LN⟩
def wF:Fld:=⟨0,⟨#[]⟩,0,0,wG,⟨#[]⟩,false,LN,[]⟩
def w9:Spn:=⟨0,0⟩
def zBy:By:=⟨0⟩
def xx:Msg:=⟨⟨#[]⟩,[],[],[],[]⟩
def wz:Itm:=⟨⟨#[]⟩,0,[]⟩
def xu:Enm:=⟨⟨#[]⟩,false,[],[],[]⟩
def xe:Mth:=⟨⟨#[]⟩,⟨#[]⟩,⟨#[]⟩,0,[]⟩
def wW:Svc:=⟨⟨#[]⟩,[],[]⟩
def ZNa:Fil:=⟨⟨#[]⟩,⟨#[]⟩,[],[],[],[]⟩
def wd:Prb:=⟨⟨#[]⟩,0,0⟩
end Go.Eng
namespace Go.Eng
set_option linter.all false
open Go Go.RowKit
def Ih:List Nat→Code→Code
 |[],c=>c
 |0::p,.seq a _=>Ih p a
 |_::p,.seq _ b=>Ih p b
 |0::p,.cond _ a _=>Ih p a
 |_::p,.cond _ _ b=>Ih p b
 |_::p,.block _ c=>Ih p c
 |_::p,.loop c=>Ih p c
 |_::p,.scope c=>Ih p c
 |_,c=>c
def As(f:Func):Code:=f.body.getD .skip
def Aa{α:Type}(e:α→List D)(xs:List α):List AV:=((xs.map e).flatten).map .d
theorem EI{α:Type}(e:α→List D)(xs:List α):HN (Aa e xs):=fun x hx=>by
 obtain⟨d,_,rfl⟩:=YT.1 hx;rfl
theorem Hx{α:Type}{e:α→List D}{sz:Nat}(he:∀x,(e x).length=sz)(xs:List α):(Aa e xs).length=xs.length*sz:=by
 unfold Aa
 induction xs with
 |nil=>simp
 |cons x xs a=>simp only[YE,YR,JA,Yt,he,D7,YX]at a⊢;omega
theorem Sh{α:Type}(e:α→List D)(xs ys:List α):Aa e (xs++ys)=Aa e xs++Aa e ys:=by simp[Aa]
section
variable {P:Program} {n:Nat} {C:Cx} {τ:St} {Q:Exit→St→Prop}
theorem zz{c:Code}(id:Nat)(x:Code)(b:c=.block id x)(h:LW P n C x τ (fun e τ'=>match e with|.exit i=>(match Nat.beq i id with|true=>Q .normal τ'|false=>Q (.exit i) τ')|e=>Q e τ')):LW P n C c τ Q:=b▸ZvN (h.mono fun e τ' a=>by
 cases e with
 |exit i=>
  simp only at a⊢
  split at a
  ·rename_i he;rw[Yk (Yb he)];exact a
  ·rename_i he;rw[Yi (by rintro rfl;simp at he)];exact a
 |_=>exact a)
end
theorem yq{P:Program}{T:Nat→Option TI}{n:Nat}{f:FuncId}{fn:Func}(e:List ResultVar)(c:Code){l:Nat}{xs:List AV}{H:Hp}{a:AV→Hp→Prop}(θ:Nat→AV)(ys:List AV)
  (j:P.funcs[f]?=some fn) (hb:fn.body=some c) (b:(fn.name== "runtime.NumGoroutine")=false) (o:fn.ntmps=n) (r:fn.results.toList=e) (hx:xs.length≤n) (g:A5 P T)
  (d:Al ⟨fun k=>(l+1,k.2),fun _=>0,θ,H,fun _=>False⟩ ys=xs) (h:∀B:Base,LW P n (Up l θ H B) c (Ac (Ds 0 ys) []) (FQ T e 0 (fun y _=>a y H))):Zcu P f l xs H a:=
 nk e (Up l θ H) (γ:=fun _=>0) (LPost:=fun y _=>a y H) j hb b o r hx g (fun B=>mh l B θ H) (fun B=>⟨rfl,rfl,rfl,trivial⟩) (fun B=>d) (fun _=>rfl) (fun _=>rfl) (fun B k m=>by simp[Ax,EU]at m) (fun B i hi=>absurd hi (Y0 _))
  (fun B γ y t s _ q p hy=>by rw[hy rfl,Zuu p];exact q) h
theorem se{α:Type}(e:α→List D)(xs:List α):Bz ((xs.map e).length:Nat) xs.length:=by simp[Bz]
theorem ow{α:Type}{e e':α→List D}{xs:List α}{i:Nat}{x:α}(hx:xs[i]?=some x)(he:∀x,e x=e' x):Je (xs.map e) (i:Nat) (e' x):=⟨by omega,by simp[hx,he]⟩
theorem rE{α:Type}{e e':α→List D}{xs:List α}{i:Nat}{z:α}(hi:i<xs.length)(he:∀x,e x=e' x):Je (xs.map e) (i:Nat) (e' (xs.getD i z)):=by
 refine ow ?_ he
 grind
theorem bg{a r:Int}(h:a=r)(b: -9223372036854775808≤r)(c:r<9223372036854775808):Ci .i64 a r:=by
 subst h;exact IntWalk.i64_in _ ⟨b,by omega⟩
theorem uf{i len sz:Nat}(h:i<len):Lt (i:Nat) len 0 sz (i*sz):=⟨by omega,by omega,by simp⟩
theorem Zv8{sz:Nat}{e:List D}(C:List AV)(he:e.length=sz):FD sz C (.d (.list [e])) 1 (e.map .d):=by
 refine⟨Ys.2 fun x hx=>?_,fun q a=>?_,rfl,by simp⟩
 ·obtain⟨d,_,rfl⟩:=YT.1 hx;rfl
 grind
theorem ZG{α:Type}{sz:Nat}{e:α→List D}(C:List AV)(xs:List α)(he:∀x,(e x).length=sz):FD sz C (.d (.list (xs.map e))) xs.length (Aa e xs):=by
 refine⟨Ys.2 fun x hx=>?_,fun q a=>?_,by simp,rfl⟩
 ·obtain⟨d,_,rfl⟩:=YT.1 hx;rfl
 grind
theorem ZuH{α:Type}{sz byt:Nat}{e:α→List D}(xs ys:List α){a:Nat}(he:∀x,(e x).length=sz)(b:xs.length+ys.length=a)(hb:a*byt≤140737488355328):
  Lx (Aa e xs) 0 xs.length ys.length sz byt (Aa e ys) (Aa e (xs++ys)) a:=
 ⟨by rw[Hx he,YP],by rw[Nr,Hl,Sh],b,hb⟩
theorem ZuQ{α:Type}(e:α→List D)(x:α):Aa e [x]=(e x).map .d:=by simp[Aa]
theorem aJ{α:Type}{sz:Nat}{e:α→List D}(xs:List α)(b:sz≠0)(he:∀x,(e x).length=sz):Hi (Aa e xs) 0 xs.length sz (xs.map e):=
 ⟨by simp,b,fun q a=>by obtain⟨x,_,rfl⟩:=YT.1 a;exact he x,by rw[Hx he];simp,by rw[Nr,Hl,←Hx he xs,P6];rfl⟩
theorem m9{α:Type}{e e':α→List D}{xs:List α}{i:Int}{z:α}(a:0≤i)(hi:i<xs.length)(he:∀x,e x=e' x):Je (xs.map e) i (e' (xs.getD i.toNat z)):=by
 have h:=rE (e:=e) (e':=e') (xs:=xs) (i:=i.toNat) (z:=z) (by omega) he
 grind
theorem vW(s:ByteArray):s.data.toList.length=s.size:=by simp
theorem sr{s:ByteArray}{i:Nat}{x:UInt8}(h:s.data.toList[i]?=some x):I8 s (i:Nat) (x.toNat:Nat):=⟨by omega,x,by simpa using h,rfl⟩
theorem n9{s:ByteArray}{i:Nat}(h:i<s.size):I8 s (i:Nat) ((s.data.toList.getD i 0).toNat:Nat):=by
 refine sr ?_
 rw[Yj,Ya (by rw[vW];exact h)];rfl
theorem ZN{α:Type}{sz byt c:Nat}{e:α→List D}{news:List AV}(xs ys:List α)(he:∀x,(e x).length=sz)(a:ys.length=c)(b:news=Aa e ys)(hb:(xs.length+ys.length)*byt≤140737488355328):
  Lx (Aa e xs) 0 xs.length c sz byt news (Aa e (xs++ys)) (xs++ys).length:=by
 subst a;subst b
 exact ZuH xs ys he (by rw[Yt]) (by rw[Yt];exact hb)
section
variable {P:Program} {l:Nat} {r:Ren} {f:FuncId} {xs xs':List AV} {hb:List (Ad×Blk)} {x x':AV}
def BV(P:Program)(l:Nat)(no:Ad→Prop)(H:Hp)(c:AV)(e:List AV)(y:AV):Prop:=
 ∃f first a,c=.fn (.func f) first a∧∀l' b,l≤l'→(∀k:Ad,k.1≤l→¬no k→b k=H k)→Zcu P f l' (first++e++a) b (fun g d=>g=y∧d=b)
theorem Zua{i:Nat}{c:AV}(j:r.θ i=c)(h:BV P l r.no r.H0 c xs' x')(d:Al r xs=xs')(e:ren r x=x'):MG P l r i xs hb x:=by
 obtain⟨f,first,a,rfl,h⟩:=h
 exact⟨f,first,a,j,fun b _ g=>by rw[d,e];exact h (l+1) b (Nat.le_succ l) g⟩
theorem ZtO{H:Hp}{no:Ad→Prop}{c:List AV}{y:AV}(h:∀l' a,Zcu P f l' c a (fun d b=>d=y∧b=a)):BV P l no H (.fn (.func f) [] []) c y:=
 ⟨f,[],[],rfl,fun l' a _ _=>by simpa using h l' a⟩
end
section
variable {P:Program} {T:Nat→Option TI} {n:Nat} {C:Cx} {τ:St} {Q:Exit→St→Prop}
theorem ZyN(g:CxOk C)(k:A5 P T)(hm:P.follows .mixedOrders=true){os:Nat}{fx:List Nat}(d:C.outs=os)(i:C.fx=fx){c:Code}(a:AT)(lf e:Lf)(f:List ResultVar){b:AV→List Blk→Prop}(q:Ren→(Exit→St→Prop)→(AV→List Blk→Prop)→Prop)
  (l:∀r Q b,Cw P T C.l n os r c a τ (KB T f os fx r b lf e Q)=q r Q b) (j:∀τ,FQ T f os b .ret τ→Q .ret τ) (h:∀r,r.θ=C.θ→r.H0=C.H0→r.κ=C.κ→r.no=C.no→q r Q b):LW P n C c τ Q:=
 tz g k hm a lf e (by rw[d];exact j) (fun γ=>by rw[d,i,l];exact h _ rfl rfl rfl rfl)
theorem Zy2(e:CxOk C)(g:A5 P T)(hm:P.follows .mixedOrders=true){os:Nat}(f:C.outs=os){c:Code}(a:AT)(d:List ResultVar){b:AV→List Blk→Prop}(q:Ren→(AV→List Blk→Prop)→Prop)
  (i:∀r b,Cw P T C.l n os r c a τ (KF T d os b)=q r b) (h:∀r,r.θ=C.θ→r.H0=C.H0→r.κ=C.κ→r.no=C.no→q r b):LW P n C c τ (FQ T d os b):=by
 subst f
 exact sK e g hm a (fun γ=>by rw[i];exact h _ rfl rfl rfl rfl)
mutual
theorem Zt8{H:Hp}:∀(x:AV) {a:AT} {K c:AV→AT→Prop},(∀y a,K y a→c y a)→frz H x a K→frz H x a c
 |.d x,a,K,c,b,h=>b _ _ h
 |.e0,a,K,c,b,h=>b _ _ h
 |.agg xs,a,K,c,b,h=>mc xs (fun ys a h=>b _ _ h) h
 |.ref k g off m,a,K,c,b,h=>by
  unfold frz at h⊢
  grind
 |.top,a,K,c,b,h=>by simp only[frz]at h
 |.p _,a,K,c,b,h=>by simp only[frz]at h
 |.ptr _ _ _,a,K,c,b,h=>by simp only[frz]at h
 |.mp k g,a,K,c,b,h=>by
  unfold frz at h⊢
  grind
 |.iptr _ _,a,K,c,b,h=>by simp only[frz]at h
 |.ifc _ _ _,a,K,c,b,h=>b _ _ h
 |.fn _ _ _,a,K,c,b,h=>by simp only[frz]at h
 |.tup _,a,K,c,b,h=>by simp only[frz]at h
theorem mc{H:Hp}:∀(xs:List AV) {a:AT} {K b:List AV→AT→Prop},(∀y a,K y a→b y a)→Jk H xs a K→Jk H xs a b
 |[],a,K,b,c,h=>c _ _ h
 |x::xs,a,K,b,c,h=>by
  simp only[Jk]at h⊢
  exact Zt8 x (fun y a h=>mc xs (fun ys a h=>c _ _ h) h) h
end
end
end Go.Eng
