import Derived.Test.YtopncadjpnkjhaaGreatDoorZg07
import Derived.Test.YtopncadjpnkjhaaGreatDoorZg00
namespace Go.Eng
set_option linter.all false
open Go Go.RowKit
def KF(T:Nat→Option TI)(c:List ResultVar)(os:Nat)(b:AV→List Blk→Prop):Exit→St→AT→Prop
 |.normal,τ,a=>LR T c os τ a b
 |.ret,τ,a=>LR T c os τ a b
 |_,_,_=>False
def KB(T:Nat→Option TI)(d:List ResultVar)(os:Nat)(fx:List Nat)(r:Ren)(b:AV→List Blk→Prop)(lf c:Lf)(Q:Exit→St→Prop):Exit→St→AT→Prop
 |.ret,τ,a=>LR T d os τ a b
 |.normal,τ,a=>AW r os a τ (fun τ _=>Do fx lf τ (Q .normal))
 |.exit i,τ,a=>AW r os a τ (fun τ _=>Do fx c τ (Q (.exit i)))
 |_,_,_=>False
section
variable {P:Program} {T:Nat→Option TI} {n:Nat} {C:Cx} {τ σ:St} {Q:Exit→St→Prop}
theorem PX{l:Nat}{ds:List (Option Nat)}:∀(ops:List Oper) {K c:St→Prop} {σ:St},(∀σ,K σ→c σ)→Di P l n ds ops K σ→Di P l n ds ops c σ
 |[],K,c,σ,b,h=>b _ h
 |o::a,K,c,σ,b,h=>by
  unfold Di at h⊢
  split at h
  ·exact PI (fun σ h=>PX a b h) h
  ·split at h
   ·refine⟨fun e=>PI (fun σ h=>PX a b h) (h.1 e),fun e=>?_⟩
    have d:=h.2 e
    split at d
    ·exact⟨d.1,PX a b d.2⟩
    grind
   grind
theorem Ml{γ:Ab→Nat}{env:Bl}(h:RG (C.r γ) C.l C.outs env τ σ):∃a,RG (C.r γ) C.l C.outs [] (C7 env τ) a∧Wk n C σ a:=by
 refine⟨⟨fun j=>ren (C.r γ) ((C7 env τ).s j),σ.H⟩,⟨fun j=>⟨fun _=>rfl,fun d=>absurd AU d⟩,h.h,h.g,h.go,h.k,h.o⟩,fun b w c=>?_⟩
 obtain⟨s,H⟩:=σ
 refine R.weaken c fun j=>?_
 simp only[C7]
 split
 ·rename_i he
  left
  exact((h.s j).1 (by rw[he];exact AU)).symm
 ·right;simp[ren]
def Uz(n:Nat)(C:Cx)(γ:Ab→Nat)(K:Exit→St→AT→Prop)(e:Exit)(σ:St):Prop:=∃τ a b,K e τ a∧RG (C.r γ) C.l C.outs [] τ b∧Wk n C σ b
theorem mB{r:Ren}{H a:Hp}(l:RenOk r C.l C.outs)(o:C3 r H a){d:Nat}{s s':Nat→AV}(hs:∀j,s' j=ren r (s j)){A:Prop}:∀{m:List (Nat×List (List D))},RO H d s A m→A∧∀p∈m,∃off c,s' p.1=.ref (C.l+1,d) (a (C.l+1,d)).g off c∧
  p.2.length=c∧(∀e∈p.2,e.length=(a (C.l+1,d)).sz)∧(off+c)*(a (C.l+1,d)).sz≤(a (C.l+1,d)).cells.length∧((a (C.l+1,d)).cells.drop (off*(a (C.l+1,d)).sz)).take (c*(a (C.l+1,d)).sz)=p.2.flatten.map .d
 |[],h=>⟨h,fun p f=>by cases f⟩
 |(j,x)::m,h=>by
  simp only[RO]at h
  split at h
  case h_2=>exact h.elim
  rename_i k q off c w
  split at h
  case h_2=>exact h.elim
  rename_i i hl
  have i:=BY.1 i
  subst i
  obtain⟨⟨f1,f2,f3,f4,f5⟩,h⟩:=h
  obtain⟨v,y⟩:=mB l o hs h
  obtain⟨n,t,u,b,g⟩:=o.at hl
  rw[l.own]at n t u b g
  refine⟨v,fun p f=>?_⟩
  rcases YK.1 f with rfl|f
  ·refine⟨off,c,by rw[hs,w];simp[ren,l.own,n],f1,by rw[b];exact f3,by rw[b,g,B8];exact f4,?_⟩
   rw[b,g,D1,Ep,f5,Gg]
  grind
theorem mV{r:Ren}{H a:Hp}(s:RenOk r C.l C.outs)(m:C3 r H a){d:Nat}{A:Prop}:∀{cs:List (Ab×Nat×List (List D))},RK H d A cs→A∧∀p∈cs,p.1.1=1∧p.1≠(1,d)∧(H p.1).live=true∧∃off c,(a (r.κ p.1)).cells[p.2.1]?=some (.ref (C.l+1,d) (a (C.l+1,d)).g off c)∧
  p.2.2.length=c∧(∀e∈p.2.2,e.length=(a (C.l+1,d)).sz)∧(off+c)*(a (C.l+1,d)).sz≤(a (C.l+1,d)).cells.length∧((a (C.l+1,d)).cells.drop (off*(a (C.l+1,d)).sz)).take (c*(a (C.l+1,d)).sz)=p.2.2.flatten.map .d
 |[],h=>⟨h,fun p j=>by cases j⟩
 |(k,i,B)::cs,h=>by
  simp only[RK]at h
  split at h
  case h_2=>exact h.elim
  rename_i k' q off c z f b u
  split at h
  case h_2=>exact h.elim
  rename_i n hl
  have n:=BY.1 n
  subst n
  obtain⟨⟨f1,f2,f3,f4,f5⟩,h⟩:=h
  obtain⟨x,E⟩:=mV s m h
  obtain⟨t,v,w,g,l⟩:=m.at hl
  rw[s.own]at t v w g l
  refine⟨x,fun p j=>?_⟩
  rcases YK.1 j with rfl|j
  ·have y:=m k b
   have o:k≠(1,d):=fun e=>by rw[BY.2 e]at f;cases f
   refine⟨Ya z,o,b,off,c,?_,f1,by rw[g];exact f3,by rw[g,l,B8];exact f4,?_⟩
   ·rw[y]
    simp only[AA,Ge]
    rw[BS]at u
    rw[u]
    simp[ren,s.own,t]
   ·rw[g,l,D1,Ep,f5,Gg]
  grind
theorem nz{r:Ren}:∀(b:List (Nat×List (List D))) {s s':Nat→AV},(∀j,s' j=ren r (s j))→∀j,HT b s' j=ren r (HT b s j)
 |[],s,s',h,j=>h j
 |(i,c)::b,s,s',h,j=>nz b (s:=upd s i (.d (.list c))) (s':=upd s' i (.d (.list c))) (fun q=>by
   simp only[upd]
   by_cases a:q=i
   ·rw[Yi a,Yi a];simp[ren]
   ·rw[Yj a,Yj a];exact h q) j
theorem PU{r:Ren}(xs:List AV)(i:Nat)(x:AV):(Aj r xs).set i (ren r x)=Aj r (xs.set i x):=by rw[Er,Er,List.map_set]
theorem oH{γ:Ab→Nat}(d:CxOk C):∀(cs:List (Ab×Nat×List (List D))) {τ σ:St},(∀p∈cs,p.1.1=1∧(τ.H p.1).live=true)→RG (C.r γ) C.l C.outs [] τ σ→
  RG (C.r γ) C.l C.outs [] ⟨τ.s,GK cs τ.H⟩ ⟨σ.s,GK (cs.map fun p=>((C.r γ).κ p.1,p.2)) σ.H⟩
 |[],τ,σ,_,h=>h
 |(k,i,a)::cs,τ,σ,e,h=>by
  obtain⟨j,b⟩:=e _ (YM ..)
  have l:=h.h k b
  have c:=RG.updH (d.ren γ) h k ⟨(τ.H k).g,true,(τ.H k).e,(τ.H k).sz,(τ.H k).cells.set i (.d (.list a))⟩ rfl (.inl j)
  have f:AA (C.r γ) k ⟨(τ.H k).g,true,(τ.H k).e,(τ.H k).sz,(τ.H k).cells.set i (.d (.list a))⟩=⟨(σ.H ((C.r γ).κ k)).g,(σ.H ((C.r γ).κ k)).live,(σ.H ((C.r γ).κ k)).e,(σ.H ((C.r γ).κ k)).sz,(σ.H ((C.r γ).κ k)).cells.set i (.d (.list a))⟩:=by
   rw[l]
   simp only[AA]
   rw[←PU]
   simp[ren]
  rw[f]at c
  have g:(⟨(τ.H k).g,true,(τ.H k).e,(τ.H k).sz,(τ.H k).cells.set i (.d (.list a))⟩:Blk)=⟨(τ.H k).g,(τ.H k).live,(τ.H k).e,(τ.H k).sz,(τ.H k).cells.set i (.d (.list a))⟩:=by rw[b]
  rw[g]at c
  have:=oH d cs (fun p m=>by
   obtain⟨n,o⟩:=e p (YH _ m)
   refine⟨n,?_⟩
   show(updH τ.H k _ p.1).live=true
   unfold updH
   split
   ·exact b
   ·exact o) c
  exact this
theorem V1{r:Ren}{cs:List AV}(h:Eu cs):Eu (Aj r cs):=fun x a=>by
 rw[Er]at a
 obtain⟨y,hy,rfl⟩:=YU.1 a
 have:=h y hy
 cases y with
 |d d=>simp[ren]
 |_=>cases this
theorem uc{H:Hp}{d:Nat}{s:Nat→AV}:∀{b:List Nat},RQ H d s b=true→∀j∈b,∃g,s j=.mp (1,d) g∧Bv H (1,d) g=true
 |[],_,j,a=>by cases a
 |i::r,h,j,a=>by
  simp only[RQ]at h
  split at h
  ·rename_i k g he
   simp only[Yb]at h
   have c:=BY.1 h.1.1
   subst c
   rcases YK.1 a with rfl|a
   ·grind
   ·exact uc h.2 j a
  ·cases h
theorem qx{H:Hp}{d:Nat}{s:Nat→AV}:∀{b:List Nat},RR H d s b=true→∀j∈b,∃g,s j=.ptr (1,d) g 0∧Bv H (1,d) g=true
 |[],_,j,a=>by cases a
 |i::r,h,j,a=>by
  simp only[RR]at h
  split at h
  ·rename_i k g he
   simp only[Yb]at h
   have c:=BY.1 h.1.1
   subst c
   rcases YK.1 a with rfl|a
   ·grind
   ·exact qx h.2 j a
  ·cases h
theorem BP(I:CxOk C){γ:Ab→Nat}:∀(a:AT) {τ σ:St} {K:St→AT→Prop},AW (C.r γ) C.outs a τ K→RG (C.r γ) C.l C.outs [] τ σ→∃τ' G F,K τ' G∧RG (C.r γ) C.l C.outs [] τ' F∧Wk n C σ F
 |.frz d V cs b,τ,σ,K,h,f=>by
  have l:=I.ren γ
  have hs:∀j,σ.s j=ren (C.r γ) (τ.s j):=fun j=>(f.s j).1 AU
  simp only[AW]at h
  split at h
  case h_2=>exact h.elim
  rename_i hl hz
  have hz:=Yf hz
  obtain⟨h,hjs⟩:=mB l f.h hs h
  obtain⟨h,hcs⟩:=mV l f.h h
  have t:=f.h _ hl
  rw[l.own]at t
  have z:(σ.H (C.l+1,d)).live=true:=by rw[t];rfl
  have U:(σ.H (C.l+1,d)).sz=(τ.H (1,d)).sz:=by rw[t];rfl
  have o:(σ.H (C.l+1,d)).g=(C.r γ).γ (1,d)+(τ.H (1,d)).g:=by rw[t];rfl
  have u:=RG.updK l f (1,d) ⟨(τ.H (1,d)).g,false,(τ.H (1,d)).e,(τ.H (1,d)).sz,(τ.H (1,d)).cells⟩ {σ.H (C.l+1,d)with live:=false } (fun e=>by cases e) o (.inl rfl)
  rw[l.own]at u
  have A:=oH I cs (fun p hp=>by
   obtain⟨q1,q2,q3,_⟩:=hcs p hp
   refine⟨q1,?_⟩
   show(updH τ.H (1,d) _ p.1).live=true
   rw[Av _ _ q2]
   exact q3) u
  have Q:RG (C.r γ) C.l C.outs [] ⟨HT V τ.s,GK cs (updH τ.H (1,d) ⟨(τ.H (1,d)).g,false,(τ.H (1,d)).e,(τ.H (1,d)).sz,(τ.H (1,d)).cells⟩)⟩
    ⟨HT V σ.s,GK (cs.map fun p=>((C.r γ).κ p.1,p.2)) (updH σ.H (C.l+1,d) {σ.H (C.l+1,d)with live:=false })⟩:=
   ⟨fun j=>⟨fun _=>nz V hs j,fun T=>absurd AU T⟩,A.h,A.g,A.go,A.k,A.o⟩
  obtain⟨τ',G,F,N,v,O⟩:=BP I b h Q
  refine⟨τ',G,F,N,v,Wk.trans (fun L w M=>?_) O⟩
  obtain⟨s,H⟩:=σ
  refine R.freeze M (k:=(C.l+1,d)) (Yh _) z (by rw[U];omega) V (cs.map fun p=>((C.r γ).κ p.1,p.2)) hjs (fun p hp=>?_)
  obtain⟨pp,hpp,rfl⟩:=YU.1 hp
  obtain⟨q1,q2,q3,q4⟩:=hcs pp hpp
  obtain⟨⟨p1,p2⟩,p3⟩:=pp
  simp only at q1 q2 q3 q4
  subst q1
  have hlv:(H ((C.r γ).κ (1,p2))).live=true:=by have:=f.h _ q3;simp only at this;rw[this];rfl
  exact⟨by simp only;rw[l.own];intro e;simp at e;exact q2 (by rw[e]),by simp only;rw[l.own];exact Yh _,hlv,q4⟩
 |.adc k i d e sz b,τ,σ,K,h,f=>by
  have l:=I.ren γ
  simp only[AW]at h
  split at h
  case h_2=>exact h.elim
  rename_i P hne hlv E
  have P:=Ya P
  have hne:k≠(1,d):=fun e=>by rw[BY.2 e]at hne;cases hne
  obtain⟨N,v⟩:=k
  simp only at P
  subst P
  have t:=f.h _ hlv
  have u:=RG.updH l f (1,d) ⟨(τ.H (1,d)).g+1,true,e,sz,[]⟩ rfl (.inl rfl)
  have A:=RG.updH l u (1,v) ⟨(τ.H (1,v)).g,true,(τ.H (1,v)).e,(τ.H (1,v)).sz,(τ.H (1,v)).cells.set i (.ref (1,d) ((τ.H (1,d)).g+1) 0 0)⟩ rfl (.inl rfl)
  have e1:AA (C.r γ) (1,d) ⟨(τ.H (1,d)).g+1,true,e,sz,[]⟩=⟨(σ.H (C.l+1,d)).g+1,true,e,sz,[]⟩:=by simp only[AA,f.g,Aj,YB]
  have e2:AA (C.r γ) (1,v) ⟨(τ.H (1,v)).g,true,(τ.H (1,v)).e,(τ.H (1,v)).sz,(τ.H (1,v)).cells.set i (.ref (1,d) ((τ.H (1,d)).g+1) 0 0)⟩=
    ⟨(σ.H (C.l+1,v)).g,(σ.H (C.l+1,v)).live,(σ.H (C.l+1,v)).e,(σ.H (C.l+1,v)).sz,(σ.H (C.l+1,v)).cells.set i (.ref (C.l+1,d) ((σ.H (C.l+1,d)).g+1) 0 0)⟩:=by
   rw[l.own]at t
   rw[t]
   simp only[AA]
   rw[←PU]
   simp[ren,l.own,f.g,YB]
  rw[e1,e2,l.own,l.own]at A
  obtain⟨τ',G,F,j1,j2,j3⟩:=BP I b h A
  refine⟨τ',G,F,j1,j2,Wk.trans (fun L w M=>?_) j3⟩
  obtain⟨s,H⟩:=σ
  rw[BS]at E
  exact R.adoptC M (k:=(C.l+1,d)) (kp:=(C.l+1,v)) rfl rfl (fun e=>by simp at e;exact hne (by rw[e])) (by rw[l.own]at t;simp only at t;rw[t];rfl) (by rw[l.own]at t;simp only at t;rw[t];simp only[AA,Ge,E];simp[ren])
 |.ads j d e sz b,τ,σ,K,h,f=>by
  have l:=I.ren γ
  simp only[AW]at h
  split at h
  case h_2=>exact h.elim
  rename_i he
  have hsj:σ.s j=.e0:=by rw[(f.s j).1 AU,WL he];simp[ren]
  have u:=RG.updH l f (1,d) ⟨(τ.H (1,d)).g+1,true,e,sz,[]⟩ rfl (.inl rfl)
  have e1:AA (C.r γ) (1,d) ⟨(τ.H (1,d)).g+1,true,e,sz,[]⟩=⟨(σ.H (C.l+1,d)).g+1,true,e,sz,[]⟩:=by simp only[AA,f.g,Aj,YB]
  rw[e1,l.own]at u
  have Q:RG (C.r γ) C.l C.outs [] ⟨upd τ.s j (.ref (1,d) ((τ.H (1,d)).g+1) 0 0),updH τ.H (1,d) ⟨(τ.H (1,d)).g+1,true,e,sz,[]⟩⟩ ⟨upd σ.s j (.ref (C.l+1,d) ((σ.H (C.l+1,d)).g+1) 0 0),updH σ.H (C.l+1,d) ⟨(σ.H (C.l+1,d)).g+1,true,e,sz,[]⟩⟩:=
   ⟨fun i=>⟨fun _=>by
    simp only[upd]
    by_cases hi:i=j
    ·rw[Yi hi,Yi hi];simp[ren,l.own,f.g,YB]
    ·rw[Yj hi,Yj hi];exact(f.s i).1 AU,fun T=>absurd AU T⟩,u.h,u.g,u.go,u.k,u.o⟩
  obtain⟨τ',G,F,N,v,O⟩:=BP I b h Q
  refine⟨τ',G,F,N,v,Wk.trans (fun L w M=>?_) O⟩
  obtain⟨s,H⟩:=σ
  exact R.adopt (e:=e) (sz:=sz) M (C.l+1,d) rfl _ (Em _) hsj
 |.trim k c b,τ,σ,K,h,f=>by
  have l:=I.ren γ
  simp only[AW]at h
  split at h
  case h_2=>exact h.elim
  rename_i hl
  obtain⟨⟨m,hm⟩,h⟩:=h
  have t:=f.h k hl
  have hko:AW (C.r γ) C.outs b ⟨τ.s,updH τ.H k ⟨(τ.H k).g,true,(τ.H k).e,(τ.H k).sz,c⟩⟩ K∧In (C.r γ) C.outs k:=by
   unfold uK at h
   split at h
   ·rename_i P;exact⟨h,.inl (Ya P)⟩
   ·rcases f.k k hl with h5|⟨_,h5⟩
    ·have:=h.1.1;omega
    ·exact⟨h.2,.inr ⟨h.1.1,h5,h.1.2⟩⟩
  obtain⟨h,hko⟩:=hko
  have u:=RG.updH l f k ⟨(τ.H k).g,true,(τ.H k).e,(τ.H k).sz,c⟩ rfl hko
  have e1:AA (C.r γ) k ⟨(τ.H k).g,true,(τ.H k).e,(τ.H k).sz,c⟩=⟨(σ.H ((C.r γ).κ k)).g,(σ.H ((C.r γ).κ k)).live,(σ.H ((C.r γ).κ k)).e,(σ.H ((C.r γ).κ k)).sz,(σ.H ((C.r γ).κ k)).cells.take m⟩:=by
   rw[t]
   simp only[AA,Ep,hm]
  rw[e1]at u
  obtain⟨τ',G,F,N,v,O⟩:=BP I b h u
  refine⟨τ',G,F,N,v,Wk.trans (fun L w M=>?_) O⟩
  obtain⟨s,H⟩:=σ
  have hle:((C.r γ).κ k).1≤C.l+1:=by
   obtain⟨N,v⟩:=k
   have:=hko.lk
   simp only at this
   rcases this with rfl|⟨rfl,A⟩
   ·rw[l.own];exact Yh _
   ·exact Sq (l.out v A)
  exact R.trim M hle (by have B:=t;simp only at B;rw[B];rfl) m
 |.reb j d m c b,τ,σ,K,h,f=>by
  have l:=I.ren γ
  simp only[AW]at h
  split at h
  case h_2=>exact h.elim
  rename_i k q off n hsj
  split at h
  case h_2=>exact h.elim
  rename_i hkd hq
  have P:k=(1,d):=BY.1 hkd
  subst P
  obtain⟨hq1,hl⟩:=DD hq
  subst hq1
  obtain⟨⟨hnm,hlen,E⟩,h⟩:=h
  subst E
  subst hnm
  have t:=f.h (1,d) hl
  rw[l.own]at t
  have z:(σ.H (C.l+1,d)).live=true:=by rw[t];rfl
  have U:(σ.H (C.l+1,d)).sz=(τ.H (1,d)).sz:=by rw[t];rfl
  have o:(σ.H (C.l+1,d)).g=(C.r γ).γ (1,d)+(τ.H (1,d)).g:=by rw[t];rfl
  have hcr:(σ.H (C.l+1,d)).cells=Aj (C.r γ) (τ.H (1,d)).cells:=by rw[t];rfl
  have Z:(σ.H (C.l+1,d)).e=(τ.H (1,d)).e:=by rw[t];rfl
  have hs:σ.s j=.ref (C.l+1,d) (σ.H (C.l+1,d)).g off n:=by rw[(f.s j).1 AU,hsj];simp only[ren];rw[l.own,o]
  have u:=RG.updH l f (1,d) ⟨(τ.H (1,d)).g+1,true,.t (τ.H (1,d)).e.ty,(τ.H (1,d)).sz,(τ.H (1,d)).cells.drop (off*(τ.H (1,d)).sz)⟩ rfl (.inl rfl)
  have e1:AA (C.r γ) (1,d) ⟨(τ.H (1,d)).g+1,true,.t (τ.H (1,d)).e.ty,(τ.H (1,d)).sz,(τ.H (1,d)).cells.drop (off*(τ.H (1,d)).sz)⟩=⟨(σ.H (C.l+1,d)).g+1,true,.t (σ.H (C.l+1,d)).e.ty,(σ.H (C.l+1,d)).sz,(σ.H (C.l+1,d)).cells.drop (off*(σ.H (C.l+1,d)).sz)⟩:=by
   simp only[AA,o,Z,U,hcr,D1,YB]
  rw[e1,l.own]at u
  have Q:RG (C.r γ) C.l C.outs [] ⟨upd τ.s j (.ref (1,d) ((τ.H (1,d)).g+1) 0 n),updH τ.H (1,d) ⟨(τ.H (1,d)).g+1,true,.t (τ.H (1,d)).e.ty,(τ.H (1,d)).sz,(τ.H (1,d)).cells.drop (off*(τ.H (1,d)).sz)⟩⟩
    ⟨upd σ.s j (.ref (C.l+1,d) ((σ.H (C.l+1,d)).g+1) 0 n),updH σ.H (C.l+1,d) ⟨(σ.H (C.l+1,d)).g+1,true,.t (σ.H (C.l+1,d)).e.ty,(σ.H (C.l+1,d)).sz,(σ.H (C.l+1,d)).cells.drop (off*(σ.H (C.l+1,d)).sz)⟩⟩:=
   ⟨fun i=>⟨fun _=>by
    simp only[upd]
    by_cases hi:i=j
    ·rw[Yi hi,Yi hi];simp only[ren];rw[l.own,o,YB]
    ·rw[Yj hi,Yj hi];exact(f.s i).1 AU,fun T=>absurd AU T⟩,u.h,u.g,u.go,u.k,u.o⟩
  obtain⟨τ',G,F,N,v,O⟩:=BP I b h Q
  refine⟨τ',G,F,N,v,Wk.trans (fun L w M=>?_) O⟩
  obtain⟨s,H⟩:=σ
  exact R.rebase M (Yh _) z hs (by rw[U,hcr,B8];exact hlen)
 |.mv d j b,τ,σ,K,h,f=>by
  have l:=I.ren γ
  have hs:∀j,σ.s j=ren (C.r γ) (τ.s j):=fun j=>(f.s j).1 AU
  simp only[AW]at h
  split at h
  case h_2=>exact h.elim
  rename_i hl
  obtain⟨hf,⟨J,hno⟩,h⟩:=h
  have t:=f.h _ hl
  have X:=f.go j J
  rw[l.own]at t
  have z:(σ.H (C.l+1,d)).live=true:=by rw[t];rfl
  have o:(σ.H (C.l+1,d)).g=(C.r γ).γ (1,d)+(τ.H (1,d)).g:=by rw[t];rfl
  have u:=RG.updK l f (1,d) ⟨(τ.H (1,d)).g,false,(τ.H (1,d)).e,(τ.H (1,d)).sz,(τ.H (1,d)).cells⟩ {σ.H (C.l+1,d)with live:=false } (fun e=>by cases e) o (.inl rfl)
  rw[l.own]at u
  have A:=RG.updH l u (0,j) ⟨(τ.H (0,j)).g+1,true,(τ.H (1,d)).e,(τ.H (1,d)).sz,(τ.H (1,d)).cells⟩ rfl (.inr ⟨rfl,J,hno⟩)
  have e2:AA (C.r γ) (0,j) ⟨(τ.H (0,j)).g+1,true,(τ.H (1,d)).e,(τ.H (1,d)).sz,(τ.H (1,d)).cells⟩={σ.H (C.l+1,d)with g:=(σ.H ((C.r γ).κ (0,j))).g+1 }:=by
   rw[t]
   simp only[AA,X,YB]
  rw[e2]at A
  have Q:RG (C.r γ) C.l C.outs [] ⟨fun i=>Ed (1,d) (0,j) (τ.H (1,d)).g ((τ.H (0,j)).g+1) (τ.s i),updH (updH τ.H (1,d) ⟨(τ.H (1,d)).g,false,(τ.H (1,d)).e,(τ.H (1,d)).sz,(τ.H (1,d)).cells⟩) (0,j) ⟨(τ.H (0,j)).g+1,true,(τ.H (1,d)).e,(τ.H (1,d)).sz,(τ.H (1,d)).cells⟩⟩
    ⟨fun i=>ren (C.r γ) (Ed (1,d) (0,j) (τ.H (1,d)).g ((τ.H (0,j)).g+1) (τ.s i)),updH (updH σ.H (C.l+1,d) {σ.H (C.l+1,d)with live:=false }) ((C.r γ).κ (0,j)) {σ.H (C.l+1,d)with g:=(σ.H ((C.r γ).κ (0,j))).g+1 }⟩:=
   ⟨fun i=>⟨fun _=>rfl,fun T=>absurd AU T⟩,A.h,A.g,A.go,A.k,A.o⟩
  obtain⟨τ',G,F,N,v,O⟩:=BP I b h Q
  refine⟨τ',G,F,N,v,Wk.trans (fun L w M=>?_) O⟩
  obtain⟨s,H⟩:=σ
  refine R.handout M (k:=(C.l+1,d)) rfl (l.out j J) z (by have B:=t;simp only at B;rw[B];exact V1 hf) (fun i=>?_)
  have r:=hs i
  simp only at r
  cases hx:τ.s i with
  |ref q g off c=>
   rw[hx]at r
   rw[WP]
   split
   ·rename_i E
    obtain⟨rfl,rfl⟩:=E
    refine .inr (.inl ⟨off,c,?_,?_⟩)
    ·rw[r];simp only[ren];rw[l.own];simp only at o;rw[o]
    ·simp only[ren];simp only at X;rw[X,YB]
   ·left;rw[r]
  |mp q g=>
   rw[hx]at r
   rw[XU]
   split
   ·rename_i E
    obtain⟨rfl,rfl⟩:=E
    refine .inr (.inr ⟨?_,?_⟩)
    ·rw[r];simp only[ren];rw[l.own];simp only at o;rw[o]
    ·simp only[ren];simp only at X;rw[X,YB]
   ·left;rw[r]
  |_=>left;rw[r,hx];rfl
 |.rnm d d' e i b,τ,σ,K,h,f=>by
  have l:=I.ren γ
  have hs:∀j,σ.s j=ren (C.r γ) (τ.s j):=fun j=>(f.s j).1 AU
  simp only[AW]at h
  split at h
  case h_2=>exact h.elim
  rename_i k g off c hl hdd S Y hle E
  split at h
  case h_2=>exact h.elim
  rename_i P hg
  obtain⟨hf,h⟩:=h
  have P:=BY.1 P
  subst P
  have hg:=Ya hg
  subst hg
  have hdd:d≠d':=fun q=>by subst q;simp at hdd
  have S:e≠d:=fun q=>by subst q;simp at S
  have Y:e≠d':=fun q=>by subst q;simp at Y
  have t:=f.h _ hl
  have D:=f.h _ hle
  rw[l.own]at t D
  have z:(σ.H (C.l+1,d)).live=true:=by rw[t];rfl
  have hler:(σ.H (C.l+1,e)).live=true:=by rw[D];rfl
  have o:(σ.H (C.l+1,d)).g=(C.r γ).γ (1,d)+(τ.H (1,d)).g:=by rw[t];rfl
  have y:=f.g d'
  have u:=RG.updK l f (1,d) ⟨(τ.H (1,d)).g,false,(τ.H (1,d)).e,(τ.H (1,d)).sz,(τ.H (1,d)).cells⟩ {σ.H (C.l+1,d)with live:=false } (fun e=>by cases e) o (.inl rfl)
  rw[l.own]at u
  have A:=RG.updH l u (1,d') ⟨(τ.H (1,d')).g+1,true,(τ.H (1,d)).e,(τ.H (1,d)).sz,(τ.H (1,d)).cells⟩ rfl (.inl rfl)
  have e2:AA (C.r γ) (1,d') ⟨(τ.H (1,d')).g+1,true,(τ.H (1,d)).e,(τ.H (1,d)).sz,(τ.H (1,d)).cells⟩={σ.H (C.l+1,d)with g:=(σ.H (C.l+1,d')).g+1 }:=by
   rw[t]
   simp only[AA,y,YB]
  rw[e2,l.own]at A
  have W:=RG.updH l A (1,e) ⟨(τ.H (1,e)).g,true,(τ.H (1,e)).e,(τ.H (1,e)).sz,(τ.H (1,e)).cells.set i (.ref (1,d') ((τ.H (1,d')).g+1) off c)⟩ rfl (.inl rfl)
  have e4:AA (C.r γ) (1,e) ⟨(τ.H (1,e)).g,true,(τ.H (1,e)).e,(τ.H (1,e)).sz,(τ.H (1,e)).cells.set i (.ref (1,d') ((τ.H (1,d')).g+1) off c)⟩=
    ⟨(σ.H (C.l+1,e)).g,true,(σ.H (C.l+1,e)).e,(σ.H (C.l+1,e)).sz,(σ.H (C.l+1,e)).cells.set i (.ref (C.l+1,d') ((σ.H (C.l+1,d')).g+1) off c)⟩:=by
   rw[D]
   simp only[AA]
   rw[←PU]
   simp[ren,l.own,y,YB]
  rw[e4,l.own]at W
  have Q:RG (C.r γ) C.l C.outs [] ⟨fun j=>Ed (1,d) (1,d') (τ.H (1,d)).g ((τ.H (1,d')).g+1) (τ.s j),_⟩
    ⟨fun j=>ren (C.r γ) (Ed (1,d) (1,d') (τ.H (1,d)).g ((τ.H (1,d')).g+1) (τ.s j)),_⟩:=
   ⟨fun i=>⟨fun _=>rfl,fun T=>absurd AU T⟩,W.h,W.g,W.go,W.k,W.o⟩
  obtain⟨τ',G,F,N,v,O⟩:=BP I b h Q
  refine⟨τ',G,F,N,v,Wk.trans (fun L w M=>?_) O⟩
  obtain⟨s,H⟩:=σ
  rw[BS]at E
  refine R.rename M (k:=(C.l+1,d)) (k':=(C.l+1,d')) (q:=(C.l+1,e)) rfl (Yh _) rfl (fun q=>hdd (by simpa using q)) (fun q=>S (by simpa using q)) (fun q=>Y (by simpa using q)) z hler (by have B:=t;simp only at B;rw[B];exact V1 hf)
   (by simp only at D o;rw[D];simp only[AA,Ge,E];simp[ren,l.own,o]) (fun i=>?_)
  have r:=hs i
  simp only at r
  cases hx:τ.s i with
  |ref q g off c=>
   rw[hx]at r
   rw[WP]
   split
   ·rename_i E
    obtain⟨rfl,rfl⟩:=E
    refine .inr (.inl ⟨off,c,?_,?_⟩)
    ·rw[r];simp only[ren];rw[l.own];simp only at o;rw[o]
    ·simp only[ren];rw[l.own];simp only at y;rw[y,YB]
   ·left;rw[r]
  |mp q g=>
   rw[hx]at r
   rw[XU]
   split
   ·rename_i E
    obtain⟨rfl,rfl⟩:=E
    refine .inr (.inr ⟨?_,?_⟩)
    ·rw[r];simp only[ren];rw[l.own];simp only at o;rw[o]
    ·simp only[ren];rw[l.own];simp only at y;rw[y,YB]
   ·left;rw[r]
  |_=>left;rw[r,hx];rfl
 |.mvc d q e i b,τ,σ,K,h,f=>by
  have l:=I.ren γ
  have hs:∀j,σ.s j=ren (C.r γ) (τ.s j):=fun j=>(f.s j).1 AU
  simp only[AW]at h
  split at h
  case h_2=>exact h.elim
  rename_i k g off c hl S hle E
  split at h
  case h_2=>exact h.elim
  rename_i P hg
  obtain⟨hf,⟨J,hno⟩,h⟩:=h
  have P:=BY.1 P
  subst P
  have hg:=Ya hg
  subst hg
  have S:e≠d:=fun q'=>by subst q';simp at S
  have t:=f.h _ hl
  have D:=f.h _ hle
  rw[l.own]at t D
  have z:(σ.H (C.l+1,d)).live=true:=by rw[t];rfl
  have hler:(σ.H (C.l+1,e)).live=true:=by rw[D];rfl
  have o:(σ.H (C.l+1,d)).g=(C.r γ).γ (1,d)+(τ.H (1,d)).g:=by rw[t];rfl
  have y:=f.go q J
  have hlo:=l.out q J
  have u:=RG.updK l f (1,d) ⟨(τ.H (1,d)).g,false,(τ.H (1,d)).e,(τ.H (1,d)).sz,(τ.H (1,d)).cells⟩ {σ.H (C.l+1,d)with live:=false } (fun e=>by cases e) o (.inl rfl)
  rw[l.own]at u
  have A:=RG.updH l u (0,q) ⟨(τ.H (0,q)).g+1,true,(τ.H (1,d)).e,(τ.H (1,d)).sz,(τ.H (1,d)).cells⟩ rfl (.inr ⟨rfl,J,hno⟩)
  have e2:AA (C.r γ) (0,q) ⟨(τ.H (0,q)).g+1,true,(τ.H (1,d)).e,(τ.H (1,d)).sz,(τ.H (1,d)).cells⟩={σ.H (C.l+1,d)with g:=(σ.H ((C.r γ).κ (0,q))).g+1 }:=by
   rw[t]
   simp only[AA,y,YB]
  rw[e2]at A
  have W:=RG.updH l A (1,e) ⟨(τ.H (1,e)).g,true,(τ.H (1,e)).e,(τ.H (1,e)).sz,(τ.H (1,e)).cells.set i (.ref (0,q) ((τ.H (0,q)).g+1) off c)⟩ rfl (.inl rfl)
  have e4:AA (C.r γ) (1,e) ⟨(τ.H (1,e)).g,true,(τ.H (1,e)).e,(τ.H (1,e)).sz,(τ.H (1,e)).cells.set i (.ref (0,q) ((τ.H (0,q)).g+1) off c)⟩=
    ⟨(σ.H (C.l+1,e)).g,true,(σ.H (C.l+1,e)).e,(σ.H (C.l+1,e)).sz,(σ.H (C.l+1,e)).cells.set i (.ref ((C.r γ).κ (0,q)) ((σ.H ((C.r γ).κ (0,q))).g+1) off c)⟩:=by
   rw[D]
   simp only[AA]
   rw[←PU]
   simp[ren,l.own,y,YB]
  rw[e4,l.own]at W
  have Q:RG (C.r γ) C.l C.outs [] ⟨fun j=>Ed (1,d) (0,q) (τ.H (1,d)).g ((τ.H (0,q)).g+1) (τ.s j),_⟩
    ⟨fun j=>ren (C.r γ) (Ed (1,d) (0,q) (τ.H (1,d)).g ((τ.H (0,q)).g+1) (τ.s j)),_⟩:=
   ⟨fun i=>⟨fun _=>rfl,fun T=>absurd AU T⟩,W.h,W.g,W.go,W.k,W.o⟩
  obtain⟨τ',G,F,N,v,O⟩:=BP I b h Q
  refine⟨τ',G,F,N,v,Wk.trans (fun L w M=>?_) O⟩
  obtain⟨s,H⟩:=σ
  rw[BS]at E
  refine R.rename M (k:=(C.l+1,d)) (k':=((C.r γ).κ (0,q))) (q:=(C.l+1,e)) rfl (Sq hlo) rfl (fun q'=>by rw[←q']at hlo;exact absurd hlo (Nat.not_succ_le_self _)) (fun q'=>S (by simpa using q')) (fun q'=>by rw[←q']at hlo;exact absurd hlo (Nat.not_succ_le_self _)) z hler (by have B:=t;simp only at B;rw[B];exact V1 hf)
   (by simp only at D o;rw[D];simp only[AA,Ge,E];simp[ren,l.own,o]) (fun i=>?_)
  have r:=hs i
  simp only at r
  cases hx:τ.s i with
  |ref q g off c=>
   rw[hx]at r
   rw[WP]
   split
   ·rename_i E
    obtain⟨rfl,rfl⟩:=E
    refine .inr (.inl ⟨off,c,?_,?_⟩)
    ·rw[r];simp only[ren];rw[l.own];simp only at o;rw[o]
    ·simp only[ren];simp only at y;rw[y,YB]
   ·left;rw[r]
  |mp q g=>
   rw[hx]at r
   rw[XU]
   split
   ·rename_i E
    obtain⟨rfl,rfl⟩:=E
    refine .inr (.inr ⟨?_,?_⟩)
    ·rw[r];simp only[ren];rw[l.own];simp only at o;rw[o]
    ·simp only[ren];simp only at y;rw[y,YB]
   ·left;rw[r]
  |_=>left;rw[r,hx];rfl
 |.fzm d V b,τ,σ,K,h,f=>by
  have l:=I.ren γ
  have hs:∀j,σ.s j=ren (C.r γ) (τ.s j):=fun j=>(f.s j).1 AU
  simp only[AW]at h
  split at h
  case h_2=>exact h.elim
  rename_i q es hl he hm
  have hjs:=uc hm
  have t:=f.h _ hl
  rw[l.own]at t
  have z:(σ.H (C.l+1,d)).live=true:=by rw[t];rfl
  have Z:(σ.H (C.l+1,d)).e=.m q es:=by rw[t];exact he
  have o:(σ.H (C.l+1,d)).g=(C.r γ).γ (1,d)+(τ.H (1,d)).g:=by rw[t];rfl
  have u:=RG.updK l f (1,d) ⟨(τ.H (1,d)).g,false,(τ.H (1,d)).e,(τ.H (1,d)).sz,(τ.H (1,d)).cells⟩ {σ.H (C.l+1,d)with live:=false } (fun e=>by cases e) o (.inl rfl)
  rw[l.own]at u
  have Q:RG (C.r γ) C.l C.outs [] ⟨DP (.d (.map q es)) V τ.s,updH τ.H (1,d) ⟨(τ.H (1,d)).g,false,(τ.H (1,d)).e,(τ.H (1,d)).sz,(τ.H (1,d)).cells⟩⟩ ⟨DP (.d (.map q es)) V σ.s,updH σ.H (C.l+1,d) {σ.H (C.l+1,d)with live:=false }⟩:=
   ⟨fun j=>⟨fun _=>by
    simp only[Mt]
    by_cases J:j∈V
    ·rw[Yi J,Yi J];simp[ren]
    ·rw[Yj J,Yj J];exact hs j,fun T=>absurd AU T⟩,u.h,u.g,u.go,u.k,u.o⟩
  obtain⟨τ',G,F,N,v,O⟩:=BP I b h Q
  refine⟨τ',G,F,N,v,Wk.trans (fun L w M=>?_) O⟩
  obtain⟨s,H⟩:=σ
  refine R.freezeM M (k:=(C.l+1,d)) (Yh _) z Z V (fun j J=>?_)
  obtain⟨g,g1,g2⟩:=hjs j J
  have:=hs j
  simp only at this o
  rw[this,g1]
  simp only[ren]
  rw[l.own,o,(DD g2).1]
 |.fzb d V b,τ,σ,K,h,f=>by
  have l:=I.ren γ
  have hs:∀j,σ.s j=ren (C.r γ) (τ.s j):=fun j=>(f.s j).1 AU
  simp only[AW]at h
  split at h
  case h_2=>exact h.elim
  rename_i x ds hl he hm
  have hjs:=qx hm
  have t:=f.h _ hl
  rw[l.own]at t
  have z:(σ.H (C.l+1,d)).live=true:=by rw[t];rfl
  have Z:(σ.H (C.l+1,d)).cells=(x::ds).map .d:=by rw[t];show Aj _ _=_;rw[Qa he,Gg]
  have o:(σ.H (C.l+1,d)).g=(C.r γ).γ (1,d)+(τ.H (1,d)).g:=by rw[t];rfl
  have u:=RG.updK l f (1,d) ⟨(τ.H (1,d)).g,false,(τ.H (1,d)).e,(τ.H (1,d)).sz,(τ.H (1,d)).cells⟩ {σ.H (C.l+1,d)with live:=false } (fun e=>by cases e) o (.inl rfl)
  rw[l.own]at u
  have Q:RG (C.r γ) C.l C.outs [] ⟨DP (.iptr (x::ds) 0) V τ.s,updH τ.H (1,d) ⟨(τ.H (1,d)).g,false,(τ.H (1,d)).e,(τ.H (1,d)).sz,(τ.H (1,d)).cells⟩⟩ ⟨DP (.iptr (x::ds) 0) V σ.s,updH σ.H (C.l+1,d) {σ.H (C.l+1,d)with live:=false }⟩:=
   ⟨fun j=>⟨fun _=>by
    simp only[Mt]
    by_cases J:j∈V
    ·rw[Yi J,Yi J];simp[ren]
    ·rw[Yj J,Yj J];exact hs j,fun T=>absurd AU T⟩,u.h,u.g,u.go,u.k,u.o⟩
  obtain⟨τ',G,F,N,v,O⟩:=BP I b h Q
  refine⟨τ',G,F,N,v,Wk.trans (fun L w M=>?_) O⟩
  obtain⟨s,H⟩:=σ
  refine R.freezeB M (k:=(C.l+1,d)) (Yh _) z Z (by simp) V (fun j J=>?_)
  obtain⟨g,g1,g2⟩:=hjs j J
  have:=hs j
  simp only at this o
  rw[this,g1]
  simp only[ren]
  rw[l.own,o,(DD g2).1]
 |.ents _ _,τ,σ,K,h,f=>⟨τ,_,σ,h,f,Wk.refl σ⟩
 |.all _ _,τ,σ,K,h,f=>⟨τ,_,σ,h,f,Wk.refl σ⟩
 |.nil,τ,σ,K,h,f=>⟨τ,_,σ,h,f,Wk.refl σ⟩
 |.sep _,τ,σ,K,h,f=>⟨τ,_,σ,h,f,Wk.refl σ⟩
 |.go _,τ,σ,K,h,f=>⟨τ,_,σ,h,f,Wk.refl σ⟩
 |.av _ _,τ,σ,K,h,f=>⟨τ,_,σ,h,f,Wk.refl σ⟩
 |.cs _ _,τ,σ,K,h,f=>⟨τ,_,σ,h,f,Wk.refl σ⟩
 |.ds _ _,τ,σ,K,h,f=>⟨τ,_,σ,h,f,Wk.refl σ⟩
 |.num _ _,τ,σ,K,h,f=>⟨τ,_,σ,h,f,Wk.refl σ⟩
 |.nat _ _,τ,σ,K,h,f=>⟨τ,_,σ,h,f,Wk.refl σ⟩
 |.call _ _ _,τ,σ,K,h,f=>⟨τ,_,σ,h,f,Wk.refl σ⟩
 |.callH _ _ _ _,τ,σ,K,h,f=>⟨τ,_,σ,h,f,Wk.refl σ⟩
 |.br _ _,τ,σ,K,h,f=>⟨τ,_,σ,h,f,Wk.refl σ⟩
 |.one _ _,τ,σ,K,h,f=>⟨τ,_,σ,h,f,Wk.refl σ⟩
 |.hard _ _ _ _ _,τ,σ,K,h,f=>⟨τ,_,σ,h,f,Wk.refl σ⟩
theorem EV(o:CxOk C)(s:AX P T)(hm:P.follows .mixedOrders=true){γ:Ab→Nat}:∀(c:Code) (a:AT) (τ σ:St) (K:Exit→St→AT→Prop),Ca P T C.l n C.outs (C.r γ) c a τ K→RG (C.r γ) C.l C.outs [] τ σ→
  Bn P C.l n C.B c (Uz n C γ K) σ
 |.skip,a,τ,σ,K,h,d=>ZrR ⟨τ,a,σ,h,d,Wk.refl σ⟩
 |.ret,a,τ,σ,K,h,d=>by
  obtain⟨τ',f,p,k,m,q⟩:=BP (n:=n) o a h d
  exact Bn.weak (Zyt ⟨τ',f,p,k,m,Wk.refl p⟩) q
 |.exit id,a,τ,σ,K,h,d=>ZtA ⟨τ,a,σ,h,d,Wk.refl σ⟩
 |.seq x y,a,τ,σ,K,h,d=>by
  have F:=EV o s hm x a τ σ _ h d
  refine WH (F9 F fun e p hi=>?_)
  obtain⟨τ',f,j,k,m,q⟩:=hi
  cases e with
  |normal=>exact Bn.weak (EV o s hm y f τ' j _ k m) q
  |_=>exact⟨τ',f,j,k,m,q⟩
 |.block id c,a,τ,σ,K,h,d=>by
  have F:=EV o s hm c a τ σ _ h d
  refine mq (F9 F fun e p hi=>?_)
  obtain⟨τ',f,j,k,m,q⟩:=hi
  cases e with
  |exit i=>
   unfold QD
   simp only at k⊢
   split at k
   ·rename_i he;rw[Yi (Ya he)];exact⟨τ',f,j,k,m,q⟩
   ·rename_i he;rw[Yj (by rintro rfl;simp at he)];exact⟨τ',f,j,k,m,q⟩
  |_=>exact⟨τ',f,j,k,m,q⟩
 |.cond c x y,a,τ,σ,K,h,d=>by
  have he:∀{b},ev τ.s c=.d (.bool b)→ev σ.s c=.d (.bool b):=fun {b} u=>by rw[IF (c:=[]) d AU (by cases c<;>rfl),u];simp[ren]
  unfold Ca at h
  split at h
  ·rename_i b a1 L u
   exact Mr (he u) (fun e=>EV o s hm x a1 τ σ K (h.1 e) d) (fun e=>EV o s hm y L τ σ K (h.2 e) d)
  ·rename_i b f u
   refine Mr (he u) (fun e=>?_) (fun e=>?_)
   ·subst e;exact EV o s hm x f τ σ K h d
   ·subst e;exact EV o s hm y f τ σ K h d
  ·rename_i b v f u
   cases v with
   |true=>exact Mr (he u) (fun e=>EV o s hm x f τ σ K (h.1 e) d) (fun e=>(h.2 e).elim)
   |false=>exact Mr (he u) (fun e=>(h.1 e).elim) (fun e=>EV o s hm y f τ σ K (h.2 e) d)
  ·exact h.elim
 |.region id ops J,a,τ,σ,K,h,d=>by
  obtain⟨t,rfl⟩:∃l:List Oper,ops=l.toArray:=⟨ops.toList,by simp⟩
  have fin:∀τ' g f p,K .normal (C7 g τ') f→RG (C.r γ) C.l C.outs g τ' p→Uz n C γ K .normal p:=fun τ' g f p k m=>by
   obtain⟨j,q,M⟩:=Ml (n:=n) m
   exact⟨_,f,j,k,q,M⟩
  unfold Ca at h
  split at h
  ·obtain⟨H,D,G,h,d,E⟩:=BP (n:=n) o a h d
   refine Bn.weak ?_ E
   intro A w N
   have:=J9 (o.ren γ) s (ops:=t.toArray) (B:=C.B) (K:=fun τ' env f=>K .normal (C7 env τ') f) (QQ:=fun e f w'=>∃p,Uz n C γ K e p∧R C.l n C.B p f w') [] (fun τ' g f p I w' k m q=>by
    unfold wpList
    exact⟨p,fin _ _ _ _ k m,q⟩) t [] D H G A w (by simpa using h) d N
   rw[N3]at this
   exact wp_region_lit this
  ·split at h
   case h_2=>exact h.elim
   rename_i z
   simp only[Yb]at z
   obtain⟨H,D,G,h,d,E⟩:=BP (n:=n) o a h d
   refine Bn.weak ?_ E
   refine Zna hm (l9 (by simpa using z.1.1)) (by simpa using z.1.2) (by simpa using z.2) (PX t (fun p O=>?_) (Kc (o.ren γ) (l:=C.l) (r:=C.r γ) (outs:=C.outs) (K:=fun τ' env f=>K .normal (C7 env τ') f) s t [] D H G (by simpa using z.1.2) (by simpa using h) d))
   obtain⟨τ',g,f,k,m⟩:=O
   exact fin _ _ _ _ k m
 |.loop _,a,τ,σ,K,h,d=>h.elim
 |.rangeFunc _ _ _ _,a,τ,σ,K,h,d=>h.elim
 |.scope _,a,τ,σ,K,h,d=>h.elim
 |.label _,a,τ,σ,K,h,d=>h.elim
 |.goto _,a,τ,σ,K,h,d=>h.elim
 |.refuse _,a,τ,σ,K,h,d=>h.elim
theorem fh(k:CxOk C)(m:AX P T)(hm:P.follows .mixedOrders=true){c:Code}{a:AT}(K:(Ab→Nat)→Exit→St→AT→Prop)(h:∀γ,Ca P T C.l n C.outs (C.r γ) c a τ (K γ))
  (p:∀γ e τ' b d,C.G γ→K γ e τ' b→RG (C.r γ) C.l C.outs [] τ' d→Is n C (Q e) d):LW P n C c τ Q:=by
 intro γ σ o l
 refine F9 (EV k m hm c a τ σ (K γ) (h γ) l) fun e d hi=>?_
 obtain⟨τ',b,f,g,i,j⟩:=hi
 obtain⟨u,w,v,q,r,s,t⟩:=p γ e τ' b f o g i
 exact⟨u,w,v,q,r,s,j.trans t⟩
theorem xI(i:CxOk C)(k:AX P T)(hm:P.follows .mixedOrders=true){c:Code}(a:AT){f:List ResultVar}{b:AV→List Blk→Prop}(h:∀γ,Ca P T C.l n C.outs (C.r γ) c a τ (KF T f C.outs b)):LW P n C c τ (FQ T f C.outs b):=
 fh i k hm (fun _=>KF T f C.outs b) h fun γ e τ' g m l d j=>.of l j (by
  cases e<;>simp only[KF]at d
  ·exact⟨.inl rfl,g,d⟩
  ·exact⟨.inr rfl,g,d⟩)
theorem xM(d:CxOk C)(z:AX P T)(hm:P.follows .mixedOrders=true){c:Code}(a:AT)(lf w:Lf){s:List ResultVar}{b:AV→List Blk→Prop}(y:∀τ,FQ T s C.outs b .ret τ→Q .ret τ)(h:∀γ,Ca P T C.l n C.outs (C.r γ) c a τ (KB T s C.outs C.fx (C.r γ) b lf w Q)):LW P n C c τ Q:=
 fh d z hm (fun γ=>KB T s C.outs C.fx (C.r γ) b lf w Q) h fun γ e τ' g D j f i=>by
  cases e<;>simp only[KB]at f
  ·obtain⟨B,x,A,p,q,r⟩:=BP (n:=n) d g f i
   obtain⟨t,v,u,k,l,m,o⟩:=F7 (n:=n) d p j q
   exact⟨t,v,u,k,l,m,r.trans o⟩
  ·obtain⟨B,x,A,p,q,r⟩:=BP (n:=n) d g f i
   obtain⟨t,v,u,k,l,m,o⟩:=F7 (n:=n) d p j q
   exact⟨t,v,u,k,l,m,r.trans o⟩
  ·exact .of j i (y _ ⟨.inr rfl,g,f⟩)
theorem nQ{sz:Nat}:∀{es:List (List D)} {i j:Nat} {e:List D} {d:D},(∀e∈es,e.length=sz)→es[i]?=some e→e[j]?=some d→es.flatten[i*sz+j]?=some d
 |[],i,j,e,d,h,hi,a=>by simp at hi
 |f::es,0,j,e,d,h,hi,a=>by
  grind
 |f::es,i+1,j,e,d,h,hi,a=>by
  have b:=h f (YM ..)
  rw[If,Yy (by rw[b,YN];omega),b,show(i+1)*sz+j-sz=i*sz+j from by rw[YN];omega]
  exact nQ (fun e he=>h e (YH _ he)) (by simpa using hi) a
mutual
theorem ZnE(u:CxOk C){γ:Ab→Nat}{H I:Hp}(B:C3 (C.r γ) H I)(f:∀k,(H k).live=true→k.1=1∨(k.1=0∧k.2<C.outs)):∀(x:AV) {a:AT} {K:AV→AT→Prop},frz H x a K→∃y p,Fz I C.l (ren (C.r γ) x) (ren (C.r γ) y)∧(C.outs=0→∀r,ren r y=y)∧K y p
 |.d x,a,K,h=>⟨.d x,a,by simp only[ren];exact .keep _ rfl,fun _ r=>by simp[ren],h⟩
 |.e0,a,K,h=>⟨.d (.list []),a,by simp only[ren];exact .e0,fun _ r=>by simp[ren],h⟩
 |.agg xs,a,K,h=>by
  obtain⟨ys,p,o,O,A⟩:=VS u B f xs h
  exact⟨.agg ys,p,by simp only[ren];exact .agg _ _ o.1 o.2,fun e r=>by simp only[ren];rw[O e r],A⟩
 |.ref k g off m,a,K,h=>by
  unfold frz at h
  split at h
  ·rename_i c hl
   have c:=Ya c
   have n:k.2<C.outs:=by
    rcases f k (DD hl).2 with o|o
    ·omega
    grind
   obtain⟨G,b⟩:=k
   simp only at c n
   subst c
   exact⟨.ref (0,b) g off m,a,by simp only[ren];exact .keep _ (Y6 (u.out b n)),fun e=>by omega,h⟩
  ·rename_i _ f hl
   split at h
   case h_2=>exact h.elim
   rename_i s p
   obtain⟨⟨o,A,M,P,Q⟩,R⟩:=h
   have f:=Ya f
   obtain⟨w,z,J,v,L⟩:=B.at hl
   obtain⟨G,b⟩:=k
   simp only at f
   subst f
   refine⟨.d (.list s),p,?_,fun _ r=>by simp[ren],R⟩
   simp only[ren]
   rw[w]
   have F:(C.r γ).κ (1,b)=(C.l+1,b):=u.own b
   refine .ref _ off m s (by rw[F]) z o (by rw[v];exact A) (by rw[v];exact M) (by rw[v,L,B8];exact P) (fun i j e d x hi S E=>?_)
   have D:i<m:=by
    grind
   have T:j<(H (1,b)).sz:=by
    grind
   have U:=nQ M hi S
   have n:i*(H (1,b)).sz+j<m*(H (1,b)).sz:=by
    have:(i+1)*(H (1,b)).sz≤m*(H (1,b)).sz:=YX _ D
    grind
   have N:(H (1,b)).cells[(off+i)*(H (1,b)).sz+j]?=some (.d d):=by
    have:=congrArg (fun l=>l[i*(H (1,b)).sz+j]?) Q
    grind
   rw[v,L,Ge,N]at E
   simp only[YV,ren,Yg]at E
   subst E
   exact .keep _ rfl
  grind
 |.top,a,K,h=>by simp only[frz]at h
 |.p _,a,K,h=>by simp only[frz]at h
 |.ptr _ _ _,a,K,h=>by simp only[frz]at h
 |.mp k g,a,K,h=>by
  unfold frz at h
  split at h
  ·rename_i c hl
   have c:=Ya c
   have n:k.2<C.outs:=by
    rcases f k (DD hl).2 with o|o
    ·omega
    grind
   obtain⟨G,b⟩:=k
   simp only at c n
   subst c
   exact⟨.mp (0,b) g,a,by simp only[ren];exact .keep _ (Y6 (u.out b n)),fun e=>by omega,h⟩
  ·rename_i q s _ f hl he
   have f:=Ya f
   obtain⟨w,z,J,_,_⟩:=B.at hl
   obtain⟨G,b⟩:=k
   simp only at f
   subst f
   refine⟨.d (.map q s),a,?_,fun _ r=>by simp[ren],h⟩
   simp only[ren]
   rw[w]
   have F:(C.r γ).κ (1,b)=(C.l+1,b):=u.own b
   exact .mp _ q s (by rw[F]) z (by rw[J,he])
  grind
 |.iptr _ _,a,K,h=>by simp only[frz]at h
 |.ifc t ds q,a,K,h=>⟨.ifc t ds q,a,by simp only[ren];exact .keep _ rfl,fun _ r=>by simp[ren],h⟩
 |.fn _ _ _,a,K,h=>by simp only[frz]at h
 |.tup _,a,K,h=>by simp only[frz]at h
theorem VS(j:CxOk C){γ:Ab→Nat}{H d:Hp}(l:C3 (C.r γ) H d)(m:∀k,(H k).live=true→k.1=1∨(k.1=0∧k.2<C.outs)):∀(xs:List AV) {a:AT} {K:List AV→AT→Prop},HS H xs a K→
  ∃ys f,((Aj (C.r γ) xs).length=(Aj (C.r γ) ys).length∧∀(i:Nat) (x y:AV),(Aj (C.r γ) xs)[i]?=some x→(Aj (C.r γ) ys)[i]?=some y→Fz d C.l x y)∧(C.outs=0→∀r,Aj r ys=ys)∧K ys f
 |[],a,K,h=>⟨[],a,⟨by simp[Aj],fun i x y b=>by simp[Aj]at b⟩,fun _ r=>by simp[Aj],h⟩
 |x::xs,a,K,h=>by
  simp only[HS]at h
  obtain⟨y,f,p,n,q⟩:=ZnE j l m x h
  obtain⟨ys,c,g,o,s⟩:=VS j l m xs q
  refine⟨y::ys,c,⟨by simp[Aj,g.1],fun i x' t b hy=>?_⟩,fun e r=>by simp only[Aj];rw[n e r,o e r],s⟩
  cases i with
  |zero=>simp only[Aj,Y5,Yg]at b hy;subst b;subst hy;exact p
  |succ i=>simp only[Aj,Jp]at b hy;exact g.2 i x' t b hy
end
theorem Zof(o:AX P T){γ:Ab→Nat}(n:RG (C.r γ) C.l C.outs [] τ σ){v:ResultVar}{K:AV→Prop}(h:ZN T τ v K):∃x,K x∧∀m (f:List AV→Prop),DN P σ m (fun xs=>f (ren (C.r γ) x::xs))→DN P σ (v::m) f:=by
 cases v with
 |tmp t=>exact⟨_,h,fun m f j=>by unfold DN;rw[(n.s t).1 AU];exact j⟩
 |cell p t=>
  simp only[ZN]at h
  split at h
  case h_2=>exact h.elim
  rename_i k g off i w hi
  have l:σ.s p=ren (C.r γ) (.ptr k g off):=by rw[(n.s p).1 AU,w]
  split at h
  ·rename_i hl d
   split at h
   case h_2=>exact h.elim
   rename_i c r s
   refine⟨_,h,fun m f j=>?_⟩
   have:=VT (a:=.go .nil) (g:=none) (K:=fun v _=>v=.agg c) (o _ _ hi) n.h (fun b e=>by cases e) (x:=.ptr k g off) (by simp only[KS,hl,d,r,s])
   unfold DN
   rw[l]
   refine Wn (fun y hy=>?_) this
   obtain⟨v,q,rfl,rfl⟩:=hy
   exact j
  ·rename_i hl d
   split at h
   case h_2=>exact h.elim
   rename_i c u
   refine⟨_,h,fun m f j=>?_⟩
   have:=VT (a:=.go .nil) (g:=none) (K:=fun v _=>v=c) (o _ _ hi) n.h (fun b e=>by cases e) (x:=.ptr k g off) (by simp only[KS,hl,d,u])
   unfold DN
   rw[l]
   refine Wn (fun y hy=>?_) this
   obtain⟨v,q,rfl,rfl⟩:=hy
   exact j
  grind
theorem l8(e:AX P T){γ:Ab→Nat}(d:RG (C.r γ) C.l C.outs [] τ σ):∀(b:List ResultVar) {K:List AV→Prop},Uu T τ b K→∃xs,K xs∧∀a:List AV→Prop,a (Aj (C.r γ) xs)→DN P σ b a
 |[],K,h=>⟨[],h,fun a c=>by unfold DN;simpa[Aj]using c⟩
 |v::b,K,h=>by
  obtain⟨x,f,g⟩:=Zof e d h
  obtain⟨xs,i,j⟩:=l8 e d b f
  exact⟨x::xs,i,fun a c=>g b a (j _ (by simpa[Aj]using c))⟩
structure OutsOk (C:Cx) (γ:Ab→Nat) (bs:List Blk) (H':Hp):Prop where
 len:bs.length=C.outs
 g:∀i b,bs[i]?=some b→(H' (C.κ (0,i))).g=γ (0,i)+b.g
 live:∀i b,bs[i]?=some b→b.live=true→H' (C.κ (0,i))=AA (C.r γ) (0,i) b
 o:∀k:Ab,¬C.no k→H' k=C.H0 k
theorem Wq{H:Hp}:∀(n i j:Nat),(Hy H n i)[j]?=if j<n then some (H (0,i+j))else none
 |0,i,j=>by simp[Hy]
 |n+1,i,0=>by simp[Hy]
 |n+1,i,j+1=>by
  simp only[Hy,Jp,Wq n (i+1) j]
  grind
theorem mP{H:Hp}:∀(n i:Nat),(Hy H n i).length=n
 |0,i=>rfl
 |n+1,i=>by simp[Hy,mP n]
theorem uV(l:CxOk C)(F:AX P T){o:List ResultVar}{LPost:AV→List Blk→Prop}{d:AV→Hp→Prop}{e:Exit}(J:∀γ y s q,C.G γ→LPost y s→OutsOk C γ s q→(C.outs=0→∀r,ren r y=y)→d (ren (C.r γ) y) q)
  (h:Is n C (FQ T o C.outs LPost e) σ):∃f,fins P C.l C.H0 o d e f∧Wk n C σ f:=by
 obtain⟨γ,τ,f,H,⟨z,a,A⟩,j,K⟩:=h
 refine⟨f,⟨z,?_⟩,K⟩
 obtain⟨xs,B,D⟩:=l8 (P:=P) F j o A
 obtain⟨ys,M,g,w,E⟩:=VS l j.h j.k xs B
 refine D _ ⟨ren (C.r γ) (C4 ys),?_,?_⟩
 ·have hl:=g.1
  have g:=g.2
  have v:ren (C.r γ) (C4 ys)=C4 (Aj (C.r γ) ys):=by
   match ys with
   |[]=>simp[C4,ren,Aj]
   |[y]=>simp[C4,Aj]
   |y::t::ys=>simp[C4,ren,Aj]
  rw[v]
  generalize Aj (C.r γ) ys=p at hl g
  generalize Aj (C.r γ) xs=u at hl g
  match u,p,hl with
  |[],[],_=>exact .tup _ _ rfl fun i x y L=>by simp at L
  |[x],[y],_=>exact g 0 x y rfl rfl
  |x::x'::u,y::t::ys,hl=>exact .tup _ _ hl g
 ·refine J γ _ _ _ H E ⟨mP _ _,fun i b hi=>?_,fun i b hi G=>?_,fun k I=>?_⟩ (fun e r=>?_)
  ·rw[Wq]at hi
   split at hi
   ·rename_i c
    simp only[YS,Yg]at hi
    subst hi
    rw[show GV C.l f.H C.H0 (C.κ (0,i))=f.H (C.κ (0,i))from Yi (l.out i c)]
    exact j.go i c
   grind
  ·rw[Wq]at hi
   split at hi
   ·rename_i c
    simp only[YS,Yg]at hi
    subst hi
    rw[show GV C.l f.H C.H0 (C.κ (0,i))=f.H (C.κ (0,i))from Yi (l.out i c)]
    exact j.h _ G
   grind
  ·unfold GV
   split
   ·rename_i m;exact j.o k m I
   ·rfl
  ·have:=w e r
   match ys with
   |[]=>simp[C4,ren,Aj]
   |[y]=>simp only[Aj,List.cons.injEq,Hf]at this;simpa[C4]using this
   |y::t::ys=>simp only[C4,ren,this]
def C2:Nat→List AV→List (Nat×AV)
 |_,[]=>[]
 |i,x::xs=>(i,x)::C2 (i+1) xs
theorem n7{r:Ren}:∀(ys:List AV) (i j:Nat),ren r (AJ (C2 i ys) (i+j))=args (Aj r ys) j
 |[],i,j=>by simp[C2,AJ,ren,Aj,args]
 |y::ys,i,0=>by simp[C2,AJ,Aj,args]
 |y::ys,i,j+1=>by
  have a:=n7 (r:=r) ys (i+1) j
  simp only[C2,AJ]
  split
  ·rename_i h;have:=Ya h;omega
  ·rw[show i+(j+1)=i+1+j from by omega,a]
   simp[args,Aj]
theorem nd{f:FuncId}{fn:Func}(z:List ResultVar){c:Code}{l:Nat}{xs:List AV}{H:Hp}{a:AV→Hp→Prop}{LPost:AV→List Blk→Prop}(C:Base→Cx){γ:Ab→Nat}{ys:List AV}{hs:List (Ab×Blk)}
  (O:P.funcs[f]?=some fn) (N:fn.body=some c) (g:(fn.name== "runtime.NumGoroutine")=false) (v:fn.ntmps=n) (W:fn.results.toList=z) (X:xs.length≤n) (M:AX P T)
  (u:∀B,CxOk (C B)) (I:∀B,(C B).l=l∧(C B).B=B∧(C B).H0=H∧(C B).G γ) (x:∀B,Aj ((C B).r γ) ys=xs) (Y:∀d,γ (1,d)=0) (S:∀d,As hs (1,d)=Eb)
  (b:∀B k,(As hs k).live=true→k.1=0∧k.2<(C B).outs∧H ((C B).κ k)=AA ((C B).r γ) k (As hs k)) (R:∀B i,i<(C B).outs→(H ((C B).κ (0,i))).g=γ (0,i)+(As hs (0,i)).g)
  (U:∀B γ y E D,(C B).G γ→LPost y E→OutsOk (C B) γ E D→((C B).outs=0→∀r,ren r y=y)→a (ren ((C B).r γ) y) D)
  (h:∀B:Base,LW P n (C B) c (Aa (C2 0 ys) hs) (FQ T z (C B).outs LPost)):Zb8 P f l xs H a:=by
 refine Zrl z O N g v W X fun B=>?_
 obtain⟨hl,t,s,Q⟩:=I B
 have J:RG ((C B).r γ) (C B).l (C B).outs [] (Aa (C2 0 ys) hs) ⟨args xs,CL l H⟩:=by
  refine⟨fun j=>⟨fun _=>?_,fun v=>absurd AU v⟩,fun k m=>?_,fun d=>?_,fun i hi=>?_,fun k m=>.inr ⟨(b B k m).1,(b B k m).2.1⟩,fun k m _=>?_⟩
  ·have:=n7 (r:=(C B).r γ) ys 0 j
   rw[YS,x]at this
   exact this.symm
  ·obtain⟨p,q,F⟩:=b B k m
   show CL l H ((C B).κ k)=_
   obtain⟨k1,k2⟩:=k
   simp only at p q
   subst p
   rw[Xf (by rw[←hl];exact(u B).out _ q)]
   exact F
  ·show(CL l H ((C B).l+1,d)).g=γ (1,d)+(As hs (1,d)).g
   rw[hl,Zz4,Y,S]
   rfl
  ·show(CL l H ((C B).κ (0,i))).g=γ (0,i)+(As hs (0,i)).g
   rw[Xf (by rw[←hl];exact(u B).out _ hi)]
   grind
  ·show CL l H k=(C B).H0 k
   rw[s]
   exact Xf (by rw[←hl];exact m)
 have:=h B γ _ Q J
 intro o w K
 rw[hl,t]at this
 refine wp_mono (this o w K) fun e G w' ⟨σ',V,L⟩=>?_
 obtain⟨A,p,q⟩:=uV (P:=P) (u B) M (U B) V
 rw[hl,s]at p
 have F:=q o w
 refine⟨A,p,?_⟩
 have Z:=q G w'
 grind
end
end Go.Eng
namespace Go.Eng
set_option linter.all false
open Go Go.RowKit
def Aq:List (Nat×TI)→Nat→Option TI
 |[],_=>none
 |(i,x)::r,j=>match Nat.beq i j with|true=>some x|false=>Aq r j
theorem q9{P:Program}:∀(tl:List (Nat×TI)),(∀p∈tl,TIok P p.1 p.2)→AX P (Aq tl)
 |[],_,t,i,h=>by simp[Aq]at h
 |(j,x)::r,b,t,i,h=>by
  simp only[Aq]at h
  split at h
  ·rename_i he
   have he:=Ya he
   cases h
   subst he
   exact b _ (YM ..)
  ·exact q9 r (fun p a=>b p (YH _ a)) t i h
theorem TIok.of{P:Program}{t:TypeId}{i:TI}(f:C8 P t=some i.agg)(k:Go.Eng.kin P t=i.kin)(m:P.cellsOf t=i.siz)(n:i.elm=none∨Go.Eng.elm P t=i.elm)
  (o:((List.range i.fld.length).map fun j=>(Go.Eng.fld P t j,JE P t j))=i.fld.map fun x=>(some (x.1,x.2.1),some x)) (p:i.zer=none∨Go.Eng.zer P t=i.zer) (q:i.eqt=none∨KY P t=i.eqt) (r:i.str=false∨JQ P t=true)
  (s:i.ik=none∨P.underlying t=i.ik.map .int) (g:i.byt=none∨(∃b,P.bytesOf t≤b∧P.bytesOf t≠0∧i.byt=some b)) (c:i.zer=none∨(i.zer.getD []).all AV.flat=true) (d:i.mp=none∨Jv P t=i.mp:=by first|exact .inl rfl|exact .inr (by kernel_rfl)):TIok P t i where
 agg:=f
 kin:=k
 siz:=m
 elm:=fun e h=>by rcases n with a|a<;>rw[h]at a<;>first|exact a|cases a
 fld:=fun j x h=>by
  have:=congrArg (fun l=>l[j]?) o
  grind
 zer:=fun e h=>by rcases p with a|a<;>rw[h]at a<;>first|exact a|cases a
 eqt:=fun e h=>by rcases q with a|a<;>rw[h]at a<;>first|exact a|cases a
 str:=fun h=>by rcases r with a|a<;>first|exact a|(rw[h]at a;cases a)
 ik:=fun e h=>by rcases s with a|a<;>rw[h]at a<;>first|exact a|cases a
 byt:=fun e h=>by
  grind
 mp:=fun z h=>by rcases d with a|a<;>rw[h]at a<;>first|exact a|cases a
 flt:=fun z h=>by rcases c with a|a<;>rw[h]at a<;>first|exact a|cases a
def RL(l:Nat)(θ:Nat→AV)(H:Hp)(B:Base):Cx:=⟨l,B,fun k=>(l+1,k.2),θ,H,0,fun _=>False,[],fun _=>True⟩
theorem mE(l:Nat)(B:Base)(θ:Nat→AV)(H:Hp):CxOk (RL l θ H B):=⟨fun _=>rfl,fun i h=>absurd h (Ih _),fun i j h=>absurd h (Ih _),fun _ h=>h.elim,fun _ _ _ h=>h⟩
theorem Zsx{l:Nat}{θ:Nat→AV}{H:Hp}{B:Base}{γ:Ab→Nat}{b:List Blk}{a:Hp}(h:OutsOk (RL l θ H B) γ b a):a=H:=funext fun k=>h.o k id
end Go.Eng
namespace Go.Eng
structure Raw where
 num:Int
 wire:Int
 bits:Int
 data:ByteArray
deriving Inhabited,DecidableEq
mutual
inductive Val where
 |mk (kind bits:Int) (text:ByteArray) (list:List Val) (pairs:List Pr) (slots:List Slt) (raws:List Raw)
inductive Pr where
 |mk (key val:Val)
inductive Slt where
 |mk (num:Int) (val:Val)
end
inductive Msk where
 |mk (num:Int) (subs:List Msk)
instance:Inhabited Val:=⟨.mk 0 0 .empty [] [] [] []⟩
instance:Inhabited Pr:=⟨.mk default default⟩
instance:Inhabited Slt:=⟨.mk 0 default⟩
instance:Inhabited Msk:=⟨.mk 0 []⟩
def Val.kind:Val→Int|.mk k _ _ _ _ _ _=>k
def Val.bits:Val→Int|.mk _ b _ _ _ _ _=>b
def Val.text:Val→ByteArray|.mk _ _ t _ _ _ _=>t
def Val.list:Val→List Val|.mk _ _ _ l _ _ _=>l
def Val.pairs:Val→List Pr|.mk _ _ _ _ p _ _=>p
def Val.slots:Val→List Slt|.mk _ _ _ _ _ s _=>s
def Val.raws:Val→List Raw|.mk _ _ _ _ _ _ r=>r
def Pr.key:Pr→Val|.mk k _=>k
def Pr.val:Pr→Val|.mk _ v=>v
def Slt.num:Slt→Int|.mk n _=>n
def Slt.val:Slt→Val|.mk _ v=>v
def Msk.num:Msk→Int|.mk n _=>n
def Msk.subs:Msk→List Msk|.mk _ s=>s
def AQ(s:ByteArray):List D:=[.str s]
def ZRb(s:Int):List D:=[.int .i64 s]
def AE(s:Bool):List D:=[.bool s]
def A4(x:Raw):List D:=[.int .i64 x.num,.int .i64 x.wire,.int .u64 x.bits,.str x.data]
mutual
def AF:Val→List D
 |.mk k b t l p s r=>[.int .i64 k,.int .u64 b,.str t,.list (KE l),.list (JM p),.list (KH s),.list (r.map A4)]
def KE:List Val→List (List D)
 |[]=>[]
 |v::vs=>AF v::KE vs
def Ay:Pr→List D
 |.mk k v=>AF k++AF v
def JM:List Pr→List (List D)
 |[]=>[]
 |v::vs=>Ay v::JM vs
def At:Slt→List D
 |.mk n v=>.int .i64 n::AF v
def KH:List Slt→List (List D)
 |[]=>[]
 |v::vs=>At v::KH vs
end
mutual
def LV:Msk→List D
 |.mk n s=>[.int .i64 n,.list (Q0 s)]
def Q0:List Msk→List (List D)
 |[]=>[]
 |v::vs=>LV v::Q0 vs
end
theorem ZpX(l:List Val):KE l=l.map AF:=by induction l with|nil=>rfl|cons v l a=>simp[KE,a]
theorem ZsO(l:List Pr):JM l=l.map Ay:=by induction l with|nil=>rfl|cons v l a=>simp[JM,a]
theorem ZnT(l:List Slt):KH l=l.map At:=by induction l with|nil=>rfl|cons v l a=>simp[KH,a]
theorem ZoC(l:List Msk):Q0 l=l.map LV:=by induction l with|nil=>rfl|cons v l a=>simp[Q0,a]
def Ae(x:Val):List D:=[.int .i64 x.kind,.int .u64 x.bits,.str x.text,.list (x.list.map AF),.list (x.pairs.map Ay),.list (x.slots.map At),.list (x.raws.map A4)]
def Cg(x:Pr):List D:=[.int .i64 x.key.kind,.int .u64 x.key.bits,.str x.key.text,.list (x.key.list.map AF),.list (x.key.pairs.map Ay),.list (x.key.slots.map At),.list (x.key.raws.map A4),.int .i64 x.val.kind,.int .u64 x.val.bits,.str x.val.text,.list (x.val.list.map AF),.list (x.val.pairs.map Ay),.list (x.val.slots.map At),.list (x.val.raws.map A4)]
def Bq(x:Slt):List D:=[.int .i64 x.num,.int .i64 x.val.kind,.int .u64 x.val.bits,.str x.val.text,.list (x.val.list.map AF),.list (x.val.pairs.map Ay),.list (x.val.slots.map At),.list (x.val.raws.map A4)]
def jU(x:Msk):List D:=[.int .i64 x.num,.list (x.subs.map LV)]
theorem Gb(v:Val):AF v=Ae v:=by
 cases v;simp[AF,Ae,ZpX,ZsO,ZnT,Val.kind,Val.bits,Val.text,Val.list,Val.pairs,Val.slots,Val.raws]
theorem Kj(v:Pr):Ay v=Cg v:=by cases v;simp[Ay,Gb,Ae,Cg,Pr.key,Pr.val]
theorem Kh(v:Slt):At v=Bq v:=by cases v;simp[At,Gb,Ae,Bq,Slt.num,Slt.val]
theorem ZLt(v:Msk):LV v=jU v:=by cases v;simp[LV,jU,ZoC,Msk.num,Msk.subs]
structure Typ where
 kind:Int
 name:ByteArray
deriving Inhabited,DecidableEq
def CJ(x:Typ):List D:=[.int .i64 x.kind,.str x.name]
structure Nt where
 name:ByteArray
 val:Val
deriving Inhabited
def BJ(x:Nt):List D:=[.str x.name,.int .i64 x.val.kind,.int .u64 x.val.bits,.str x.val.text,.list (x.val.list.map AF),.list (x.val.pairs.map Ay),.list (x.val.slots.map At),.list (x.val.raws.map A4)]
structure Fld where
 num:Int
 name:ByteArray
 card:Int
 key:Int
 type:Typ
 union:ByteArray
 hasDefault:Bool
 dflt:Val
 notes:List Nt
deriving Inhabited
def Am(x:Fld):List D:=[.int .i64 x.num,.str x.name,.int .i64 x.card,.int .i64 x.key,.int .i64 x.type.kind,.str x.type.name,.str x.union,.bool x.hasDefault,.int .i64 x.dflt.kind,.int .u64 x.dflt.bits,.str x.dflt.text,.list (x.dflt.list.map AF),.list (x.dflt.pairs.map Ay),.list (x.dflt.slots.map At),.list (x.dflt.raws.map A4),.list (x.notes.map BJ)]
structure Spn where
 lo:Int
 hi:Int
deriving Inhabited,DecidableEq
def B7(x:Spn):List D:=[.int .i64 x.lo,.int .i64 x.hi]
structure By where
 b:UInt8
deriving Inhabited,DecidableEq
def By.v(x:By):Int:=x.b.toNat
def eBy(x:By):List D:=[.int .u8 x.v]
structure Msg where
 name:ByteArray
 fields:List Fld
 reserved:List Spn
 gone:List ByteArray
 notes:List Nt
deriving Inhabited
def Au(x:Msg):List D:=[.str x.name,.list (x.fields.map Am),.list (x.reserved.map B7),.list (x.gone.map AQ),.list (x.notes.map BJ)]
structure Itm where
 name:ByteArray
 num:Int
 notes:List Nt
deriving Inhabited
def B5(x:Itm):List D:=[.str x.name,.int .i64 x.num,.list (x.notes.map BJ)]
structure Enm where
 name:ByteArray
 opn:Bool
 items:List Itm
 reserved:List Spn
 notes:List Nt
deriving Inhabited
def Bi(x:Enm):List D:=[.str x.name,.bool x.opn,.list (x.items.map B5),.list (x.reserved.map B7),.list (x.notes.map BJ)]
structure Mth where
 name:ByteArray
 inn:ByteArray
 out:ByteArray
 shape:Int
 notes:List Nt
deriving Inhabited
def FO(x:Mth):List D:=[.str x.name,.str x.inn,.str x.out,.int .i64 x.shape,.list (x.notes.map BJ)]
structure Svc where
 name:ByteArray
 methods:List Mth
 notes:List Nt
deriving Inhabited
def CK(x:Svc):List D:=[.str x.name,.list (x.methods.map FO),.list (x.notes.map BJ)]
structure Scm where
 messages:List Msg
 enums:List Enm
 services:List Svc
deriving Inhabited
def Ak(x:Scm):List D:=[.list (x.messages.map Au),.list (x.enums.map Bi),.list (x.services.map CK)]
structure Fil where
 name:ByteArray
 space:ByteArray
 imports:List ByteArray
 messages:List Msg
 enums:List Enm
 services:List Svc
deriving Inhabited
def ZRh(x:Fil):List D:=[.str x.name,.str x.space,.list (x.imports.map AQ),.list (x.messages.map Au),.list (x.enums.map Bi),.list (x.services.map CK)]
structure Prb where
 dfn:ByteArray
 num:Int
 err:Int
deriving Inhabited,DecidableEq
def Af(x:Prb):List D:=[.str x.dfn,.int .i64 x.num,.int .i64 x.err]
structure Stp where
 num:Int
 pos:Int
 hasKey:Bool
 key:Val
deriving Inhabited
structure Edt where
 path:List Stp
 kind:Int
 val:Val
deriving Inhabited
class Mv (V:Type) where
 q:Bool
 e:V→List D
 z:V
def C9{V:Type}[Mv V](p:ByteArray×V):List D:=.str p.1::Mv.e p.2
instance:Mv (List Int):=⟨false,fun x=>[.list (x.map ZRb)],[]⟩
instance (V:Type) [Mv V]:Mv (List (ByteArray×V)):=⟨false,fun m=>[.map (Mv.q V) (m.map C9)],[]⟩
structure Web where
 messages:List (ByteArray×Msg)
 enums:List (ByteArray×Bool)
deriving Inhabited
structure Lst where
 dfn:ByteArray
 l:List Prb
deriving Inhabited
structure Acs where
 m:Msg
 s:Scm
deriving Inhabited
structure Nod where
 kind:Int
 bits:Int
 text:ByteArray
 list:Int
 pairs:Int
 slots:Int
 raws:Int
deriving Inhabited,DecidableEq
def ZQx(x:Nod):List D:=[.int .i64 x.kind,.int .u64 x.bits,.str x.text,.int .i64 x.list,.int .i64 x.pairs,.int .i64 x.slots,.int .i64 x.raws]
structure Lnk where
 files:List Fil
 f:Fil
 known:List ByteArray
 messages:List ByteArray
 enums:List Enm
deriving Inhabited
def ZQ0:Raw:=⟨0,0,0,⟨#[]⟩⟩
def JH:Val:=.mk 0 0 ⟨#[]⟩ [] [] [] []
def zPr:Pr:=.mk JH JH
def ZQP:Slt:=.mk 0 JH
def ZRg:Msk:=.mk 0 []
def ZQ9:Typ:=⟨0,⟨#[]⟩⟩
def zNt:Nt:=⟨⟨#[]⟩,JH⟩
def ZQi:Fld:=⟨0,⟨#[]⟩,0,0,ZQ9,⟨#[]⟩,false,JH,[]⟩
def ZP0:Spn:=⟨0,0⟩
def zBy:By:=⟨0⟩
def ZRc:Msg:=⟨⟨#[]⟩,[],[],[],[]⟩
def ZP4:Itm:=⟨⟨#[]⟩,0,[]⟩
def ZQj:Enm:=⟨⟨#[]⟩,false,[],[],[]⟩
def ZQB:Mth:=⟨⟨#[]⟩,⟨#[]⟩,⟨#[]⟩,0,[]⟩
def ZQI:Svc:=⟨⟨#[]⟩,[],[]⟩
def ZRi:Fil:=⟨⟨#[]⟩,⟨#[]⟩,[],[],[],[]⟩
def ZP8:Prb:=⟨⟨#[]⟩,0,0⟩
end Go.Eng
namespace Go.Eng
set_option linter.all false
open Go Go.RowKit
def GR:List Nat→Code→Code
 |[],c=>c
 |0::p,.seq a _=>GR p a
 |_::p,.seq _ b=>GR p b
 |0::p,.cond _ a _=>GR p a
 |_::p,.cond _ _ b=>GR p b
 |_::p,.block _ c=>GR p c
 |_::p,.loop c=>GR p c
 |_::p,.scope c=>GR p c
 |_,c=>c
def Ar(f:Func):Code:=f.body.getD .skip
def Ac{α:Type}(e:α→List D)(xs:List α):List AV:=((xs.map e).flatten).map .d
theorem D0{α:Type}(e:α→List D)(xs:List α):Gj (Ac e xs):=fun x a=>by
 obtain⟨d,_,rfl⟩:=YU.1 a;rfl
theorem F8{α:Type}{e:α→List D}{sz:Nat}(he:∀x,(e x).length=sz)(xs:List α):(Ac e xs).length=xs.length*sz:=by
 unfold Ac
 induction xs with
 |nil=>simp
 |cons x xs a=>simp only[YD,Y4,If,Yw,he,EU,YN]at a⊢;omega
theorem PV{α:Type}(e:α→List D)(xs ys:List α):Ac e (xs++ys)=Ac e xs++Ac e ys:=by simp[Ac]
section
variable {P:Program} {n:Nat} {C:Cx} {τ:St} {Q:Exit→St→Prop}
theorem Zpp{c:Code}(id:Nat)(x:Code)(b:c=.block id x)(h:LW P n C x τ (fun e τ'=>match e with|.exit i=>(match Nat.beq i id with|true=>Q .normal τ'|false=>Q (.exit i) τ')|e=>Q e τ')):LW P n C c τ Q:=b▸Zse (h.mono fun e τ' a=>by
 cases e with
 |exit i=>
  simp only at a⊢
  split at a
  ·rename_i he;rw[Yi (Ya he)];exact a
  ·rename_i he;rw[Yj (by rintro rfl;simp at he)];exact a
 |_=>exact a)
end
theorem Znn{P:Program}{T:Nat→Option TI}{n:Nat}{f:FuncId}{fn:Func}(e:List ResultVar)(c:Code){l:Nat}{xs:List AV}{H:Hp}{a:AV→Hp→Prop}(θ:Nat→AV)(ys:List AV)
  (j:P.funcs[f]?=some fn) (hb:fn.body=some c) (b:(fn.name== "runtime.NumGoroutine")=false) (o:fn.ntmps=n) (r:fn.results.toList=e) (s:xs.length≤n) (g:AX P T)
  (d:Aj ⟨fun k=>(l+1,k.2),fun _=>0,θ,H,fun _=>False⟩ ys=xs) (h:∀B:Base,LW P n (RL l θ H B) c (Aa (C2 0 ys) []) (FQ T e 0 (fun y _=>a y H))):Zb8 P f l xs H a:=
 nd e (RL l θ H) (γ:=fun _=>0) (LPost:=fun y _=>a y H) j hb b o r s g (fun B=>mE l B θ H) (fun B=>⟨rfl,rfl,rfl,trivial⟩) (fun B=>d) (fun _=>rfl) (fun _=>rfl) (fun B k m=>by simp[As,Eb]at m) (fun B i hi=>absurd hi (Ih _))
  (fun B γ y u t _ q p hy=>by rw[hy rfl,Zsx p];exact q) h
theorem vA{α:Type}(e:α→List D)(xs:List α):Bm ((xs.map e).length:Nat) xs.length:=by simp[Bm]
theorem nY{α:Type}{e e':α→List D}{xs:List α}{i:Nat}{x:α}(a:xs[i]?=some x)(he:∀x,e x=e' x):HE (xs.map e) (i:Nat) (e' x):=⟨by omega,by simp[a,he]⟩
theorem vF{α:Type}{e e':α→List D}{xs:List α}{i:Nat}{z:α}(hi:i<xs.length)(he:∀x,e x=e' x):HE (xs.map e) (i:Nat) (e' (xs.getD i z)):=by
 refine nY ?_ he
 grind
theorem rK{a r:Int}(h:a=r)(b: -9223372036854775808≤r)(c:r<9223372036854775808):B3 .i64 a r:=by
 subst h;exact IntWalk.i64_in _ ⟨b,by omega⟩
theorem yd{i len sz:Nat}(h:i<len):JN (i:Nat) len 0 sz (i*sz):=⟨by omega,by omega,by simp⟩
theorem ZrH{sz:Nat}{e:List D}(C:List AV)(he:e.length=sz):EI sz C (.d (.list [e])) 1 (e.map .d):=by
 refine⟨Yk.2 fun x a=>?_,fun q b=>?_,rfl,by simp⟩
 ·obtain⟨d,_,rfl⟩:=YU.1 a;rfl
 grind
theorem Wc{α:Type}{sz:Nat}{e:α→List D}(C:List AV)(xs:List α)(he:∀x,(e x).length=sz):EI sz C (.d (.list (xs.map e))) xs.length (Ac e xs):=by
 refine⟨Yk.2 fun x a=>?_,fun q b=>?_,by simp,rfl⟩
 ·obtain⟨d,_,rfl⟩:=YU.1 a;rfl
 grind
theorem Zsr{α:Type}{sz byt:Nat}{e:α→List D}(xs ys:List α){a:Nat}(he:∀x,(e x).length=sz)(b:xs.length+ys.length=a)(hb:a*byt≤140737488355328):
  Ju (Ac e xs) 0 xs.length ys.length sz byt (Ac e ys) (Ac e (xs++ys)) a:=
 ⟨by rw[F8 he,YS],by rw[Lr,G8,PV],b,hb⟩
theorem Zr0{α:Type}(e:α→List D)(x:α):Ac e [x]=(e x).map .d:=by simp[Ac]
theorem WM{α:Type}{sz:Nat}{e:α→List D}(xs:List α)(b:sz≠0)(he:∀x,(e x).length=sz):FY (Ac e xs) 0 xs.length sz (xs.map e):=
 ⟨by simp,b,fun q a=>by obtain⟨x,_,rfl⟩:=YU.1 a;exact he x,by rw[F8 he];simp,by rw[Lr,G8,←F8 he xs,Su];rfl⟩
theorem m9{α:Type}{e e':α→List D}{xs:List α}{i:Int}{z:α}(a:0≤i)(hi:i<xs.length)(he:∀x,e x=e' x):HE (xs.map e) i (e' (xs.getD i.toNat z)):=by
 have h:=vF (e:=e) (e':=e') (xs:=xs) (i:=i.toNat) (z:=z) (by omega) he
 grind
theorem yD(s:ByteArray):s.data.toList.length=s.size:=by simp
theorem Zzn{s:ByteArray}{i:Nat}{x:UInt8}(h:s.data.toList[i]?=some x):HQ s (i:Nat) (x.toNat:Nat):=⟨by omega,x,by simpa using h,rfl⟩
theorem oy{s:ByteArray}{i:Nat}(h:i<s.size):HQ s (i:Nat) ((s.data.toList.getD i 0).toNat:Nat):=by
 refine Zzn ?_
 rw[Yu,Ye (by rw[yD];exact h)];rfl
theorem Wd{α:Type}{sz byt c:Nat}{e:α→List D}{news:List AV}(xs ys:List α)(he:∀x,(e x).length=sz)(a:ys.length=c)(b:news=Ac e ys)(hb:(xs.length+ys.length)*byt≤140737488355328):
  Ju (Ac e xs) 0 xs.length c sz byt news (Ac e (xs++ys)) (xs++ys).length:=by
 subst a;subst b
 exact Zsr xs ys he (by rw[Yw]) (by rw[Yw];exact hb)
section
variable {P:Program} {l:Nat} {r:Ren} {f:FuncId} {xs xs':List AV} {hb:List (Ab×Blk)} {x x':AV}
def BH(P:Program)(l:Nat)(no:Ab→Prop)(H:Hp)(c:AV)(e:List AV)(y:AV):Prop:=
 ∃f first a,c=.fn (.func f) first a∧∀l' b,l≤l'→(∀k:Ab,k.1≤l→¬no k→b k=H k)→Zb8 P f l' (first++e++a) b (fun g d=>g=y∧d=b)
theorem Zru{i:Nat}{c:AV}(j:r.θ i=c)(h:BH P l r.no r.H0 c xs' x')(d:Aj r xs=xs')(e:ren r x=x'):KM P l r i xs hb x:=by
 obtain⟨f,first,a,rfl,h⟩:=h
 exact⟨f,first,a,j,fun b _ g=>by rw[d,e];exact h (l+1) b (Nat.le_succ l) g⟩
theorem Zs2{H:Hp}{no:Ab→Prop}{c:List AV}{y:AV}(h:∀l' a,Zb8 P f l' c a (fun d b=>d=y∧b=a)):BH P l no H (.fn (.func f) [] []) c y:=
 ⟨f,[],[],rfl,fun l' a _ _=>by simpa using h l' a⟩
end
section
variable {P:Program} {T:Nat→Option TI} {n:Nat} {C:Cx} {τ:St} {Q:Exit→St→Prop}
theorem u3(g:CxOk C)(k:AX P T)(hm:P.follows .mixedOrders=true){os:Nat}{fx:List Nat}(d:C.outs=os)(i:C.fx=fx){c:Code}(a:AT)(lf e:Lf)(f:List ResultVar){b:AV→List Blk→Prop}(q:Ren→(Exit→St→Prop)→(AV→List Blk→Prop)→Prop)
  (l:∀r Q b,Ca P T C.l n os r c a τ (KB T f os fx r b lf e Q)=q r Q b) (j:∀τ,FQ T f os b .ret τ→Q .ret τ) (h:∀r,r.θ=C.θ→r.H0=C.H0→r.κ=C.κ→r.no=C.no→q r Q b):LW P n C c τ Q:=
 xM g k hm a lf e (by rw[d];exact j) (fun γ=>by rw[d,i,l];exact h _ rfl rfl rfl rfl)
theorem ZyK(e:CxOk C)(g:AX P T)(hm:P.follows .mixedOrders=true){os:Nat}(f:C.outs=os){c:Code}(a:AT)(d:List ResultVar){b:AV→List Blk→Prop}(q:Ren→(AV→List Blk→Prop)→Prop)
  (i:∀r b,Ca P T C.l n os r c a τ (KF T d os b)=q r b) (h:∀r,r.θ=C.θ→r.H0=C.H0→r.κ=C.κ→r.no=C.no→q r b):LW P n C c τ (FQ T d os b):=by
 subst f
 exact xI e g hm a (fun γ=>by rw[i];exact h _ rfl rfl rfl rfl)
mutual
theorem Zq3{H:Hp}:∀(x:AV) {a:AT} {K c:AV→AT→Prop},(∀y a,K y a→c y a)→frz H x a K→frz H x a c
 |.d x,a,K,c,b,h=>b _ _ h
 |.e0,a,K,c,b,h=>b _ _ h
 |.agg xs,a,K,c,b,h=>mT xs (fun ys a h=>b _ _ h) h
 |.ref k g off m,a,K,c,b,h=>by
  unfold frz at h⊢
  grind
 |.top,a,K,c,b,h=>by simp only[frz]at h
 |.p _,a,K,c,b,h=>by simp only[frz]at h
 |.ptr _ _ _,a,K,c,b,h=>by simp only[frz]at h
 |.mp k g,a,K,c,b,h=>by
  unfold frz at h⊢
  grind
 |.iptr _ _,a,K,c,b,h=>by simp only[frz]at h
 |.ifc _ _ _,a,K,c,b,h=>b _ _ h
 |.fn _ _ _,a,K,c,b,h=>by simp only[frz]at h
 |.tup _,a,K,c,b,h=>by simp only[frz]at h
theorem mT{H:Hp}:∀(xs:List AV) {a:AT} {K b:List AV→AT→Prop},(∀y a,K y a→b y a)→HS H xs a K→HS H xs a b
 |[],a,K,b,c,h=>c _ _ h
 |x::xs,a,K,b,c,h=>by
  simp only[HS]at h⊢
  exact Zq3 x (fun y a h=>mT xs (fun ys a h=>c _ _ h) h) h
end
end
end Go.Eng
