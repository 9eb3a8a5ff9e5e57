import Derived.Test.YtalafnjhcecdpaaGreatDoorZa07
import Derived.Test.YtalafnjhcecdpaaGreatDoorZa00
namespace Go.Eng
set_option linter.all false
open Go Go.RowKit
def KF(T:Nat->Option TI)(c:List ResultVar)(os:Nat)(b:AV->List Blk->Prop):Exit->St->AT->Prop
 |.normal,τ,a=>Pc T c os τ a b
 |.ret,τ,a=>Pc T c os τ a b
 |_,_,_=>False
def KB(T:Nat->Option TI)(d:List ResultVar)(os:Nat)(fx:List Nat)(r:Ren)(b:AV->List Blk->Prop)(lf c:Lf)(Q:Exit->St->Prop):Exit->St->AT->Prop
 |.ret,τ,a=>Pc T d os τ a b
 |.normal,τ,a=>A9 r os a τ (λτ _=>Ei fx lf τ (Q .normal))
 |.exit i,τ,a=>A9 r os a τ (λτ _=>Ei fx c τ (Q (.exit i)))
 |_,_,_=>False
section
variable {P:Program} {T:Nat->Option TI} {n:Nat} {C:Cx} {τ σ:St} {Q:Exit->St->Prop}
theorem UF{l:Nat}{ds:List (Option Nat)}:∀(ops:List Oper) {K c:St->Prop} {σ:St},(∀σ,K σ->c σ)->D5 P l n ds ops K σ->D5 P l n ds ops c σ
 |[],K,c,σ,b,h=>b _ h
 |o::a,K,c,σ,b,h=>by
  unfold D5 at h⊢;split at h
  ·exact Uv (λσ h=>UF a b h) h
  ·split at h
   ·refine⟨λe=>Uv (λσ h=>UF a b h) (h.1 e),λe=>?_⟩;have d:=h.2 e;split at d
    ·exact⟨d.1,UF a b d.2⟩
    grind
   grind
theorem P6{γ:Ad->Nat}{env:BI}(h:RG (C.r γ) C.l C.outs env τ σ):∃a,RG (C.r γ) C.l C.outs [] (DS env τ) a/\Wk n C σ a:=by
 refine⟨⟨λj=>ren (C.r γ) ((DS env τ).s j),σ.H⟩,⟨λj=>⟨λ_=>rfl,λd=>absurd A8 d⟩,h.h,h.g,h.go,h.k,h.o⟩,λb w c=>?_⟩;obtain⟨s,H⟩:=σ;refine R.weaken c λj=>?_;simp only[DS];split
 ·rename_i he;left;exact((h.s j).1 (by rw[he];exact A8)).symm
 ·right;simp[ren]
def a8(n:Nat)(C:Cx)(γ:Ad->Nat)(K:Exit->St->AT->Prop)(e:Exit)(σ:St):Prop:=∃τ a b,K e τ a/\RG (C.r γ) C.l C.outs [] τ b/\Wk n C σ b
theorem rG{r:Ren}{H a:Hp}(l:RenOk r C.l C.outs)(o:DV r H a){d:Nat}{s s':Nat->AV}(hs:∀j,s' j=ren r (s j)){A:Prop}:∀{m:List (Nat×List (List D))},WX H d s A m->A/\∀p∈m,∃off c,s' p.1=.ref (C.l+1,d) (a (C.l+1,d)).g off c/\
  p.2.length=c/\(∀e∈p.2,e.length=(a (C.l+1,d)).sz)/\(off+c)*(a (C.l+1,d)).sz<=(a (C.l+1,d)).cells.length/\((a (C.l+1,d)).cells.drop (off*(a (C.l+1,d)).sz)).take (c*(a (C.l+1,d)).sz)=p.2.flatten.map .d
 |[],h=>⟨h,λp f=>by cases f⟩
 |(j,x)::m,h=>by
  simp only[WX]at h;split at h
  case h_2=>exact h.elim
  rename_i k q off c w;split at h
  case h_2=>exact h.elim
  rename_i i hl;have i:=Cw.1 i;subst i;obtain⟨⟨f1,f2,f3,f4,f5⟩,h⟩:=h;obtain⟨v,y⟩:=rG l o hs h;obtain⟨n,t,u,b,g⟩:=o.at hl;rw[l.own]at n t u b g;refine⟨v,λp f=>?_⟩;rcases Yy.1 f with rfl|f
  ·refine⟨off,c,by rw[hs,w];simp[ren,l.own,n],f1,by rw[b];exact f3,by rw[b,g,CR];exact f4,?_⟩;rw[b,g,Fg,FR,f5,Iq]
  grind
theorem rm{r:Ren}{H a:Hp}(s:RenOk r C.l C.outs)(m:DV r H a){d:Nat}{A:Prop}:∀{cs:List (Ad×Nat×List (List D))},WQ H d A cs->A/\∀p∈cs,p.1.1=1/\p.1≠(1,d)/\(H p.1).live=true/\∃off c,(a (r.κ p.1)).cells[p.2.1]?=some (.ref (C.l+1,d) (a (C.l+1,d)).g off c)/\
  p.2.2.length=c/\(∀e∈p.2.2,e.length=(a (C.l+1,d)).sz)/\(off+c)*(a (C.l+1,d)).sz<=(a (C.l+1,d)).cells.length/\((a (C.l+1,d)).cells.drop (off*(a (C.l+1,d)).sz)).take (c*(a (C.l+1,d)).sz)=p.2.2.flatten.map .d
 |[],h=>⟨h,λp j=>by cases j⟩
 |(k,i,B)::cs,h=>by
  simp only[WQ]at h;split at h
  case h_2=>exact h.elim
  rename_i k' q off c z f b u;split at h
  case h_2=>exact h.elim
  rename_i n hl;have n:=Cw.1 n;subst n;obtain⟨⟨f1,f2,f3,f4,f5⟩,h⟩:=h;obtain⟨x,E⟩:=rm s m h;obtain⟨t,v,w,g,l⟩:=m.at hl;rw[s.own]at t v w g l;refine⟨x,λp j=>?_⟩;rcases Yy.1 j with rfl|j
  ·have y:=m k b;have o:k≠(1,d):=λe=>by rw[Cw.2 e]at f;cases f
   refine⟨Ye z,o,b,off,c,?_,f1,by rw[g];exact f3,by rw[g,l,CR];exact f4,?_⟩
   ·rw[y];simp only[AJ,In];rw[Cp]at u;rw[u];simp[ren,s.own,t]
   ·rw[g,l,Fg,FR,f5,Iq]
  grind
theorem sE{r:Ren}:∀(b:List (Nat×List (List D))) {s s':Nat->AV},(∀j,s' j=ren r (s j))->∀j,JH b s' j=ren r (JH b s j)
 |[],s,s',h,j=>h j
 |(i,c)::b,s,s',h,j=>sE b (s:=upd s i (.d (.list c))) (s':=upd s' i (.d (.list c))) (λq=>by
   simp only[upd];by_cases a:q=i
   ·rw[Ym a,Ym a];simp[ren]
   ·rw[Yk a,Yk a];exact h q) j
theorem UB{r:Ren}(xs:List AV)(i:Nat)(x:AV):(Ao r xs).set i (ren r x)=Ao r (xs.set i x):=by rw[FS,FS,OO]
theorem tO{γ:Ad->Nat}(d:CxOk C):∀(cs:List (Ad×Nat×List (List D))) {τ σ:St},(∀p∈cs,p.1.1=1/\(τ.H p.1).live=true)->RG (C.r γ) C.l C.outs [] τ σ->
  RG (C.r γ) C.l C.outs [] ⟨τ.s,I5 cs τ.H⟩ ⟨σ.s,I5 (cs.map λp=>((C.r γ).κ p.1,p.2)) σ.H⟩
 |[],τ,σ,_,h=>h
 |(k,i,a)::cs,τ,σ,e,h=>by
  obtain⟨j,b⟩:=e _ (YJ ..);have l:=h.h k b;have c:=RG.updH (d.ren γ) h k ⟨(τ.H k).g,true,(τ.H k).e,(τ.H k).sz,(τ.H k).cells.set i (.d (.list a))⟩ rfl (.inl j);have f:AJ (C.r γ) k ⟨(τ.H k).g,true,(τ.H k).e,(τ.H k).sz,(τ.H k).cells.set i (.d (.list a))⟩=⟨(σ.H ((C.r γ).κ k)).g,(σ.H ((C.r γ).κ k)).live,(σ.H ((C.r γ).κ k)).e,(σ.H ((C.r γ).κ k)).sz,(σ.H ((C.r γ).κ k)).cells.set i (.d (.list a))⟩:=by rw[l];simp only[AJ];rw[<-UB];simp[ren]
  rw[f]at c;have g:(⟨(τ.H k).g,true,(τ.H k).e,(τ.H k).sz,(τ.H k).cells.set i (.d (.list a))⟩:Blk)=⟨(τ.H k).g,(τ.H k).live,(τ.H k).e,(τ.H k).sz,(τ.H k).cells.set i (.d (.list a))⟩:=by rw[b]
  rw[g]at c;have:=tO d cs (λp m=>by
   obtain⟨n,o⟩:=e p (YH _ m);refine⟨n,?_⟩;show(updH τ.H k _ p.1).live=true;unfold updH;split
   ·exact b
   ·exact o) c
  exact this
theorem dw{r:Ren}{cs:List AV}(h:FW cs):FW (Ao r cs):=λx hx=>by
 rw[FS]at hx;obtain⟨y,hy,rfl⟩:=YV.1 hx;have:=h y hy;cases y with
 |d d=>simp[ren]
 |_=>cases this
theorem i7{H:Hp}{d:Nat}{s:Nat->AV}:∀{b:List Nat},WY H d s b=true->∀j∈b,∃g,s j=.mp (1,d) g/\BX H (1,d) g=true
 |[],_,j,a=>by cases a
 |i::r,h,j,a=>by
  simp only[WY]at h;split at h
  ·rename_i k g he;simp only[Yb]at h;have c:=Cw.1 h.1.1;subst c;rcases Yy.1 a with rfl|a
   ·grind
   ·exact i7 h.2 j a
  ·cases h
theorem uC{H:Hp}{d:Nat}{s:Nat->AV}:∀{b:List Nat},WZ H d s b=true->∀j∈b,∃g,s j=.ptr (1,d) g 0/\BX H (1,d) g=true
 |[],_,j,a=>by cases a
 |i::r,h,j,a=>by
  simp only[WZ]at h;split at h
  ·rename_i k g he;simp only[Yb]at h;have c:=Cw.1 h.1.1;subst c;rcases Yy.1 a with rfl|a
   ·grind
   ·exact uC h.2 j a
  ·cases h
theorem Ci(I:CxOk C){γ:Ad->Nat}:∀(a:AT) {τ σ:St} {K:St->AT->Prop},A9 (C.r γ) C.outs a τ K->RG (C.r γ) C.l C.outs [] τ σ->∃τ' G F,K τ' G/\RG (C.r γ) C.l C.outs [] τ' F/\Wk n C σ F
 |.frz d V cs b,τ,σ,K,h,f=>by
  have l:=I.ren γ;have hs:∀j,σ.s j=ren (C.r γ) (τ.s j):=λj=>(f.s j).1 A8;simp only[A9]at h;split at h
  case h_2=>exact h.elim
  rename_i hl hz;have hz:=Yj hz;obtain⟨h,hjs⟩:=rG l f.h hs h;obtain⟨h,hcs⟩:=rm l f.h h;have t:=f.h _ hl;rw[l.own]at t;have z:(σ.H (C.l+1,d)).live=true:=by rw[t];rfl
  have U:(σ.H (C.l+1,d)).sz=(τ.H (1,d)).sz:=by rw[t];rfl
  have o:(σ.H (C.l+1,d)).g=(C.r γ).γ (1,d)+(τ.H (1,d)).g:=by rw[t];rfl
  have u:=RG.updK l f (1,d) ⟨(τ.H (1,d)).g,false,(τ.H (1,d)).e,(τ.H (1,d)).sz,(τ.H (1,d)).cells⟩ {σ.H (C.l+1,d)with live:=false } (λe=>by cases e) o (.inl rfl);rw[l.own]at u;have A:=tO I cs (λp hp=>by obtain⟨q1,q2,q3,_⟩:=hcs p hp;refine⟨q1,?_⟩;show(updH τ.H (1,d) _ p.1).live=true;rw[AF _ _ q2];exact q3) u;have Q:RG (C.r γ) C.l C.outs [] ⟨JH V τ.s,I5 cs (updH τ.H (1,d) ⟨(τ.H (1,d)).g,false,(τ.H (1,d)).e,(τ.H (1,d)).sz,(τ.H (1,d)).cells⟩)⟩
    ⟨JH V σ.s,I5 (cs.map λp=>((C.r γ).κ p.1,p.2)) (updH σ.H (C.l+1,d) {σ.H (C.l+1,d)with live:=false })⟩:=
   ⟨λj=>⟨λ_=>sE V hs j,λT=>absurd A8 T⟩,A.h,A.g,A.go,A.k,A.o⟩
  obtain⟨τ',G,F,N,v,O⟩:=Ci I b h Q;refine⟨τ',G,F,N,v,Wk.trans (λL w M=>?_) O⟩;obtain⟨s,H⟩:=σ;refine R.freeze M (k:=(C.l+1,d)) (Yf _) z (by rw[U];omega) V (cs.map λp=>((C.r γ).κ p.1,p.2)) hjs (λp hp=>?_);obtain⟨pp,hpp,rfl⟩:=YV.1 hp;obtain⟨q1,q2,q3,q4⟩:=hcs pp hpp;obtain⟨⟨p1,p2⟩,p3⟩:=pp;simp only at q1 q2 q3 q4;subst q1;have hlv:(H ((C.r γ).κ (1,p2))).live=true:=by have:=f.h _ q3;simp only at this;rw[this];rfl
  exact⟨by simp only;rw[l.own];intro e;simp at e;exact q2 (by rw[e]),by simp only;rw[l.own];exact Yf _,hlv,q4⟩
 |.adc k i d e sz b,τ,σ,K,h,f=>by
  have l:=I.ren γ;simp only[A9]at h;split at h
  case h_2=>exact h.elim
  rename_i P hne hlv E;have P:=Ye P;have hne:k≠(1,d):=λe=>by rw[Cw.2 e]at hne;cases hne
  obtain⟨N,v⟩:=k;simp only at P;subst P;have t:=f.h _ hlv;have u:=RG.updH l f (1,d) ⟨(τ.H (1,d)).g+1,true,e,sz,[]⟩ rfl (.inl rfl);have A:=RG.updH l u (1,v) ⟨(τ.H (1,v)).g,true,(τ.H (1,v)).e,(τ.H (1,v)).sz,(τ.H (1,v)).cells.set i (.ref (1,d) ((τ.H (1,d)).g+1) 0 0)⟩ rfl (.inl rfl);have e1:AJ (C.r γ) (1,d) ⟨(τ.H (1,d)).g+1,true,e,sz,[]⟩=⟨(σ.H (C.l+1,d)).g+1,true,e,sz,[]⟩:=by simp only[AJ,f.g,Ao,YM]
  have e2:AJ (C.r γ) (1,v) ⟨(τ.H (1,v)).g,true,(τ.H (1,v)).e,(τ.H (1,v)).sz,(τ.H (1,v)).cells.set i (.ref (1,d) ((τ.H (1,d)).g+1) 0 0)⟩=
    ⟨(σ.H (C.l+1,v)).g,(σ.H (C.l+1,v)).live,(σ.H (C.l+1,v)).e,(σ.H (C.l+1,v)).sz,(σ.H (C.l+1,v)).cells.set i (.ref (C.l+1,d) ((σ.H (C.l+1,d)).g+1) 0 0)⟩:=by
   rw[l.own]at t;rw[t];simp only[AJ];rw[<-UB];simp[ren,l.own,f.g,YM]
  rw[e1,e2,l.own,l.own]at A;obtain⟨τ',G,F,j1,j2,j3⟩:=Ci I b h A;refine⟨τ',G,F,j1,j2,Wk.trans (λL w M=>?_) j3⟩;obtain⟨s,H⟩:=σ;rw[Cp]at E;exact R.adoptC M (k:=(C.l+1,d)) (kp:=(C.l+1,v)) rfl rfl (λe=>by simp at e;exact hne (by rw[e])) (by rw[l.own]at t;simp only at t;rw[t];rfl) (by rw[l.own]at t;simp only at t;rw[t];simp only[AJ,In,E];simp[ren])
 |.ads j d e sz b,τ,σ,K,h,f=>by
  have l:=I.ren γ;simp only[A9]at h;split at h
  case h_2=>exact h.elim
  rename_i he;have hsj:σ.s j=.e0:=by rw[(f.s j).1 A8,eZ he];simp[ren]
  have u:=RG.updH l f (1,d) ⟨(τ.H (1,d)).g+1,true,e,sz,[]⟩ rfl (.inl rfl);have e1:AJ (C.r γ) (1,d) ⟨(τ.H (1,d)).g+1,true,e,sz,[]⟩=⟨(σ.H (C.l+1,d)).g+1,true,e,sz,[]⟩:=by simp only[AJ,f.g,Ao,YM]
  rw[e1,l.own]at u;have Q:RG (C.r γ) C.l C.outs [] ⟨upd τ.s j (.ref (1,d) ((τ.H (1,d)).g+1) 0 0),updH τ.H (1,d) ⟨(τ.H (1,d)).g+1,true,e,sz,[]⟩⟩ ⟨upd σ.s j (.ref (C.l+1,d) ((σ.H (C.l+1,d)).g+1) 0 0),updH σ.H (C.l+1,d) ⟨(σ.H (C.l+1,d)).g+1,true,e,sz,[]⟩⟩:=
   ⟨λi=>⟨λ_=>by
    simp only[upd];by_cases hi:i=j
    ·rw[Ym hi,Ym hi];simp[ren,l.own,f.g,YM]
    ·rw[Yk hi,Yk hi];exact(f.s i).1 A8,λT=>absurd A8 T⟩,u.h,u.g,u.go,u.k,u.o⟩
  obtain⟨τ',G,F,N,v,O⟩:=Ci I b h Q;refine⟨τ',G,F,N,v,Wk.trans (λL w M=>?_) O⟩;obtain⟨s,H⟩:=σ;exact R.adopt (e:=e) (sz:=sz) M (C.l+1,d) rfl _ (YS _) hsj
 |.trim k c b,τ,σ,K,h,f=>by
  have l:=I.ren γ;simp only[A9]at h;split at h
  case h_2=>exact h.elim
  rename_i hl;obtain⟨⟨m,hm⟩,h⟩:=h;have t:=f.h k hl;have hko:A9 (C.r γ) C.outs b ⟨τ.s,updH τ.H k ⟨(τ.H k).g,true,(τ.H k).e,(τ.H k).sz,c⟩⟩ K/\K7 (C.r γ) C.outs k:=by
   unfold wH at h;split at h
   ·rename_i P;exact⟨h,.inl (Ye P)⟩
   ·rcases f.k k hl with h5|⟨_,h5⟩
    ·have:=h.1.1;omega
    ·exact⟨h.2,.inr ⟨h.1.1,h5,h.1.2⟩⟩
  obtain⟨h,hko⟩:=hko;have u:=RG.updH l f k ⟨(τ.H k).g,true,(τ.H k).e,(τ.H k).sz,c⟩ rfl hko;have e1:AJ (C.r γ) k ⟨(τ.H k).g,true,(τ.H k).e,(τ.H k).sz,c⟩=⟨(σ.H ((C.r γ).κ k)).g,(σ.H ((C.r γ).κ k)).live,(σ.H ((C.r γ).κ k)).e,(σ.H ((C.r γ).κ k)).sz,(σ.H ((C.r γ).κ k)).cells.take m⟩:=by rw[t];simp only[AJ,FR,hm]
  rw[e1]at u;obtain⟨τ',G,F,N,v,O⟩:=Ci I b h u;refine⟨τ',G,F,N,v,Wk.trans (λL w M=>?_) O⟩;obtain⟨s,H⟩:=σ;have hle:((C.r γ).κ k).1<=C.l+1:=by
   obtain⟨N,v⟩:=k;have:=hko.lk;simp only at this;rcases this with rfl|⟨rfl,A⟩
   ·rw[l.own];exact Yf _
   ·exact R3 (l.out v A)
  exact R.trim M hle (by have B:=t;simp only at B;rw[B];rfl) m
 |.reb j d m c b,τ,σ,K,h,f=>by
  have l:=I.ren γ;simp only[A9]at h;split at h
  case h_2=>exact h.elim
  rename_i k q off n hsj;split at h
  case h_2=>exact h.elim
  rename_i hkd hq;have P:k=(1,d):=Cw.1 hkd;subst P;obtain⟨hq1,hl⟩:=ED hq;subst hq1;obtain⟨⟨hnm,hlen,E⟩,h⟩:=h;subst E;subst hnm;have t:=f.h (1,d) hl;rw[l.own]at t;have z:(σ.H (C.l+1,d)).live=true:=by rw[t];rfl
  have U:(σ.H (C.l+1,d)).sz=(τ.H (1,d)).sz:=by rw[t];rfl
  have o:(σ.H (C.l+1,d)).g=(C.r γ).γ (1,d)+(τ.H (1,d)).g:=by rw[t];rfl
  have hcr:(σ.H (C.l+1,d)).cells=Ao (C.r γ) (τ.H (1,d)).cells:=by rw[t];rfl
  have Z:(σ.H (C.l+1,d)).e=(τ.H (1,d)).e:=by rw[t];rfl
  have hs:σ.s j=.ref (C.l+1,d) (σ.H (C.l+1,d)).g off n:=by rw[(f.s j).1 A8,hsj];simp only[ren];rw[l.own,o]
  have u:=RG.updH l f (1,d) ⟨(τ.H (1,d)).g+1,true,.t (τ.H (1,d)).e.ty,(τ.H (1,d)).sz,(τ.H (1,d)).cells.drop (off*(τ.H (1,d)).sz)⟩ rfl (.inl rfl);have e1:AJ (C.r γ) (1,d) ⟨(τ.H (1,d)).g+1,true,.t (τ.H (1,d)).e.ty,(τ.H (1,d)).sz,(τ.H (1,d)).cells.drop (off*(τ.H (1,d)).sz)⟩=⟨(σ.H (C.l+1,d)).g+1,true,.t (σ.H (C.l+1,d)).e.ty,(σ.H (C.l+1,d)).sz,(σ.H (C.l+1,d)).cells.drop (off*(σ.H (C.l+1,d)).sz)⟩:=by simp only[AJ,o,Z,U,hcr,Fg,YM]
  rw[e1,l.own]at u;have Q:RG (C.r γ) C.l C.outs [] ⟨upd τ.s j (.ref (1,d) ((τ.H (1,d)).g+1) 0 n),updH τ.H (1,d) ⟨(τ.H (1,d)).g+1,true,.t (τ.H (1,d)).e.ty,(τ.H (1,d)).sz,(τ.H (1,d)).cells.drop (off*(τ.H (1,d)).sz)⟩⟩
    ⟨upd σ.s j (.ref (C.l+1,d) ((σ.H (C.l+1,d)).g+1) 0 n),updH σ.H (C.l+1,d) ⟨(σ.H (C.l+1,d)).g+1,true,.t (σ.H (C.l+1,d)).e.ty,(σ.H (C.l+1,d)).sz,(σ.H (C.l+1,d)).cells.drop (off*(σ.H (C.l+1,d)).sz)⟩⟩:=
   ⟨λi=>⟨λ_=>by
    simp only[upd];by_cases hi:i=j
    ·rw[Ym hi,Ym hi];simp only[ren];rw[l.own,o,YM]
    ·rw[Yk hi,Yk hi];exact(f.s i).1 A8,λT=>absurd A8 T⟩,u.h,u.g,u.go,u.k,u.o⟩
  obtain⟨τ',G,F,N,v,O⟩:=Ci I b h Q;refine⟨τ',G,F,N,v,Wk.trans (λL w M=>?_) O⟩;obtain⟨s,H⟩:=σ;exact R.rebase M (Yf _) z hs (by rw[U,hcr,CR];exact hlen)
 |.mv d j b,τ,σ,K,h,f=>by
  have l:=I.ren γ;have hs:∀j,σ.s j=ren (C.r γ) (τ.s j):=λj=>(f.s j).1 A8;simp only[A9]at h;split at h
  case h_2=>exact h.elim
  rename_i hl;obtain⟨hf,⟨J,hno⟩,h⟩:=h;have t:=f.h _ hl;have X:=f.go j J;rw[l.own]at t;have z:(σ.H (C.l+1,d)).live=true:=by rw[t];rfl
  have o:(σ.H (C.l+1,d)).g=(C.r γ).γ (1,d)+(τ.H (1,d)).g:=by rw[t];rfl
  have u:=RG.updK l f (1,d) ⟨(τ.H (1,d)).g,false,(τ.H (1,d)).e,(τ.H (1,d)).sz,(τ.H (1,d)).cells⟩ {σ.H (C.l+1,d)with live:=false } (λe=>by cases e) o (.inl rfl);rw[l.own]at u;have A:=RG.updH l u (0,j) ⟨(τ.H (0,j)).g+1,true,(τ.H (1,d)).e,(τ.H (1,d)).sz,(τ.H (1,d)).cells⟩ rfl (.inr ⟨rfl,J,hno⟩);have e2:AJ (C.r γ) (0,j) ⟨(τ.H (0,j)).g+1,true,(τ.H (1,d)).e,(τ.H (1,d)).sz,(τ.H (1,d)).cells⟩={σ.H (C.l+1,d)with g:=(σ.H ((C.r γ).κ (0,j))).g+1 }:=by rw[t];simp only[AJ,X,YM]
  rw[e2]at A;have Q:RG (C.r γ) C.l C.outs [] ⟨λi=>FC (1,d) (0,j) (τ.H (1,d)).g ((τ.H (0,j)).g+1) (τ.s i),updH (updH τ.H (1,d) ⟨(τ.H (1,d)).g,false,(τ.H (1,d)).e,(τ.H (1,d)).sz,(τ.H (1,d)).cells⟩) (0,j) ⟨(τ.H (0,j)).g+1,true,(τ.H (1,d)).e,(τ.H (1,d)).sz,(τ.H (1,d)).cells⟩⟩
    ⟨λi=>ren (C.r γ) (FC (1,d) (0,j) (τ.H (1,d)).g ((τ.H (0,j)).g+1) (τ.s i)),updH (updH σ.H (C.l+1,d) {σ.H (C.l+1,d)with live:=false }) ((C.r γ).κ (0,j)) {σ.H (C.l+1,d)with g:=(σ.H ((C.r γ).κ (0,j))).g+1 }⟩:=
   ⟨λi=>⟨λ_=>rfl,λT=>absurd A8 T⟩,A.h,A.g,A.go,A.k,A.o⟩
  obtain⟨τ',G,F,N,v,O⟩:=Ci I b h Q;refine⟨τ',G,F,N,v,Wk.trans (λL w M=>?_) O⟩;obtain⟨s,H⟩:=σ;refine R.handout M (k:=(C.l+1,d)) rfl (l.out j J) z (by have B:=t;simp only at B;rw[B];exact dw hf) (λi=>?_);have r:=hs i;simp only at r;cases hx:τ.s i with
  |ref q g off c=>
   rw[hx]at r;rw[fb];split
   ·rename_i E;obtain⟨rfl,rfl⟩:=E;refine .inr (.inl ⟨off,c,?_,?_⟩)
    ·rw[r];simp only[ren];rw[l.own];simp only at o;rw[o]
    ·simp only[ren];simp only at X;rw[X,YM]
   ·left;rw[r]
  |mp q g=>
   rw[hx]at r;rw[fq];split
   ·rename_i E;obtain⟨rfl,rfl⟩:=E;refine .inr (.inr ⟨?_,?_⟩)
    ·rw[r];simp only[ren];rw[l.own];simp only at o;rw[o]
    ·simp only[ren];simp only at X;rw[X,YM]
   ·left;rw[r]
  |_=>left;rw[r,hx];rfl
 |.rnm d d' e i b,τ,σ,K,h,f=>by
  have l:=I.ren γ;have hs:∀j,σ.s j=ren (C.r γ) (τ.s j):=λj=>(f.s j).1 A8;simp only[A9]at h;split at h
  case h_2=>exact h.elim
  rename_i k g off c hl hdd S Y hle E;split at h
  case h_2=>exact h.elim
  rename_i P hg;obtain⟨hf,h⟩:=h;have P:=Cw.1 P;subst P;have hg:=Ye hg;subst hg;have hdd:d≠d':=λq=>by subst q;simp at hdd
  have S:e≠d:=λq=>by subst q;simp at S
  have Y:e≠d':=λq=>by subst q;simp at Y
  have t:=f.h _ hl;have D:=f.h _ hle;rw[l.own]at t D;have z:(σ.H (C.l+1,d)).live=true:=by rw[t];rfl
  have hler:(σ.H (C.l+1,e)).live=true:=by rw[D];rfl
  have o:(σ.H (C.l+1,d)).g=(C.r γ).γ (1,d)+(τ.H (1,d)).g:=by rw[t];rfl
  have y:=f.g d';have u:=RG.updK l f (1,d) ⟨(τ.H (1,d)).g,false,(τ.H (1,d)).e,(τ.H (1,d)).sz,(τ.H (1,d)).cells⟩ {σ.H (C.l+1,d)with live:=false } (λe=>by cases e) o (.inl rfl);rw[l.own]at u;have A:=RG.updH l u (1,d') ⟨(τ.H (1,d')).g+1,true,(τ.H (1,d)).e,(τ.H (1,d)).sz,(τ.H (1,d)).cells⟩ rfl (.inl rfl);have e2:AJ (C.r γ) (1,d') ⟨(τ.H (1,d')).g+1,true,(τ.H (1,d)).e,(τ.H (1,d)).sz,(τ.H (1,d)).cells⟩={σ.H (C.l+1,d)with g:=(σ.H (C.l+1,d')).g+1 }:=by rw[t];simp only[AJ,y,YM]
  rw[e2,l.own]at A;have W:=RG.updH l A (1,e) ⟨(τ.H (1,e)).g,true,(τ.H (1,e)).e,(τ.H (1,e)).sz,(τ.H (1,e)).cells.set i (.ref (1,d') ((τ.H (1,d')).g+1) off c)⟩ rfl (.inl rfl);have e4:AJ (C.r γ) (1,e) ⟨(τ.H (1,e)).g,true,(τ.H (1,e)).e,(τ.H (1,e)).sz,(τ.H (1,e)).cells.set i (.ref (1,d') ((τ.H (1,d')).g+1) off c)⟩=
    ⟨(σ.H (C.l+1,e)).g,true,(σ.H (C.l+1,e)).e,(σ.H (C.l+1,e)).sz,(σ.H (C.l+1,e)).cells.set i (.ref (C.l+1,d') ((σ.H (C.l+1,d')).g+1) off c)⟩:=by
   rw[D];simp only[AJ];rw[<-UB];simp[ren,l.own,y,YM]
  rw[e4,l.own]at W;have Q:RG (C.r γ) C.l C.outs [] ⟨λj=>FC (1,d) (1,d') (τ.H (1,d)).g ((τ.H (1,d')).g+1) (τ.s j),_⟩
    ⟨λj=>ren (C.r γ) (FC (1,d) (1,d') (τ.H (1,d)).g ((τ.H (1,d')).g+1) (τ.s j)),_⟩:=
   ⟨λi=>⟨λ_=>rfl,λT=>absurd A8 T⟩,W.h,W.g,W.go,W.k,W.o⟩
  obtain⟨τ',G,F,N,v,O⟩:=Ci I b h Q;refine⟨τ',G,F,N,v,Wk.trans (λL w M=>?_) O⟩;obtain⟨s,H⟩:=σ;rw[Cp]at E;refine R.rename M (k:=(C.l+1,d)) (k':=(C.l+1,d')) (q:=(C.l+1,e)) rfl (Yf _) rfl (λq=>hdd (by simpa using q)) (λq=>S (by simpa using q)) (λq=>Y (by simpa using q)) z hler (by have B:=t;simp only at B;rw[B];exact dw hf)
   (by simp only at D o;rw[D];simp only[AJ,In,E];simp[ren,l.own,o]) (λi=>?_)
  have r:=hs i;simp only at r;cases hx:τ.s i with
  |ref q g off c=>
   rw[hx]at r;rw[fb];split
   ·rename_i E;obtain⟨rfl,rfl⟩:=E;refine .inr (.inl ⟨off,c,?_,?_⟩)
    ·rw[r];simp only[ren];rw[l.own];simp only at o;rw[o]
    ·simp only[ren];rw[l.own];simp only at y;rw[y,YM]
   ·left;rw[r]
  |mp q g=>
   rw[hx]at r;rw[fq];split
   ·rename_i E;obtain⟨rfl,rfl⟩:=E;refine .inr (.inr ⟨?_,?_⟩)
    ·rw[r];simp only[ren];rw[l.own];simp only at o;rw[o]
    ·simp only[ren];rw[l.own];simp only at y;rw[y,YM]
   ·left;rw[r]
  |_=>left;rw[r,hx];rfl
 |.mvc d q e i b,τ,σ,K,h,f=>by
  have l:=I.ren γ;have hs:∀j,σ.s j=ren (C.r γ) (τ.s j):=λj=>(f.s j).1 A8;simp only[A9]at h;split at h
  case h_2=>exact h.elim
  rename_i k g off c hl S hle E;split at h
  case h_2=>exact h.elim
  rename_i P hg;obtain⟨hf,⟨J,hno⟩,h⟩:=h;have P:=Cw.1 P;subst P;have hg:=Ye hg;subst hg;have S:e≠d:=λq'=>by subst q';simp at S
  have t:=f.h _ hl;have D:=f.h _ hle;rw[l.own]at t D;have z:(σ.H (C.l+1,d)).live=true:=by rw[t];rfl
  have hler:(σ.H (C.l+1,e)).live=true:=by rw[D];rfl
  have o:(σ.H (C.l+1,d)).g=(C.r γ).γ (1,d)+(τ.H (1,d)).g:=by rw[t];rfl
  have y:=f.go q J;have hlo:=l.out q J;have u:=RG.updK l f (1,d) ⟨(τ.H (1,d)).g,false,(τ.H (1,d)).e,(τ.H (1,d)).sz,(τ.H (1,d)).cells⟩ {σ.H (C.l+1,d)with live:=false } (λe=>by cases e) o (.inl rfl);rw[l.own]at u;have A:=RG.updH l u (0,q) ⟨(τ.H (0,q)).g+1,true,(τ.H (1,d)).e,(τ.H (1,d)).sz,(τ.H (1,d)).cells⟩ rfl (.inr ⟨rfl,J,hno⟩);have e2:AJ (C.r γ) (0,q) ⟨(τ.H (0,q)).g+1,true,(τ.H (1,d)).e,(τ.H (1,d)).sz,(τ.H (1,d)).cells⟩={σ.H (C.l+1,d)with g:=(σ.H ((C.r γ).κ (0,q))).g+1 }:=by rw[t];simp only[AJ,y,YM]
  rw[e2]at A;have W:=RG.updH l A (1,e) ⟨(τ.H (1,e)).g,true,(τ.H (1,e)).e,(τ.H (1,e)).sz,(τ.H (1,e)).cells.set i (.ref (0,q) ((τ.H (0,q)).g+1) off c)⟩ rfl (.inl rfl);have e4:AJ (C.r γ) (1,e) ⟨(τ.H (1,e)).g,true,(τ.H (1,e)).e,(τ.H (1,e)).sz,(τ.H (1,e)).cells.set i (.ref (0,q) ((τ.H (0,q)).g+1) off c)⟩=
    ⟨(σ.H (C.l+1,e)).g,true,(σ.H (C.l+1,e)).e,(σ.H (C.l+1,e)).sz,(σ.H (C.l+1,e)).cells.set i (.ref ((C.r γ).κ (0,q)) ((σ.H ((C.r γ).κ (0,q))).g+1) off c)⟩:=by
   rw[D];simp only[AJ];rw[<-UB];simp[ren,l.own,y,YM]
  rw[e4,l.own]at W;have Q:RG (C.r γ) C.l C.outs [] ⟨λj=>FC (1,d) (0,q) (τ.H (1,d)).g ((τ.H (0,q)).g+1) (τ.s j),_⟩
    ⟨λj=>ren (C.r γ) (FC (1,d) (0,q) (τ.H (1,d)).g ((τ.H (0,q)).g+1) (τ.s j)),_⟩:=
   ⟨λi=>⟨λ_=>rfl,λT=>absurd A8 T⟩,W.h,W.g,W.go,W.k,W.o⟩
  obtain⟨τ',G,F,N,v,O⟩:=Ci I b h Q;refine⟨τ',G,F,N,v,Wk.trans (λL w M=>?_) O⟩;obtain⟨s,H⟩:=σ;rw[Cp]at E;refine R.rename M (k:=(C.l+1,d)) (k':=((C.r γ).κ (0,q))) (q:=(C.l+1,e)) rfl (R3 hlo) rfl (λq'=>by rw[<-q']at hlo;exact absurd hlo (Nat.not_succ_le_self _)) (λq'=>S (by simpa using q')) (λq'=>by rw[<-q']at hlo;exact absurd hlo (Nat.not_succ_le_self _)) z hler (by have B:=t;simp only at B;rw[B];exact dw hf)
   (by simp only at D o;rw[D];simp only[AJ,In,E];simp[ren,l.own,o]) (λi=>?_)
  have r:=hs i;simp only at r;cases hx:τ.s i with
  |ref q g off c=>
   rw[hx]at r;rw[fb];split
   ·rename_i E;obtain⟨rfl,rfl⟩:=E;refine .inr (.inl ⟨off,c,?_,?_⟩)
    ·rw[r];simp only[ren];rw[l.own];simp only at o;rw[o]
    ·simp only[ren];simp only at y;rw[y,YM]
   ·left;rw[r]
  |mp q g=>
   rw[hx]at r;rw[fq];split
   ·rename_i E;obtain⟨rfl,rfl⟩:=E;refine .inr (.inr ⟨?_,?_⟩)
    ·rw[r];simp only[ren];rw[l.own];simp only at o;rw[o]
    ·simp only[ren];simp only at y;rw[y,YM]
   ·left;rw[r]
  |_=>left;rw[r,hx];rfl
 |.fzm d V b,τ,σ,K,h,f=>by
  have l:=I.ren γ;have hs:∀j,σ.s j=ren (C.r γ) (τ.s j):=λj=>(f.s j).1 A8;simp only[A9]at h;split at h
  case h_2=>exact h.elim
  rename_i q es hl he hm;have hjs:=i7 hm;have t:=f.h _ hl;rw[l.own]at t;have z:(σ.H (C.l+1,d)).live=true:=by rw[t];rfl
  have Z:(σ.H (C.l+1,d)).e=.m q es:=by rw[t];exact he
  have o:(σ.H (C.l+1,d)).g=(C.r γ).γ (1,d)+(τ.H (1,d)).g:=by rw[t];rfl
  have u:=RG.updK l f (1,d) ⟨(τ.H (1,d)).g,false,(τ.H (1,d)).e,(τ.H (1,d)).sz,(τ.H (1,d)).cells⟩ {σ.H (C.l+1,d)with live:=false } (λe=>by cases e) o (.inl rfl);rw[l.own]at u;have Q:RG (C.r γ) C.l C.outs [] ⟨EO (.d (.map q es)) V τ.s,updH τ.H (1,d) ⟨(τ.H (1,d)).g,false,(τ.H (1,d)).e,(τ.H (1,d)).sz,(τ.H (1,d)).cells⟩⟩ ⟨EO (.d (.map q es)) V σ.s,updH σ.H (C.l+1,d) {σ.H (C.l+1,d)with live:=false }⟩:=
   ⟨λj=>⟨λ_=>by
    simp only[Qg];by_cases J:j∈V
    ·rw[Ym J,Ym J];simp[ren]
    ·rw[Yk J,Yk J];exact hs j,λT=>absurd A8 T⟩,u.h,u.g,u.go,u.k,u.o⟩
  obtain⟨τ',G,F,N,v,O⟩:=Ci I b h Q;refine⟨τ',G,F,N,v,Wk.trans (λL w M=>?_) O⟩;obtain⟨s,H⟩:=σ;refine R.freezeM M (k:=(C.l+1,d)) (Yf _) z Z V (λj J=>?_);obtain⟨g,g1,g2⟩:=hjs j J;have:=hs j;simp only at this o;rw[this,g1];simp only[ren];rw[l.own,o,(ED g2).1]
 |.fzb d V b,τ,σ,K,h,f=>by
  have l:=I.ren γ;have hs:∀j,σ.s j=ren (C.r γ) (τ.s j):=λj=>(f.s j).1 A8;simp only[A9]at h;split at h
  case h_2=>exact h.elim
  rename_i x ds hl he hm;have hjs:=uC hm;have t:=f.h _ hl;rw[l.own]at t;have z:(σ.H (C.l+1,d)).live=true:=by rw[t];rfl
  have Z:(σ.H (C.l+1,d)).cells=(x::ds).map .d:=by rw[t];show Ao _ _=_;rw[UP he,Iq]
  have o:(σ.H (C.l+1,d)).g=(C.r γ).γ (1,d)+(τ.H (1,d)).g:=by rw[t];rfl
  have u:=RG.updK l f (1,d) ⟨(τ.H (1,d)).g,false,(τ.H (1,d)).e,(τ.H (1,d)).sz,(τ.H (1,d)).cells⟩ {σ.H (C.l+1,d)with live:=false } (λe=>by cases e) o (.inl rfl);rw[l.own]at u;have Q:RG (C.r γ) C.l C.outs [] ⟨EO (.iptr (x::ds) 0) V τ.s,updH τ.H (1,d) ⟨(τ.H (1,d)).g,false,(τ.H (1,d)).e,(τ.H (1,d)).sz,(τ.H (1,d)).cells⟩⟩ ⟨EO (.iptr (x::ds) 0) V σ.s,updH σ.H (C.l+1,d) {σ.H (C.l+1,d)with live:=false }⟩:=
   ⟨λj=>⟨λ_=>by
    simp only[Qg];by_cases J:j∈V
    ·rw[Ym J,Ym J];simp[ren]
    ·rw[Yk J,Yk J];exact hs j,λT=>absurd A8 T⟩,u.h,u.g,u.go,u.k,u.o⟩
  obtain⟨τ',G,F,N,v,O⟩:=Ci I b h Q;refine⟨τ',G,F,N,v,Wk.trans (λL w M=>?_) O⟩;obtain⟨s,H⟩:=σ;refine R.freezeB M (k:=(C.l+1,d)) (Yf _) z Z (by simp) V (λj J=>?_);obtain⟨g,g1,g2⟩:=hjs j J;have:=hs j;simp only at this o;rw[this,g1];simp only[ren];rw[l.own,o,(ED g2).1]
 |.ents _ _,τ,σ,K,h,f=>⟨τ,_,σ,h,f,Wk.refl σ⟩
 |.all _ _,τ,σ,K,h,f=>⟨τ,_,σ,h,f,Wk.refl σ⟩
 |.nil,τ,σ,K,h,f=>⟨τ,_,σ,h,f,Wk.refl σ⟩
 |.sep _,τ,σ,K,h,f=>⟨τ,_,σ,h,f,Wk.refl σ⟩
 |.go _,τ,σ,K,h,f=>⟨τ,_,σ,h,f,Wk.refl σ⟩
 |.av _ _,τ,σ,K,h,f=>⟨τ,_,σ,h,f,Wk.refl σ⟩
 |.cs _ _,τ,σ,K,h,f=>⟨τ,_,σ,h,f,Wk.refl σ⟩
 |.ds _ _,τ,σ,K,h,f=>⟨τ,_,σ,h,f,Wk.refl σ⟩
 |.num _ _,τ,σ,K,h,f=>⟨τ,_,σ,h,f,Wk.refl σ⟩
 |.nat _ _,τ,σ,K,h,f=>⟨τ,_,σ,h,f,Wk.refl σ⟩
 |.call _ _ _,τ,σ,K,h,f=>⟨τ,_,σ,h,f,Wk.refl σ⟩
 |.callH _ _ _ _,τ,σ,K,h,f=>⟨τ,_,σ,h,f,Wk.refl σ⟩
 |.br _ _,τ,σ,K,h,f=>⟨τ,_,σ,h,f,Wk.refl σ⟩
 |.one _ _,τ,σ,K,h,f=>⟨τ,_,σ,h,f,Wk.refl σ⟩
 |.hard _ _ _ _ _,τ,σ,K,h,f=>⟨τ,_,σ,h,f,Wk.refl σ⟩
theorem Gx(o:CxOk C)(s:Ba P T)(hm:P.follows .mixedOrders=true){γ:Ad->Nat}:∀(c:Code) (a:AT) (τ σ:St) (K:Exit->St->AT->Prop),CT P T C.l n C.outs (C.r γ) c a τ K->RG (C.r γ) C.l C.outs [] τ σ->
  BL P C.l n C.B c (a8 n C γ K) σ
 |.skip,a,τ,σ,K,h,d=>ZwS ⟨τ,a,σ,h,d,Wk.refl σ⟩
 |.ret,a,τ,σ,K,h,d=>by obtain⟨τ',f,p,k,m,q⟩:=Ci (n:=n) o a h d;exact BL.weak (yS ⟨τ',f,p,k,m,Wk.refl p⟩) q
 |.exit id,a,τ,σ,K,h,d=>ZvS ⟨τ,a,σ,h,d,Wk.refl σ⟩
 |.seq x y,a,τ,σ,K,h,d=>by
  have F:=Gx o s hm x a τ σ _ h d;refine dZ (Ik F λe p hi=>?_);obtain⟨τ',f,j,k,m,q⟩:=hi;cases e with
  |normal=>exact BL.weak (Gx o s hm y f τ' j _ k m) q
  |_=>exact⟨τ',f,j,k,m,q⟩
 |.block id c,a,τ,σ,K,h,d=>by
  have F:=Gx o s hm c a τ σ _ h d;refine rD (Ik F λe p hi=>?_);obtain⟨τ',f,j,k,m,q⟩:=hi;cases e with
  |exit i=>
   unfold Ve;simp only at k⊢;split at k
   ·rename_i he;rw[Ym (Ye he)];exact⟨τ',f,j,k,m,q⟩
   ·rename_i he;rw[Yk (by rintro rfl;simp at he)];exact⟨τ',f,j,k,m,q⟩
  |_=>exact⟨τ',f,j,k,m,q⟩
 |.cond c x y,a,τ,σ,K,h,d=>by
  have he:∀{b},ev τ.s c=.d (.bool b)->ev σ.s c=.d (.bool b):=fun {b} u=>by rw[LJ (c:=[]) d A8 (by cases c<;>rfl),u];simp[ren]
  unfold CT at h;split at h
  ·rename_i b a1 L u;exact Qc (he u) (λe=>Gx o s hm x a1 τ σ K (h.1 e) d) (λe=>Gx o s hm y L τ σ K (h.2 e) d)
  ·rename_i b f u;refine Qc (he u) (λe=>?_) (λe=>?_)
   ·subst e;exact Gx o s hm x f τ σ K h d
   ·subst e;exact Gx o s hm y f τ σ K h d
  ·rename_i b v f u;cases v with
   |true=>exact Qc (he u) (λe=>Gx o s hm x f τ σ K (h.1 e) d) (λe=>(h.2 e).elim)
   |false=>exact Qc (he u) (λe=>(h.1 e).elim) (λe=>Gx o s hm y f τ σ K (h.2 e) d)
  ·exact h.elim
 |.region id ops J,a,τ,σ,K,h,d=>by
  obtain⟨t,rfl⟩:∃l:List Oper,ops=l.toArray:=⟨ops.toList,by simp⟩;have fin:∀τ' g f p,K .normal (DS g τ') f->RG (C.r γ) C.l C.outs g τ' p->a8 n C γ K .normal p:=λτ' g f p k m=>by obtain⟨j,q,M⟩:=P6 (n:=n) m;exact⟨_,f,j,k,q,M⟩
  unfold CT at h;split at h
  ·obtain⟨H,D,G,h,d,E⟩:=Ci (n:=n) o a h d;refine BL.weak ?_ E;intro A w N;have:=Np (o.ren γ) s (ops:=t.toArray) (B:=C.B) (K:=λτ' env f=>K .normal (DS env τ') f) (QQ:=λe f w'=>∃p,a8 n C γ K e p/\R C.l n C.B p f w') [] (λτ' g f p I w' k m q=>by unfold wpList;exact⟨p,fin _ _ _ _ k m,q⟩) t [] D H G A w (by simpa using h) d N;rw[KP]at this;exact wp_region_lit this
  ·split at h
   case h_2=>exact h.elim
   rename_i z;simp only[Yb]at z;obtain⟨H,D,G,h,d,E⟩:=Ci (n:=n) o a h d;refine BL.weak ?_ E;refine ZqW hm (qQ (by simpa using z.1.1)) (by simpa using z.1.2) (by simpa using z.2) (UF t (λp O=>?_) (Nr (o.ren γ) (l:=C.l) (r:=C.r γ) (outs:=C.outs) (K:=λτ' env f=>K .normal (DS env τ') f) s t [] D H G (by simpa using z.1.2) (by simpa using h) d));obtain⟨τ',g,f,k,m⟩:=O;exact fin _ _ _ _ k m
 |.loop _,a,τ,σ,K,h,d=>h.elim
 |.rangeFunc _ _ _ _,a,τ,σ,K,h,d=>h.elim
 |.scope _,a,τ,σ,K,h,d=>h.elim
 |.label _,a,τ,σ,K,h,d=>h.elim
 |.goto _,a,τ,σ,K,h,d=>h.elim
 |.refuse _,a,τ,σ,K,h,d=>h.elim
theorem kG(k:CxOk C)(m:Ba P T)(hm:P.follows .mixedOrders=true){c:Code}{a:AT}(K:(Ad->Nat)->Exit->St->AT->Prop)(h:∀γ,CT P T C.l n C.outs (C.r γ) c a τ (K γ))
  (p:∀γ e τ' b d,C.G γ->K γ e τ' b->RG (C.r γ) C.l C.outs [] τ' d->Is n C (Q e) d):LW P n C c τ Q:=by
 intro γ σ o l;refine Ik (Gx k m hm c a τ σ (K γ) (h γ) l) λe d hi=>?_;obtain⟨τ',b,f,g,i,j⟩:=hi;obtain⟨u,w,v,q,r,s,t⟩:=p γ e τ' b f o g i;exact⟨u,w,v,q,r,s,j.trans t⟩
theorem ZJN(i:CxOk C)(k:Ba P T)(hm:P.follows .mixedOrders=true){c:Code}(a:AT){f:List ResultVar}{b:AV->List Blk->Prop}(h:∀γ,CT P T C.l n C.outs (C.r γ) c a τ (KF T f C.outs b)):LW P n C c τ (FQ T f C.outs b):=
 kG i k hm (λ_=>KF T f C.outs b) h λγ e τ' g m l d j=>.of l j (by
  cases e<;>simp only[KF]at d
  ·exact⟨.inl rfl,g,d⟩
  ·exact⟨.inr rfl,g,d⟩)
theorem zI(d:CxOk C)(z:Ba P T)(hm:P.follows .mixedOrders=true){c:Code}(a:AT)(lf w:Lf){s:List ResultVar}{b:AV->List Blk->Prop}(y:∀τ,FQ T s C.outs b .ret τ->Q .ret τ)(h:∀γ,CT P T C.l n C.outs (C.r γ) c a τ (KB T s C.outs C.fx (C.r γ) b lf w Q)):LW P n C c τ Q:=
 kG d z hm (λγ=>KB T s C.outs C.fx (C.r γ) b lf w Q) h λγ e τ' g D j f i=>by
  cases e<;>simp only[KB]at f
  ·obtain⟨B,x,A,p,q,r⟩:=Ci (n:=n) d g f i;obtain⟨t,v,u,k,l,m,o⟩:=Ii (n:=n) d p j q;exact⟨t,v,u,k,l,m,r.trans o⟩
  ·obtain⟨B,x,A,p,q,r⟩:=Ci (n:=n) d g f i;obtain⟨t,v,u,k,l,m,o⟩:=Ii (n:=n) d p j q;exact⟨t,v,u,k,l,m,r.trans o⟩
  ·exact .of j i (y _ ⟨.inr rfl,g,f⟩)
theorem ue{sz:Nat}:∀{es:List (List D)} {i j:Nat} {e:List D} {d:D},(∀e∈es,e.length=sz)->es[i]?=some e->e[j]?=some d->es.flatten[i*sz+j]?=some d
 |[],i,j,e,d,h,hi,a=>by simp at hi
 |f::es,0,j,e,d,h,hi,a=>by grind
 |f::es,i+1,j,e,d,h,hi,a=>by have b:=h f (YJ ..);rw[KI,YK (by rw[b,Y1];omega),b,show(i+1)*sz+j-sz=i*sz+j from by rw[Y1];omega];exact ue (λe he=>h e (YH _ he)) (by simpa using hi) a
mutual
theorem Zty(u:CxOk C){γ:Ad->Nat}{H G:Hp}(B:DV (C.r γ) H G)(f:∀k,(H k).live=true->k.1=1\/(k.1=0/\k.2<C.outs)):∀(x:AV) {a:AT} {K:AV->AT->Prop},frz H x a K->∃y p,Fz G C.l (ren (C.r γ) x) (ren (C.r γ) y)/\(C.outs=0->∀r,ren r y=y)/\K y p
 |.d x,a,K,h=>⟨.d x,a,by simp only[ren];exact .keep _ rfl,λ_ r=>by simp[ren],h⟩
 |.e0,a,K,h=>⟨.d (.list []),a,by simp only[ren];exact .e0,λ_ r=>by simp[ren],h⟩
 |.agg xs,a,K,h=>by obtain⟨ys,p,o,N,A⟩:=dD u B f xs h;exact⟨.agg ys,p,by simp only[ren];exact .agg _ _ o.1 o.2,λe r=>by simp only[ren];rw[N e r],A⟩
 |.ref k g off m,a,K,h=>by
  unfold frz at h;split at h
  ·rename_i c hl;have c:=Ye c;have n:k.2<C.outs:=by
    rcases f k (ED hl).2 with o|o
    ·omega
    grind
   obtain⟨F,b⟩:=k;simp only at c n;subst c;exact⟨.ref (0,b) g off m,a,by simp only[ren];exact .keep _ (Yq (u.out b n)),λe=>ae,h⟩
  ·rename_i _ f hl;split at h
   case h_2=>exact h.elim
   rename_i s p;obtain⟨⟨o,A,L,O,P⟩,Q⟩:=h;have f:=Ye f;obtain⟨w,z,I,v,J⟩:=B.at hl;obtain⟨F,b⟩:=k;simp only at f;subst f;refine⟨.d (.list s),p,?_,λ_ r=>by simp[ren],Q⟩;simp only[ren];rw[w];have E:(C.r γ).κ (1,b)=(C.l+1,b):=u.own b;refine .ref _ off m s (by rw[E]) z o (by rw[v];exact A) (by rw[v];exact L) (by rw[v,J,CR];exact O) (λi j e d x hi R hx=>?_);have D:i<m:=(by grind);have S:j<(H (1,b)).sz:=(by grind);have T:=ue L hi R;have n:i*(H (1,b)).sz+j<m*(H (1,b)).sz:=(by have:(i+1)*(H (1,b)).sz<=m*(H (1,b)).sz:=Y8 _ D;grind);have M:(H (1,b)).cells[(off+i)*(H (1,b)).sz+j]?=some (.d d):=(by have:=congrArg (λl=>l[i*(H (1,b)).sz+j]?) P;grind);rw[v,J,In,M]at hx;simp only[Y7,ren,Yn]at hx;subst hx;exact .keep _ rfl
  grind
 |.top,a,K,h=>by simp only[frz]at h
 |.p _,a,K,h=>by simp only[frz]at h
 |.ptr _ _ _,a,K,h=>by simp only[frz]at h
 |.mp k g,a,K,h=>by
  unfold frz at h;split at h
  ·rename_i c hl;have c:=Ye c;have n:k.2<C.outs:=by
    rcases f k (ED hl).2 with o|o
    ·omega
    grind
   obtain⟨F,b⟩:=k;simp only at c n;subst c;exact⟨.mp (0,b) g,a,by simp only[ren];exact .keep _ (Yq (u.out b n)),λe=>ae,h⟩
  ·rename_i q s _ f hl he;have f:=Ye f;obtain⟨w,z,I,_,_⟩:=B.at hl;obtain⟨F,b⟩:=k;simp only at f;subst f;refine⟨.d (.map q s),a,?_,λ_ r=>by simp[ren],h⟩;simp only[ren];rw[w];have E:(C.r γ).κ (1,b)=(C.l+1,b):=u.own b;exact .mp _ q s (by rw[E]) z (by rw[I,he])
  grind
 |.iptr _ _,a,K,h=>by simp only[frz]at h
 |.ifc t ds q,a,K,h=>⟨.ifc t ds q,a,by simp only[ren];exact .keep _ rfl,λ_ r=>by simp[ren],h⟩
 |.fn _ _ _,a,K,h=>by simp only[frz]at h
 |.tup _,a,K,h=>by simp only[frz]at h
theorem dD(g:CxOk C){γ:Ad->Nat}{H c:Hp}(j:DV (C.r γ) H c)(l:∀k,(H k).live=true->k.1=1\/(k.1=0/\k.2<C.outs)):∀(xs:List AV) {a:AT} {K:List AV->AT->Prop},JL H xs a K->
  ∃ys d,((Ao (C.r γ) xs).length=(Ao (C.r γ) ys).length/\∀(i:Nat) (x y:AV),(Ao (C.r γ) xs)[i]?=some x->(Ao (C.r γ) ys)[i]?=some y->Fz c C.l x y)/\(C.outs=0->∀r,Ao r ys=ys)/\K ys d
 |[],a,K,h=>⟨[],a,⟨by simp[Ao],λi x y hx=>by simp[Ao]at hx⟩,λ_ r=>by simp[Ao],h⟩
 |x::xs,a,K,h=>by
  simp only[JL]at h;obtain⟨y,d,o,m,p⟩:=Zty g j l x h;obtain⟨ys,b,f,n,q⟩:=dD g j l xs p;refine⟨y::ys,b,⟨by simp[Ao,f.1],λi x' s hx hy=>?_⟩,λe r=>by simp only[Ao];rw[m e r,n e r],q⟩;cases i with
  |zero=>simp only[Ao,Gs,Yn]at hx hy;subst hx;subst hy;exact o
  |succ i=>simp only[Ao,Mn]at hx hy;exact f.2 i x' s hx hy
end
theorem Zrv(o:Ba P T){γ:Ad->Nat}(n:RG (C.r γ) C.l C.outs [] τ σ){v:ResultVar}{K:AV->Prop}(h:gN T τ v K):∃x,K x/\∀m (f:List AV->Prop),ER P σ m (λxs=>f (ren (C.r γ) x::xs))->ER P σ (v::m) f:=by
 cases v with
 |tmp t=>exact⟨_,h,λm f j=>by unfold ER;rw[(n.s t).1 A8];exact j⟩
 |cell p t=>
  simp only[gN]at h;split at h
  case h_2=>exact h.elim
  rename_i k g off i w hi;have l:σ.s p=ren (C.r γ) (.ptr k g off):=by rw[(n.s p).1 A8,w]
  split at h
  ·rename_i hl d;split at h
   case h_2=>exact h.elim
   rename_i c r s;refine⟨_,h,λm f j=>?_⟩;have:=dz (a:=.go .nil) (g:=none) (K:=λv _=>v=.agg c) (o _ _ hi) n.h (λb e=>by cases e) (x:=.ptr k g off) (by simp only[N3,hl,d,r,s]);unfold ER;rw[l];refine dW (λy hy=>?_) this;obtain⟨v,q,rfl,rfl⟩:=hy;exact j
  ·rename_i hl d;split at h
   case h_2=>exact h.elim
   rename_i c u;refine⟨_,h,λm f j=>?_⟩;have:=dz (a:=.go .nil) (g:=none) (K:=λv _=>v=c) (o _ _ hi) n.h (λb e=>by cases e) (x:=.ptr k g off) (by simp only[N3,hl,d,u]);unfold ER;rw[l];refine dW (λy hy=>?_) this;obtain⟨v,q,rfl,rfl⟩:=hy;exact j
  grind
theorem qP(e:Ba P T){γ:Ad->Nat}(d:RG (C.r γ) C.l C.outs [] τ σ):∀(b:List ResultVar) {K:List AV->Prop},az T τ b K->∃xs,K xs/\∀a:List AV->Prop,a (Ao (C.r γ) xs)->ER P σ b a
 |[],K,h=>⟨[],h,λa c=>by unfold ER;simpa[Ao]using c⟩
 |v::b,K,h=>by obtain⟨x,f,g⟩:=Zrv e d h;obtain⟨xs,i,j⟩:=qP e d b f;exact⟨x::xs,i,λa c=>g b a (j _ (by simpa[Ao]using c))⟩
structure OutsOk (C:Cx) (γ:Ad->Nat) (bs:List Blk) (H':Hp):Prop where
 len:bs.length=C.outs
 g:∀i b,bs[i]?=some b->(H' (C.κ (0,i))).g=γ (0,i)+b.g
 live:∀i b,bs[i]?=some b->b.live=true->H' (C.κ (0,i))=AJ (C.r γ) (0,i) b
 o:∀k:Ad,¬C.no k->H' k=C.H0 k
theorem eq{H:Hp}:∀(n i j:Nat),(J8 H n i)[j]?=if j<n then some (H (0,i+j))else none
 |0,i,j=>by simp[J8]
 |n+1,i,0=>by simp[J8]
 |n+1,i,j+1=>by simp only[J8,Mn,eq n (i+1) j];grind
theorem rx{H:Hp}:∀(n i:Nat),(J8 H n i).length=n
 |0,i=>rfl
 |n+1,i=>by simp[J8,rx n]
theorem zq(l:CxOk C)(F:Ba P T){o:List ResultVar}{LPost:AV->List Blk->Prop}{d:AV->Hp->Prop}{e:Exit}(J:∀γ y s q,C.G γ->LPost y s->OutsOk C γ s q->(C.outs=0->∀r,ren r y=y)->d (ren (C.r γ) y) q)
  (h:Is n C (FQ T o C.outs LPost e) σ):∃f,fins P C.l C.H0 o d e f/\Wk n C σ f:=by
 obtain⟨γ,τ,f,H,⟨z,a,A⟩,j,K⟩:=h;refine⟨f,⟨z,?_⟩,K⟩;obtain⟨xs,B,D⟩:=qP (P:=P) F j o A;obtain⟨ys,L,g,w,E⟩:=dD l j.h j.k xs B;refine D _ ⟨ren (C.r γ) (DN ys),?_,?_⟩
 ·have hl:=g.1;have g:=g.2;have v:ren (C.r γ) (DN ys)=DN (Ao (C.r γ) ys):=by
   match ys with
   |[]=>simp[DN,ren,Ao]
   |[y]=>simp[DN,Ao]
   |y::t::ys=>simp[DN,ren,Ao]
  rw[v];generalize Ao (C.r γ) ys=p at hl g;generalize Ao (C.r γ) xs=u at hl g
  match u,p,hl with
  |[],[],_=>exact .tup _ _ rfl λi x y hx=>by simp at hx
  |[x],[y],_=>exact g 0 x y rfl rfl
  |x::x'::u,y::t::ys,hl=>exact .tup _ _ hl g
 ·refine J γ _ _ _ H E ⟨rx _ _,λi b hi=>?_,λi b hi G=>?_,λk I=>?_⟩ (λe r=>?_)
  ·rw[eq]at hi;split at hi
   ·rename_i c;simp only[YX,Yn]at hi;subst hi;rw[show Jh C.l f.H C.H0 (C.κ (0,i))=f.H (C.κ (0,i))from Ym (l.out i c)];exact j.go i c
   grind
  ·rw[eq]at hi;split at hi
   ·rename_i c;simp only[YX,Yn]at hi;subst hi;rw[show Jh C.l f.H C.H0 (C.κ (0,i))=f.H (C.κ (0,i))from Ym (l.out i c)];exact j.h _ G
   grind
  ·unfold Jh;split
   ·rename_i m;exact j.o k m I
   ·rfl
  ·have:=w e r
   match ys with
   |[]=>simp[DN,ren,Ao]
   |[y]=>simp only[Ao,List.cons.injEq,Ie]at this;simpa[DN]using this
   |y::t::ys=>simp only[DN,ren,this]
def DQ:Nat->List AV->List (Nat×AV)
 |_,[]=>[]
 |i,x::xs=>(i,x)::DQ (i+1) xs
theorem uf{r:Ren}:∀(ys:List AV) (i j:Nat),ren r (Az (DQ i ys) (i+j))=args (Ao r ys) j
 |[],i,j=>by simp[DQ,Az,ren,Ao,args]
 |y::ys,i,0=>by simp[DQ,Az,Ao,args]
 |y::ys,i,j+1=>by
  have a:=uf (r:=r) ys (i+1) j;simp only[DQ,Az];split
  ·rename_i h;have:=Ye h;omega
  ·rw[show i+(j+1)=i+1+j from by omega,a];simp[args,Ao]
theorem sM{f:FuncId}{fn:Func}(z:List ResultVar){c:Code}{l:Nat}{xs:List AV}{H:Hp}{a:AV->Hp->Prop}{LPost:AV->List Blk->Prop}(C:Base->Cx){γ:Ad->Nat}{ys:List AV}{hs:List (Ad×Blk)}
  (O:P.funcs[f]?=some fn) (N:fn.body=some c) (g:(fn.name== "runtime.NumGoroutine")=false) (v:fn.ntmps=n) (W:fn.results.toList=z) (hx:xs.length<=n) (M:Ba P T)
  (u:∀B,CxOk (C B)) (I:∀B,(C B).l=l/\(C B).B=B/\(C B).H0=H/\(C B).G γ) (x:∀B,Ao ((C B).r γ) ys=xs) (X:∀d,γ (1,d)=0) (S:∀d,AB hs (1,d)=Fv)
  (b:∀B k,(AB hs k).live=true->k.1=0/\k.2<(C B).outs/\H ((C B).κ k)=AJ ((C B).r γ) k (AB hs k)) (R:∀B i,i<(C B).outs->(H ((C B).κ (0,i))).g=γ (0,i)+(AB hs (0,i)).g)
  (U:∀B γ y E D,(C B).G γ->LPost y E->OutsOk (C B) γ E D->((C B).outs=0->∀r,ren r y=y)->a (ren ((C B).r γ) y) D)
  (h:∀B:Base,LW P n (C B) c (Ab (DQ 0 ys) hs) (FQ T z (C B).outs LPost)):Zc0 P f l xs H a:=by
 refine ZvW z O N g v W hx λB=>?_;obtain⟨hl,t,s,Q⟩:=I B;have J:RG ((C B).r γ) (C B).l (C B).outs [] (Ab (DQ 0 ys) hs) ⟨args xs,Dx l H⟩:=by
  refine⟨λj=>⟨λ_=>?_,λv=>absurd A8 v⟩,λk m=>?_,λd=>?_,λi hi=>?_,λk m=>.inr ⟨(b B k m).1,(b B k m).2.1⟩,λk m _=>?_⟩
  ·have:=uf (r:=(C B).r γ) ys 0 j;rw[YX,x]at this;exact this.symm
  ·obtain⟨p,q,F⟩:=b B k m;show Dx l H ((C B).κ k)=_;obtain⟨Z,k2⟩:=k;simp only at p q;subst p;rw[fS (by rw[<-hl];exact(u B).out _ q)];exact F
  ·show(Dx l H ((C B).l+1,d)).g=γ (1,d)+(AB hs (1,d)).g;rw[hl,yl,X,S];rfl
  ·show(Dx l H ((C B).κ (0,i))).g=γ (0,i)+(AB hs (0,i)).g;rw[fS (by rw[<-hl];exact(u B).out _ hi)];grind
  ·show Dx l H k=(C B).H0 k;rw[s];exact fS (by rw[<-hl];exact m)
 have:=h B γ _ Q J;intro o w K;rw[hl,t]at this;refine wp_mono (this o w K) λe G w' ⟨σ',V,L⟩=>?_;obtain⟨A,p,q⟩:=zq (P:=P) (u B) M (U B) V;rw[hl,s]at p;have F:=q o w;refine⟨A,p,?_⟩;have Y:=q G w';grind
end
end Go.Eng
namespace Go.Eng
set_option linter.all false
open Go Go.RowKit
def As:List (Nat×TI)->Nat->Option TI
 |[],_=>none
 |(i,x)::r,j=>match Nat.beq i j with|true=>some x|false=>As r j
theorem ux{P:Program}:∀(tl:List (Nat×TI)),(∀p∈tl,TIok P p.1 p.2)->Ba P (As tl)
 |[],_,t,i,h=>by simp[As]at h
 |(j,x)::r,b,t,i,h=>by
  simp only[As]at h;split at h
  ·rename_i he;have he:=Ye he;cases h;subst he;exact b _ (YJ ..)
  ·exact ux r (λp a=>b p (YH _ a)) t i h
theorem TIok.of{P:Program}{t:TypeId}{i:TI}(f:DO P t=some i.agg)(k:Go.Eng.kin P t=i.kin)(m:P.cellsOf t=i.siz)(n:i.elm=none\/Go.Eng.elm P t=i.elm)
  (o:((List.range i.fld.length).map λj=>(Go.Eng.fld P t j,My P t j))=i.fld.map λx=>(some (x.1,x.2.1),some x)) (p:i.zer=none\/Go.Eng.zer P t=i.zer) (q:i.eqt=none\/Om P t=i.eqt) (r:i.str=false\/MM P t=true)
  (s:i.ik=none\/P.underlying t=i.ik.map .int) (g:i.byt=none\/(∃b,P.bytesOf t<=b/\P.bytesOf t≠0/\i.byt=some b)) (c:i.zer=none\/(i.zer.getD []).all AV.flat=true) (d:i.mp=none\/ML P t=i.mp:=by first|exact .inl rfl|exact .inr aC):TIok P t i where
 agg:=f
 kin:=k
 siz:=m
 elm:=λe h=>by rcases n with a|a<;>rw[h]at a<;>first|exact a|cases a
 fld:=λj x h=>by have:=congrArg (λl=>l[j]?) o;grind
 zer:=λe h=>by rcases p with a|a<;>rw[h]at a<;>first|exact a|cases a
 eqt:=λe h=>by rcases q with a|a<;>rw[h]at a<;>first|exact a|cases a
 str:=λh=>by rcases r with a|a<;>first|exact a|(rw[h]at a;cases a)
 ik:=λe h=>by rcases s with a|a<;>rw[h]at a<;>first|exact a|cases a
 byt:=λe h=>by grind
 mp:=λz h=>by rcases d with a|a<;>rw[h]at a<;>first|exact a|cases a
 flt:=λz h=>by rcases c with a|a<;>rw[h]at a<;>first|exact a|cases a
def WR(l:Nat)(θ:Nat->AV)(H:Hp)(B:Base):Cx:=⟨l,B,λk=>(l+1,k.2),θ,H,0,λ_=>False,[],λ_=>True⟩
theorem rK(l:Nat)(B:Base)(θ:Nat->AV)(H:Hp):CxOk (WR l θ H B):=⟨λ_=>rfl,λi h=>absurd h (Y2 _),λi j h=>absurd h (Y2 _),λ_ h=>h.elim,λ_ _ _ h=>h⟩
theorem ZxN{l:Nat}{θ:Nat->AV}{H:Hp}{B:Base}{γ:Ad->Nat}{b:List Blk}{a:Hp}(h:OutsOk (WR l θ H B) γ b a):a=H:=funext λk=>h.o k id
end Go.Eng
namespace Go.Eng
structure Raw where
 num:Int
 wire:Int
 bits:Int
 data:ByteArray
deriving Inhabited,DecidableEq
mutual
inductive Val where
 |mk (kind bits:Int) (text:ByteArray) (list:List Val) (pairs:List Pr) (slots:List Slt) (raws:List Raw)
inductive Pr where
 |mk (key val:Val)
inductive Slt where
 |mk (num:Int) (val:Val)
end
inductive Msk where
 |mk (num:Int) (subs:List Msk)
instance:Inhabited Val:=⟨.mk 0 0 .empty [] [] [] []⟩
instance:Inhabited Pr:=⟨.mk default default⟩
instance:Inhabited Slt:=⟨.mk 0 default⟩
instance:Inhabited Msk:=⟨.mk 0 []⟩
def Val.kind:Val->Int|.mk k _ _ _ _ _ _=>k
def Val.bits:Val->Int|.mk _ b _ _ _ _ _=>b
def Val.text:Val->ByteArray|.mk _ _ t _ _ _ _=>t
def Val.list:Val->List Val|.mk _ _ _ l _ _ _=>l
def Val.pairs:Val->List Pr|.mk _ _ _ _ p _ _=>p
def Val.slots:Val->List Slt|.mk _ _ _ _ _ s _=>s
def Val.raws:Val->List Raw|.mk _ _ _ _ _ _ r=>r
def Pr.key:Pr->Val|.mk k _=>k
def Pr.val:Pr->Val|.mk _ v=>v
def Slt.num:Slt->Int|.mk n _=>n
def Slt.val:Slt->Val|.mk _ v=>v
def Msk.num:Msk->Int|.mk n _=>n
def Msk.subs:Msk->List Msk|.mk _ s=>s
def A6(s:ByteArray):List D:=[.str s]
def ZRf(s:Int):List D:=[.int .i64 s]
def AO(s:Bool):List D:=[.bool s]
def Ay(x:Raw):List D:=[.int .i64 x.num,.int .i64 x.wire,.int .u64 x.bits,.str x.data]
mutual
def AE:Val->List D
 |.mk k b t l p s r=>[.int .i64 k,.int .u64 b,.str t,.list (NU l),.list (MY p),.list (N1 s),.list (r.map Ay)]
def NU:List Val->List (List D)
 |[]=>[]
 |v::vs=>AE v::NU vs
def An:Pr->List D
 |.mk k v=>AE k++AE v
def MY:List Pr->List (List D)
 |[]=>[]
 |v::vs=>An v::MY vs
def Ar:Slt->List D
 |.mk n v=>.int .i64 n::AE v
def N1:List Slt->List (List D)
 |[]=>[]
 |v::vs=>Ar v::N1 vs
end
mutual
def Pb:Msk->List D
 |.mk n s=>[.int .i64 n,.list (VN s)]
def VN:List Msk->List (List D)
 |[]=>[]
 |v::vs=>Pb v::VN vs
end
theorem ZsP(l:List Val):NU l=l.map AE:=by induction l with|nil=>rfl|cons v l a=>simp[NU,a]
theorem ZuK(l:List Pr):MY l=l.map An:=by induction l with|nil=>rfl|cons v l a=>simp[MY,a]
theorem ZtH(l:List Slt):N1 l=l.map Ar:=by induction l with|nil=>rfl|cons v l a=>simp[N1,a]
theorem Zsc(l:List Msk):VN l=l.map Pb:=by induction l with|nil=>rfl|cons v l a=>simp[VN,a]
def Ae(x:Val):List D:=[.int .i64 x.kind,.int .u64 x.bits,.str x.text,.list (x.list.map AE),.list (x.pairs.map An),.list (x.slots.map Ar),.list (x.raws.map Ay)]
def CY(x:Pr):List D:=[.int .i64 x.key.kind,.int .u64 x.key.bits,.str x.key.text,.list (x.key.list.map AE),.list (x.key.pairs.map An),.list (x.key.slots.map Ar),.list (x.key.raws.map Ay),.int .i64 x.val.kind,.int .u64 x.val.bits,.str x.val.text,.list (x.val.list.map AE),.list (x.val.pairs.map An),.list (x.val.slots.map Ar),.list (x.val.raws.map Ay)]
def BS(x:Slt):List D:=[.int .i64 x.num,.int .i64 x.val.kind,.int .u64 x.val.bits,.str x.val.text,.list (x.val.list.map AE),.list (x.val.pairs.map An),.list (x.val.slots.map Ar),.list (x.val.raws.map Ay)]
def oe(x:Msk):List D:=[.int .i64 x.num,.list (x.subs.map Pb)]
theorem GE(v:Val):AE v=Ae v:=by cases v;simp[AE,Ae,ZsP,ZuK,ZtH,Val.kind,Val.bits,Val.text,Val.list,Val.pairs,Val.slots,Val.raws]
theorem LM(v:Pr):An v=CY v:=by cases v;simp[An,GE,Ae,CY,Pr.key,Pr.val]
theorem LH(v:Slt):Ar v=BS v:=by cases v;simp[Ar,GE,Ae,BS,Slt.num,Slt.val]
theorem ZNv(v:Msk):Pb v=oe v:=by cases v;simp[Pb,oe,Zsc,Msk.num,Msk.subs]
structure Typ where
 kind:Int
 name:ByteArray
deriving Inhabited,DecidableEq
def CB(x:Typ):List D:=[.int .i64 x.kind,.str x.name]
structure Nt where
 name:ByteArray
 val:Val
deriving Inhabited
def Cd(x:Nt):List D:=[.str x.name,.int .i64 x.val.kind,.int .u64 x.val.bits,.str x.val.text,.list (x.val.list.map AE),.list (x.val.pairs.map An),.list (x.val.slots.map Ar),.list (x.val.raws.map Ay)]
structure Fld where
 num:Int
 name:ByteArray
 card:Int
 key:Int
 type:Typ
 union:ByteArray
 hasDefault:Bool
 dflt:Val
 notes:List Nt
deriving Inhabited
def Au(x:Fld):List D:=[.int .i64 x.num,.str x.name,.int .i64 x.card,.int .i64 x.key,.int .i64 x.type.kind,.str x.type.name,.str x.union,.bool x.hasDefault,.int .i64 x.dflt.kind,.int .u64 x.dflt.bits,.str x.dflt.text,.list (x.dflt.list.map AE),.list (x.dflt.pairs.map An),.list (x.dflt.slots.map Ar),.list (x.dflt.raws.map Ay),.list (x.notes.map Cd)]
structure Spn where
 lo:Int
 hi:Int
deriving Inhabited,DecidableEq
def CK(x:Spn):List D:=[.int .i64 x.lo,.int .i64 x.hi]
structure By where
 b:UInt8
deriving Inhabited,DecidableEq
def By.v(x:By):Int:=x.b.toNat
def eBy(x:By):List D:=[.int .u8 x.v]
structure Msg where
 name:ByteArray
 fields:List Fld
 reserved:List Spn
 gone:List ByteArray
 notes:List Nt
deriving Inhabited
def AD(x:Msg):List D:=[.str x.name,.list (x.fields.map Au),.list (x.reserved.map CK),.list (x.gone.map A6),.list (x.notes.map Cd)]
structure Itm where
 name:ByteArray
 num:Int
 notes:List Nt
deriving Inhabited
def CJ(x:Itm):List D:=[.str x.name,.int .i64 x.num,.list (x.notes.map Cd)]
structure Enm where
 name:ByteArray
 opn:Bool
 items:List Itm
 reserved:List Spn
 notes:List Nt
deriving Inhabited
def BC(x:Enm):List D:=[.str x.name,.bool x.opn,.list (x.items.map CJ),.list (x.reserved.map CK),.list (x.notes.map Cd)]
structure Mth where
 name:ByteArray
 inn:ByteArray
 out:ByteArray
 shape:Int
 notes:List Nt
deriving Inhabited
def HE(x:Mth):List D:=[.str x.name,.str x.inn,.str x.out,.int .i64 x.shape,.list (x.notes.map Cd)]
structure Svc where
 name:ByteArray
 methods:List Mth
 notes:List Nt
deriving Inhabited
def Dv(x:Svc):List D:=[.str x.name,.list (x.methods.map HE),.list (x.notes.map Cd)]
structure Scm where
 messages:List Msg
 enums:List Enm
 services:List Svc
deriving Inhabited
def Al(x:Scm):List D:=[.list (x.messages.map AD),.list (x.enums.map BC),.list (x.services.map Dv)]
structure Fil where
 name:ByteArray
 space:ByteArray
 imports:List ByteArray
 messages:List Msg
 enums:List Enm
 services:List Svc
deriving Inhabited
def ZRK(x:Fil):List D:=[.str x.name,.str x.space,.list (x.imports.map A6),.list (x.messages.map AD),.list (x.enums.map BC),.list (x.services.map Dv)]
structure Prb where
 dfn:ByteArray
 num:Int
 err:Int
deriving Inhabited,DecidableEq
def Ak(x:Prb):List D:=[.str x.dfn,.int .i64 x.num,.int .i64 x.err]
structure Stp where
 num:Int
 pos:Int
 hasKey:Bool
 key:Val
deriving Inhabited
structure Edt where
 path:List Stp
 kind:Int
 val:Val
deriving Inhabited
class Mv (V:Type) where
 q:Bool
 e:V->List D
 z:V
def DW{V:Type}[Mv V](p:ByteArray×V):List D:=.str p.1::Mv.e p.2
instance:Mv (List Int):=⟨false,λx=>[.list (x.map ZRf)],[]⟩
instance (V:Type) [Mv V]:Mv (List (ByteArray×V)):=⟨false,λm=>[.map (Mv.q V) (m.map DW)],[]⟩
structure Web where
 messages:List (ByteArray×Msg)
 enums:List (ByteArray×Bool)
deriving Inhabited
structure Lst where
 dfn:ByteArray
 l:List Prb
deriving Inhabited
structure Acs where
 m:Msg
 s:Scm
deriving Inhabited
structure Nod where
 kind:Int
 bits:Int
 text:ByteArray
 list:Int
 pairs:Int
 slots:Int
 raws:Int
deriving Inhabited,DecidableEq
def ZQ1(x:Nod):List D:=[.int .i64 x.kind,.int .u64 x.bits,.str x.text,.int .i64 x.list,.int .i64 x.pairs,.int .i64 x.slots,.int .i64 x.raws]
structure Lnk where
 files:List Fil
 f:Fil
 known:List ByteArray
 messages:List ByteArray
 enums:List Enm
deriving Inhabited
def ZRx:Raw:=⟨0,0,0,⟨#[]⟩⟩
def MH:Val:=.mk 0 0 ⟨#[]⟩ [] [] [] []
def zPr:Pr:=.mk MH MH
def ZQ8:Slt:=.mk 0 MH
def ZRJ:Msk:=.mk 0 []
def ZRk:Typ:=⟨0,⟨#[]⟩⟩
def zNt:Nt:=⟨⟨#[]⟩,MH⟩
def ZRq:Fld:=⟨0,⟨#[]⟩,0,0,ZRk,⟨#[]⟩,false,MH,[]⟩
def ZRu:Spn:=⟨0,0⟩
def zBy:By:=⟨0⟩
def ZRs:Msg:=⟨⟨#[]⟩,[],[],[],[]⟩
def ZQD:Itm:=⟨⟨#[]⟩,0,[]⟩
def ZRD:Enm:=⟨⟨#[]⟩,false,[],[],[]⟩
def ZRj:Mth:=⟨⟨#[]⟩,⟨#[]⟩,⟨#[]⟩,0,[]⟩
def ZRh:Svc:=⟨⟨#[]⟩,[],[]⟩
def ZRL:Fil:=⟨⟨#[]⟩,⟨#[]⟩,[],[],[],[]⟩
def ZQ2:Prb:=⟨⟨#[]⟩,0,0⟩
end Go.Eng
namespace Go.Eng
set_option linter.all false
open Go Go.RowKit
def Jc:List Nat->Code->Code
 |[],c=>c
 |0::p,.seq a _=>Jc p a
 |_::p,.seq _ b=>Jc p b
 |0::p,.cond _ a _=>Jc p a
 |_::p,.cond _ _ b=>Jc p b
 |_::p,.block _ c=>Jc p c
 |_::p,.loop c=>Jc p c
 |_::p,.scope c=>Jc p c
 |_,c=>c
def At(f:Func):Code:=f.body.getD .skip
def Ac{α:Type}(e:α->List D)(xs:List α):List AV:=((xs.map e).flatten).map .d
theorem Ff{α:Type}(e:α->List D)(xs:List α):IJ (Ac e xs):=λx hx=>by obtain⟨d,_,rfl⟩:=YV.1 hx;rfl
theorem GA{α:Type}{e:α->List D}{sz:Nat}(he:∀x,(e x).length=sz)(xs:List α):(Ac e xs).length=xs.length*sz:=by
 unfold Ac
 induction xs with
 |nil=>simp
 |cons x xs a=>simp only[YF,YZ,KI,Yt,he,D0,Y1]at a⊢;omega
theorem UI{α:Type}(e:α->List D)(xs ys:List α):Ac e (xs++ys)=Ac e xs++Ac e ys:=by simp[Ac]
section
variable {P:Program} {n:Nat} {C:Cx} {τ:St} {Q:Exit->St->Prop}
theorem ZtC{c:Code}(id:Nat)(x:Code)(b:c=.block id x)(h:LW P n C x τ (λe τ'=>match e with|.exit i=>(match Nat.beq i id with|true=>Q .normal τ'|false=>Q (.exit i) τ')|e=>Q e τ')):LW P n C c τ Q:=b▸ZxD (h.mono λe τ' a=>by
 cases e with
 |exit i=>
  simp only at a⊢;split at a
  ·rename_i he;rw[Ym (Ye he)];exact a
  ·rename_i he;rw[Yk (by rintro rfl;simp at he)];exact a
 |_=>exact a)
end
theorem ZqZ{P:Program}{T:Nat->Option TI}{n:Nat}{f:FuncId}{fn:Func}(e:List ResultVar)(c:Code){l:Nat}{xs:List AV}{H:Hp}{a:AV->Hp->Prop}(θ:Nat->AV)(ys:List AV)
  (j:P.funcs[f]?=some fn) (hb:fn.body=some c) (b:(fn.name== "runtime.NumGoroutine")=false) (o:fn.ntmps=n) (r:fn.results.toList=e) (hx:xs.length<=n) (g:Ba P T)
  (d:Ao ⟨λk=>(l+1,k.2),λ_=>0,θ,H,λ_=>False⟩ ys=xs) (h:∀B:Base,LW P n (WR l θ H B) c (Ab (DQ 0 ys) []) (FQ T e 0 (λy _=>a y H))):Zc0 P f l xs H a:=
 sM e (WR l θ H) (γ:=λ_=>0) (LPost:=λy _=>a y H) j hb b o r hx g (λB=>rK l B θ H) (λB=>⟨rfl,rfl,rfl,trivial⟩) (λB=>d) (λ_=>rfl) (λ_=>rfl) (λB k m=>by simp[AB,Fv]at m) (λB i hi=>absurd hi (Y2 _))
  (λB γ y t s _ q p hy=>by rw[hy rfl,ZxN p];exact q) h
theorem xq{α:Type}(e:α->List D)(xs:List α):BJ ((xs.map e).length:Nat) xs.length:=by simp[BJ]
theorem ug{α:Type}{e e':α->List D}{xs:List α}{i:Nat}{x:α}(hx:xs[i]?=some x)(he:∀x,e x=e' x):Kh (xs.map e) (i:Nat) (e' x):=⟨ae,by simp[hx,he]⟩
theorem yL{α:Type}{e e':α->List D}{xs:List α}{i:Nat}{z:α}(hi:i<xs.length)(he:∀x,e x=e' x):Kh (xs.map e) (i:Nat) (e' (xs.getD i z)):=by refine ug ?_ he;grind
theorem fQ{a r:Int}(h:a=r)(b: -9223372036854775808<=r)(c:r<9223372036854775808):Cz .i64 a r:=by subst h;exact IntWalk.i64_in _ ⟨b,ae⟩
theorem ZND{i len sz:Nat}(h:i<len):MX (i:Nat) len 0 sz (i*sz):=⟨ae,ae,by simp⟩
theorem Zvg{sz:Nat}{e:List D}(C:List AV)(he:e.length=sz):Em sz C (.d (.list [e])) 1 (e.map .d):=by
 refine⟨Yu.2 λx hx=>?_,λq a=>?_,rfl,by simp⟩
 ·obtain⟨d,_,rfl⟩:=YV.1 hx;rfl
 grind
theorem Um{α:Type}{sz:Nat}{e:α->List D}(C:List AV)(xs:List α)(he:∀x,(e x).length=sz):Em sz C (.d (.list (xs.map e))) xs.length (Ac e xs):=by
 refine⟨Yu.2 λx hx=>?_,λq a=>?_,by simp,rfl⟩
 ·obtain⟨d,_,rfl⟩:=YV.1 hx;rfl
 grind
theorem Zx7{α:Type}{sz:Nat}{e:α->List D}(k:Ad)(g:Nat)(xs:List α)(he:∀x,(e x).length=sz):Em sz (Ac e xs) (.ref k g 0 xs.length) xs.length (Ac e xs):=by refine⟨Yu.2 λx hx=>?_,rfl,by rw[GA he];simp,by rw[Mq,Hh,<-GA he xs,OU]⟩;obtain⟨d,_,rfl⟩:=YV.1 hx;rfl
theorem ZwF{α:Type}{sz byt:Nat}{e:α->List D}(xs ys:List α){a:Nat}(he:∀x,(e x).length=sz)(b:xs.length+ys.length=a)(hb:a*byt<=140737488355328):
  JE (Ac e xs) 0 xs.length ys.length sz byt (Ac e ys) (Ac e (xs++ys)) a:=
 ⟨by rw[GA he,YX],by rw[Mq,Hh,UI],b,hb⟩
theorem ZwR{α:Type}(e:α->List D)(x:α):Ac e [x]=(e x).map .d:=by simp[Ac]
theorem eV{α:Type}{sz:Nat}{e:α->List D}(xs:List α)(b:sz≠0)(he:∀x,(e x).length=sz):HY (Ac e xs) 0 xs.length sz (xs.map e):=
 ⟨by simp,b,λq a=>by obtain⟨x,_,rfl⟩:=YV.1 a;exact he x,by rw[GA he];simp,by rw[Mq,Hh,<-GA he xs,OU];rfl⟩
theorem sn{α:Type}{e e':α->List D}{xs:List α}{i:Int}{z:α}(a:0<=i)(hi:i<xs.length)(he:∀x,e x=e' x):Kh (xs.map e) i (e' (xs.getD i.toNat z)):=by have h:=yL (e:=e) (e':=e') (xs:=xs) (i:=i.toNat) (z:=z) ae he;grind
theorem ZOu(s:ByteArray):s.data.toList.length=s.size:=by simp
theorem wT{s:ByteArray}{i:Nat}{x:UInt8}(h:s.data.toList[i]?=some x):Kl s (i:Nat) (x.toNat:Nat):=⟨ae,x,by simpa using h,rfl⟩
theorem tx{s:ByteArray}{i:Nat}(h:i<s.size):Kl s (i:Nat) ((s.data.toList.getD i 0).toNat:Nat):=by refine wT ?_;rw[Yg,Yd (by rw[ZOu];exact h)];rfl
theorem P3{α:Type}{sz byt c:Nat}{e:α->List D}{news:List AV}(xs ys:List α)(he:∀x,(e x).length=sz)(a:ys.length=c)(b:news=Ac e ys)(hb:(xs.length+ys.length)*byt<=140737488355328):
  JE (Ac e xs) 0 xs.length c sz byt news (Ac e (xs++ys)) (xs++ys).length:=by
 subst a;subst b;exact ZwF xs ys he (by rw[Yt]) (by rw[Yt];exact hb)
section
variable {P:Program} {l:Nat} {r:Ren} {f:FuncId} {xs xs':List AV} {hb:List (Ad×Blk)} {x x':AV}
def B9(P:Program)(l:Nat)(no:Ad->Prop)(H:Hp)(c:AV)(e:List AV)(y:AV):Prop:=
 ∃f first a,c=.fn (.func f) first a/\∀l' b,l<=l'->(∀k:Ad,k.1<=l->¬no k->b k=H k)->Zc0 P f l' (first++e++a) b (λg d=>g=y/\d=b)
theorem Zwx{i:Nat}{c:AV}(j:r.θ i=c)(h:B9 P l r.no r.H0 c xs' x')(d:Ao r xs=xs')(e:ren r x=x'):N0 P l r i xs hb x:=by obtain⟨f,first,a,rfl,h⟩:=h;exact⟨f,first,a,j,λb _ g=>by rw[d,e];exact h (l+1) b (Nat.le_succ l) g⟩
theorem Zxa{H:Hp}{no:Ad->Prop}{c:List AV}{y:AV}(h:∀l' a,Zc0 P f l' c a (λd b=>d=y/\b=a)):B9 P l no H (.fn (.func f) [] []) c y:=
 ⟨f,[],[],rfl,λl' a _ _=>by simpa using h l' a⟩
end
section
variable {P:Program} {T:Nat->Option TI} {n:Nat} {C:Cx} {τ:St} {Q:Exit->St->Prop}
theorem yj(g:CxOk C)(k:Ba P T)(hm:P.follows .mixedOrders=true){os:Nat}{fx:List Nat}(d:C.outs=os)(i:C.fx=fx){c:Code}(a:AT)(lf e:Lf)(f:List ResultVar){b:AV->List Blk->Prop}(q:Ren->(Exit->St->Prop)->(AV->List Blk->Prop)->Prop)
  (l:∀r Q b,CT P T C.l n os r c a τ (KB T f os fx r b lf e Q)=q r Q b) (j:∀τ,FQ T f os b .ret τ->Q .ret τ) (h:∀r,r.θ=C.θ->r.H0=C.H0->r.κ=C.κ->r.no=C.no->q r Q b):LW P n C c τ Q:=
 zI g k hm a lf e (by rw[d];exact j) (λγ=>by rw[d,i,l];exact h _ rfl rfl rfl rfl)
theorem wS(e:CxOk C)(g:Ba P T)(hm:P.follows .mixedOrders=true){os:Nat}(f:C.outs=os){c:Code}(a:AT)(d:List ResultVar){b:AV->List Blk->Prop}(q:Ren->(AV->List Blk->Prop)->Prop)
  (i:∀r b,CT P T C.l n os r c a τ (KF T d os b)=q r b) (h:∀r,r.θ=C.θ->r.H0=C.H0->r.κ=C.κ->r.no=C.no->q r b):LW P n C c τ (FQ T d os b):=by
 subst f;exact ZJN e g hm a (λγ=>by rw[i];exact h _ rfl rfl rfl rfl)
mutual
theorem ZvX{H:Hp}:∀(x:AV) {a:AT} {K c:AV->AT->Prop},(∀y a,K y a->c y a)->frz H x a K->frz H x a c
 |.d x,a,K,c,b,h=>b _ _ h
 |.e0,a,K,c,b,h=>b _ _ h
 |.agg xs,a,K,c,b,h=>ru xs (λys a h=>b _ _ h) h
 |.ref k g off m,a,K,c,b,h=>by unfold frz at h⊢;grind
 |.top,a,K,c,b,h=>by simp only[frz]at h
 |.p _,a,K,c,b,h=>by simp only[frz]at h
 |.ptr _ _ _,a,K,c,b,h=>by simp only[frz]at h
 |.mp k g,a,K,c,b,h=>by unfold frz at h⊢;grind
 |.iptr _ _,a,K,c,b,h=>by simp only[frz]at h
 |.ifc _ _ _,a,K,c,b,h=>b _ _ h
 |.fn _ _ _,a,K,c,b,h=>by simp only[frz]at h
 |.tup _,a,K,c,b,h=>by simp only[frz]at h
theorem ru{H:Hp}:∀(xs:List AV) {a:AT} {K b:List AV->AT->Prop},(∀y a,K y a->b y a)->JL H xs a K->JL H xs a b
 |[],a,K,b,c,h=>c _ _ h
 |x::xs,a,K,b,c,h=>by simp only[JL]at h⊢;exact ZvX x (λy a h=>ru xs (λys a h=>c _ _ h) h) h
end
end
end Go.Eng
