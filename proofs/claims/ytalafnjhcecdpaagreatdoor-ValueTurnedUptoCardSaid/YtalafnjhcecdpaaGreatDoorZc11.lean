import Derived.Test.YtalafnjhcecdpaaGreatDoorZc10
import Derived.Test.YtalafnjhcecdpaaGreatDoorZc00
namespace Go.Eng
set_option linter.all false
open Go Go.RowKit
def Di:Nat→List Blk→List (Ad×Blk)
 |_,[]=>[]
 |i,b::bs=>((0,i),b)::Di (i+1) bs
abbrev Cl:=(Ad→Prop)→Nat→Hp→(Nat→AV)→Prop
structure KO (P:Program) (f:FuncId) (os:Nat) (ys:List AV) (bi:List Blk) (Θ:Cl) {γ:Type} (M:Option γ) (e:γ→AV) (bs:γ→List Blk):Prop where
 k:∀l H (ks:List Ad) (gs:List Nat) (θ:Nat→AV),ks.length=os→I6 l ks→ks.Nodup→Jy H (Cf l ks gs θ H) (Di 0 bi) 0 ks→Θ (fun k=>k∈ks) l H θ→∀y,M=some y→
  Zcu P f l (Al (Cf l ks gs θ H) ys) H (fun z H'=>z=ren (Cf l ks gs θ H) (e y)∧H'=Dr H ks (CH (Cf l ks gs θ H) 0 (bs y)))
mutual
def Jr(os:Nat):AV→Bool
 |.ref k _ _ _=>Nat.beq k.1 0&&Nat.ble (k.2+1) os
 |.ptr k _ _=>Nat.beq k.1 0&&Nat.ble (k.2+1) os
 |.mp k _=>Nat.beq k.1 0&&Nat.ble (k.2+1) os
 |.fn f xs ys=>(match f with|.yield _=>false|_=>true)&&IX os xs&&IX os ys
 |.agg xs=>IX os xs
 |.tup xs=>IX os xs
 |.top=>true
 |.d _=>true
 |.e0=>true
 |.p _=>true
 |.iptr _ _=>true
 |.ifc _ _ _=>true
def IX(os:Nat):List AV→Bool
 |[]=>true
 |x::xs=>Jr os x&&IX os xs
end
def MP(os:Nat)(r a:Ren):Prop:=∀q,q<os→r.κ (0,q)=a.κ (0,q)∧r.γ (0,q)=a.γ (0,q)
theorem a2{os:Nat}{r c:Ren}(hs:MP os r c){k:Ad}(h:(Nat.beq k.1 0&&Nat.ble (k.2+1) os)=true):r.κ k=c.κ k∧r.γ k=c.γ k:=by
 simp only[Yc]at h
 obtain⟨a,b⟩:=k
 have d:=Yb h.1
 have e:=Yg h.2
 simp only at d e
 subst d
 exact hs b e
mutual
theorem aG{os:Nat}{r c:Ren}(hs:MP os r c):∀x:AV,Jr os x=true→ren r x=ren c x
 |.ref k g off n,h=>by obtain⟨a,b⟩:=a2 hs h;simp only[ren,a,b]
 |.ptr k g off,h=>by obtain⟨a,b⟩:=a2 hs h;simp only[ren,a,b]
 |.mp k g,h=>by obtain⟨a,b⟩:=a2 hs h;simp only[ren,a,b]
 |.fn f xs ys,h=>by
  simp only[Jr,Yc]at h
  have a:=Me hs xs h.1.2
  have b:=Me hs ys h.2
  cases f<;>first|(simp only[ren,a,b];done)|(simp at h)
 |.agg xs,h=>by simp only[Jr]at h;simp only[ren,Me hs xs h]
 |.tup xs,h=>by simp only[Jr]at h;simp only[ren,Me hs xs h]
 |.top,_=>by simp[ren]
 |.d _,_=>by simp[ren]
 |.e0,_=>by simp[ren]
 |.p _,_=>by simp[ren]
 |.iptr _ _,_=>by simp[ren]
 |.ifc _ _ _,_=>by simp[ren]
theorem Me{os:Nat}{r a:Ren}(hs:MP os r a):∀xs:List AV,IX os xs=true→Al r xs=Al a xs
 |[],_=>by simp[Al]
 |x::xs,h=>by
  simp only[IX,Yc]at h
  simp only[Al,aG hs x h.1,Me hs xs h.2]
end
def FA(os:Nat):List Blk→Prop
 |[]=>True
 |b::bs=>(HN b.cells∨IX os b.cells=true)∧b.live=true∧FA os bs
theorem FA.ren{os:Nat}{r a:Ren}(hs:MP os r a):∀(bs:List Blk) (i:Nat),i+bs.length≤os→FA os bs→CH r i bs=CH a i bs
 |[],_,_,_=>rfl
 |b::bs,i,hl,h=>by
  simp only[D7]at hl
  have d:Al r b.cells=Al a b.cells:=by
   rcases h.1 with c|e
   ·rw[IE c,IE c]
   ·exact Me hs _ e
  simp only[CH,FA.ren hs bs (i+1) (by omega) h.2.2,AE,d,(hs i (by omega)).2]
theorem FA.live{os:Nat}:∀{bs:List Blk},FA os bs→∀b∈bs,b.live=true
 |c::bs,h,b,a=>by
  rcases Yu.1 a with rfl|a
  ·exact h.2.1
  ·exact FA.live h.2.2 b a
theorem IW:HN []:=fun x hx=>by cases hx
theorem CY{P:Program}{T:Nat→Option TI}{n:Nat}{f:FuncId}{fn:Func}{ys:List AV}{bi:List Blk}{Θ:Cl}{γ:Type}{M:Option γ}{e:γ→AV}{bs:γ→List Blk}(I:P.funcs[f]?=some fn)(J:fn.ntmps=n)(F:A5 P T)(u:List ResultVar)(os:Nat)
  (h:∀C:Cx,CO C os→Θ C.no C.l C.H0 C.θ→∀y,M=some y→∀a:AV→List Blk→Prop,HL (fun y=>a (e y) (bs y)) y→LW P n C (pa [] (As fn)) (Ac (Ds 0 ys) (Di 0 bi)) (FQ T u os a))
  (he:∀y,Jr os (e y)=true:=by intro y;kernel_rfl) (v:∀y,FA os (bs y):=by intro y;repeat(first|exact trivial|refine⟨.inl (EI _ _),rfl,?_⟩|refine⟨.inl IW,rfl,?_⟩|refine⟨.inr (by kernel_rfl),rfl,?_⟩)) (hl:∀y,(bs y).length=os:=by intro y;rfl) (o:H3 os (Di 0 bi)=true:=by kernel_rfl)
  (G:fn.body=some (As fn):=by kernel_rfl) (c:(fn.name== "runtime.NumGoroutine")=false:=by kernel_rfl) (d:fn.results.toList=u:=by kernel_rfl) (hx:Nat.ble ys.length n=true:=by kernel_rfl):KO P f os ys bi Θ M e bs:=
 ⟨fun l H ks g θ p i t D hΘ y hy=>by
  have hN:∀r,It l ks g r→MP os r (Cf l ks g θ H):=fun r d q K=>by
   obtain⟨w,x⟩:=d
   exact⟨congrFun w _,x q (by omega)⟩
  refine x2 u (As fn) ks g os θ ys (Di 0 bi) (e y) (bs y) (Y':=ren (Cf l ks g θ H) (e y)) (bs':=CH (Cf l ks g θ H) 0 (bs y)) I G c J d (by rw[Cu];exact Yg hx) F p i t o D rfl (hl y) (v y).live
   (fun r d=>aG (hN r d) _ (he y)) (fun r d=>FA.ren (hN r d) _ _ (by rw[hl];omega) (v y)) (fun C A E B s m L N j=>?_) ⟨rfl,rfl⟩
  refine h C ⟨A,E,B,fun q K=>?_⟩ (by rw[j,s,m,L];exact hΘ) y hy (fun z b=>z=e y∧b=bs y) ⟨rfl,rfl⟩
  rw[j,N]
  show(match Bg ks q with|some k=>k|none=>(0,0))∈ks
  rw[Cb,Ya (by omega)]
  exact Ix _⟩
def EV(r:Ren):List (Ad×Blk)→List Nat
 |[]=>[]
 |(k,b)::a=>(r.γ k+b.g)::EV r a
def BE(r a:Ren):Nat→List Blk→List (Ad×Blk)→Prop
 |i,b::bs,(k,c)::cs=>(b.live=true→c.live=true∧AE r (0,i) b=AE a k c)∧r.γ (0,i)+b.g=a.γ k+c.g∧BE r a (i+1) bs cs
 |_,[],[]=>True
 |_,_,_=>False
def GI:List Ad→Bool
 |[]=>true
 |k::ks=>!(ks.any (Bu k))&&GI ks
theorem Ow{κ:Ad→Ad}{os:Nat}(a:∀q k:Ad,Bv os q=true→Bv os k=true→q≠k→κ q≠κ k):∀(ks:List Ad),GI ks=true→ks.all (Bv os)=true→(ks.map κ).Nodup
 |[],_,_=>List.nodup_nil
 |k::ks,h,b=>by
  simp only[GI,Yc,YU]at h
  simp only[Iv,Yc]at b
  rw[YR,List.nodup_cons]
  refine⟨fun hm=>?_,Ow a ks h.2 b.2⟩
  obtain⟨q,d,e⟩:=YT.1 hm
  have c:q≠k:=fun e'=>SI h.1 (e'▸d)
  grind
section
variable {P:Program} {f:FuncId} {os os':Nat} {ys:List AV} {bi:List Blk} {Θ:Cl} {γ:Type} {M:Option γ} {e:γ→AV} {bs:γ→List Blk} {C:Cx} {r:Ren} {xs:List AV} {x:AV} {y:γ}
theorem Tw{fx:List Nat}(co:COx C os' fx)(g:Gd C r):∀q k:Ad,Bv os' q=true→Bv os' k=true→q≠k→r.κ q≠r.κ k:=by
 intro q k m j l he
 rw[g.κ]at he
 rcases F5 m with e|⟨e,h⟩<;>rcases F5 j with f|⟨f,i⟩
 ·obtain⟨a,b⟩:=q
  obtain⟨c,d⟩:=k
  simp only at e f
  subst e;subst f
  rw[co.ok.own,co.ok.own]at he
  grind
 ·obtain⟨a,b⟩:=q
  obtain⟨c,d⟩:=k
  simp only at e f i
  subst e;subst f
  rw[co.ok.own]at he
  have:=co.ok.out d (by rw[co.O];exact i)
  grind
 ·obtain⟨a,b⟩:=q
  obtain⟨c,d⟩:=k
  simp only at e h f
  subst e;subst f
  rw[co.ok.own]at he
  have:=co.ok.out b (by rw[co.O];exact h)
  grind
 ·obtain⟨a,b⟩:=q
  obtain⟨c,d⟩:=k
  simp only at e h f i
  subst e;subst f
  have:=co.ok.inj b d (by rw[co.O];exact h) (by rw[co.O];exact i) he
  grind
theorem Mo{fx:List Nat}(co:COx C os' fx)(g:Gd C r):∀(ks:List Ad),ks.all (Bv os')=true→I6 (C.l+1) (ks.map r.κ)
 |[],_=>trivial
 |k::ks,h=>by
  simp only[Iv,Yc]at h
  refine⟨?_,Mo co g ks h.2⟩
  rw[g.κ]
  obtain⟨a,b⟩:=k
  rcases F5 h.1 with c|⟨c,d⟩
  ·simp only at c;subst c;rw[co.ok.own];exact Ye _
  ·simp only at c d;subst c;exact Qf (co.ok.out b (by rw[co.O];exact d))
theorem OQ:∀(bi:List Blk) (i j:Nat),Ax (Di i bi) (0,i+j)=(bi[j]?).getD EU
 |[],i,j=>by simp[Di,Ax]
 |b::bi,i,0=>by simp[Di,Ax,Bu]
 |b::bi,i,j+1=>by
  have a:=OQ bi (i+1) j
  simp only[Di,Ax]
  have:Bu (0,i) (0,i+(j+1))=false:=by
   simp only[Bu,La]
   right
   cases h:Nat.beq i (i+(j+1))with
   |false=>rfl
   |true=>have:=Yb h;omega
  grind
theorem Pa{l:Ren}{d:Hp}:∀(bi:List Blk) (a:List (Ad×Blk)) (i:Nat) (B:List Blk),(∀j,Ax (Di 0 B) (0,i+j)=(bi[j]?).getD EU)→BE l r i bi a→
  (∀p∈a,(d (r.κ p.1)).g=r.γ p.1+p.2.g∧(p.2.live=true→d (r.κ p.1)=AE r p.1 p.2))→Jy d l (Di 0 B) i ((a.map (·.1)).map r.κ)
 |[],[],i,B,_,_,_=>trivial
 |b::bi,(k,c)::a,i,B,f,h,g=>by
  have e:=f 0
  simp only[FO,YS,FN]at e
  obtain⟨o,q,m⟩:=h
  refine⟨?_,Pa bi a (i+1) B (fun j=>?_) m fun p n=>g p (Yx _ n)⟩
  ·rw[e]
   have s:=g _ (Yz ..)
   grind
  ·have:=f (j+1)
   grind
 |[],_::_,_,_,_,h,_=>h.elim
 |_::_,[],_,_,_,h,_=>h.elim
theorem zP{H:Hp}{k:Ad}:updH H k (H k)=H:=by
 funext q
 by_cases h:q=k
 ·subst h;exact AM ..
 ·exact AB _ _ h
theorem ZM{g:Ren}{d:Hp}:∀(bi:List Blk) (a:List (Ad×Blk)) (i:Nat),BE g r i bi a→(∀b∈bi,b.live=true)→(∀p∈a,p.2.live=true→d (r.κ p.1)=AE r p.1 p.2)→Dr d ((a.map (·.1)).map r.κ) (CH g i bi)=d
 |[],[],_,_,_,_=>rfl
 |b::bi,(k,c)::a,i,h,hl,f=>by
  obtain⟨l,q,m⟩:=h
  have e:=l (hl b (Yz ..))
  have j:=f _ (Yz ..) e.1
  simp only[YR,Dr,CH]
  rw[e.2,←j,zP]
  exact ZM bi a (i+1) m (fun b n=>hl b (Yx _ n)) fun p o=>f p (Yx _ o)
 |[],_::_,_,h,_,_=>h.elim
 |_::_,[],_,h,_,_=>h.elim
theorem Z8{j:Ren}:∀(d:List Blk) (f a:List (Ad×Blk)) (i:Nat) (g:Hp),BE j r i d a→(∀b∈d,b.live=true)→f.map (·.1)=a.map (·.1)→Dr g ((f.map (·.1)).map r.κ) (CH j i d)=C5 r a g
 |[],[],[],_,_,_,_,_=>rfl
 |[],_::_,[],_,_,_,_,h=>by cases h
 |b::d,[],_::_,_,_,_,_,h=>by cases h
 |b::d,(k,c)::f,(q,o)::a,i,g,h,hl,he=>by
  obtain⟨l,p,m⟩:=h
  simp only[YR,List.cons.injEq]at he
  obtain⟨rfl,he⟩:=he
  have e:=l (hl b (Yz ..))
  simp only[YR,Dr,CH,C5]
  rw[e.2]
  exact Z8 d f a (i+1) _ m (fun b n=>hl b (Yx _ n)) he
 |_::_,_,[],_,_,h,_,_=>h.elim
 |[],_,_::_,_,_,h,_,_=>h.elim
def rC(C:Cx)(r:Ren)(a:List (Ad×Blk))(θ:Nat→AV)(H:Hp):Ren:=Cf (C.l+1) ((a.map (·.1)).map r.κ) (EV r a) θ H
def Th(Θ:Cl)(C:Cx)(r:Ren)(b c:List (Ad×Blk))(θ:Nat→AV):Prop:=
 ∀a,(∀p∈c,(a (r.κ p.1)).g=r.γ p.1+p.2.g∧(p.2.live=true→a (r.κ p.1)=AE r p.1 p.2))→(∀k:Ad,k.1≤C.l→¬r.no k→a k=r.H0 k)→Θ (fun k=>k∈(b.map (·.1)).map r.κ) (C.l+1) a θ
theorem De(K:KO P f os ys bi Θ M e bs)(hy:M=some y){fx:List Nat}(co:COx C os' fx)(g:Gd C r)(a k:List (Ad×Blk))(θ:Nat→AV)(hΘ:Th Θ C r a (a++k) θ)(l:∀H,BE (rC C r a θ H) r 0 bi a)(t:bs y=bi:=by rfl)(n:bi.all Blk.live=true:=by kernel_rfl)(i:(a++k).all (fun p=>p.2.live)=true:=by kernel_rfl)(hx:∀H,Al (rC C r a θ H) ys=Al r xs:=by intro H;kernel_rfl)(u:∀H,ren (rC C r a θ H) (e y)=ren r x:=by intro H;kernel_rfl)
  (m:((a.map (·.1)).all (Bv os')&&GI (a.map (·.1))&&Nat.beq a.length os)=true:=by kernel_rfl):GO P C.l r f xs (a++k) x:=by
 intro d v D
 have s:∀b∈bi,b.live=true:=fun b E=>Ys.1 n b E
 have o:∀p∈a++k,p.2.live=true:=fun p c=>Ys.1 i p c
 have h:∀p∈a,p∈a++k:=fun p c=>Ho _ c
 simp only[Yc]at m
 have q:∀p∈a++k,(d (r.κ p.1)).g=r.γ p.1+p.2.g∧(p.2.live=true→d (r.κ p.1)=AE r p.1 p.2):=fun p c=>⟨by rw[v p c (o p c)];rfl,v p c⟩
 have:=K.k (C.l+1) d ((a.map (fun p:Ad×Blk=>p.1)).map r.κ) (EV r a) θ (by rw[YE,YE];exact Yb m.2) (Mo co g _ m.1.1) (Ow (Tw co g) _ m.1.2 m.1.1)
  (Pa bi a 0 bi (fun j=>by have:=OQ bi 0 j;rwa [YP]at this⊢) (l d) fun p c=>q p (h p c)) (hΘ d q D) y hy
 rw[←hx d]
 refine this.mono fun z w ⟨A,B⟩=>⟨A.trans (u d),B.trans ?_⟩
 rw[t]
 exact ZM bi a 0 (l d) s fun p c hl=>(q p (h p c)).2 hl
theorem Zvm(K:KO P f os ys bi Θ M e bs)(hy:M=some y){fx:List Nat}(co:COx C os' fx)(g:Gd C r)(a m c:List (Ad×Blk))(θ:Nat→AV)(hΘ:Th Θ C r a (a++m) θ)
  (n:∀H,BE (rC C r a θ H) r 0 bi a) (h:∀H,BE (rC C r a θ H) r 0 (bs y) c) (k:(bs y).all Blk.live=true:=by kernel_rfl) (hx:∀H,Al (rC C r a θ H) ys=Al r xs:=by intro H;kernel_rfl) (s:∀H,ren (rC C r a θ H) (e y)=ren r x:=by intro H;kernel_rfl)
  (i:((a.map (·.1)).all (Bv os')&&GI (a.map (·.1))&&Nat.beq a.length os)=true:=by kernel_rfl) (he:a.map (·.1)=c.map (·.1):=by rfl):HQ P C.l r f xs (a++m) x c []:=by
 have o:∀b∈bs y,b.live=true:=fun b B=>Ys.1 k b B
 have l:∀p∈a,p∈a++m:=fun p q=>Ho _ q
 refine Zt7 rfl rfl fun d t A=>?_
 simp only[Yc]at i
 have:=K.k (C.l+1) d ((a.map (fun p:Ad×Blk=>p.1)).map r.κ) (EV r a) θ (by rw[YE,YE];exact Yb i.2) (Mo co g _ i.1.1) (Ow (Tw co g) _ i.1.2 i.1.1)
  (Pa bi a 0 bi (fun j=>by have:=OQ bi 0 j;rwa [YP]at this⊢) (n d) fun p q=>t p (l p q)) (hΘ d t A) y hy
 rw[←hx d]
 exact this.mono fun z u ⟨v,w⟩=>⟨v.trans (s d),w.trans (Z8 (bs y) a c 0 d (h d) o he)⟩
end
structure CloM (P:Program) (C:Cx) (i:Nat) (xs:List AV) {γ:Type} (M:Option γ) (e:γ→AV):Prop where
 k:∀y,M=some y→BV P C.l C.no C.H0 (C.θ i) xs (e y)
 x:∀r,Al r xs=xs
 e:∀r y,ren r (e y)=e y
section
variable {os:Nat} {β γ:Type} [Inhabited γ]
theorem CloM.callF{P:Program}{i:Nat}{xs:List AV}{M:Option γ}{e:γ→AV}(E:Ev os β)(h:CloM P E.C i xs M e){y:γ}(hy:M=some y):MG P E.E.l E.E.r i xs [] (e y):=
 Zua (congrFun E.g.θ i) (by rw[E.hl,E.g.no,E.g.H];exact h.k y hy) (h.x _) (h.e _ _)
@[reducible] def cf(P:Program)(i:Nat)(xs:List AV)(M:Option γ)(e:γ→AV)(k:γ→PT os β):PT os β:=
 ⟨.call (e (M.getD default)) [] (k (M.getD default)).a,fun E=>MG P E.l E.r i xs [] (e (M.getD default))∧(k (M.getD default)).q E,M.bind fun y=>(k y).m,fun E=>CloM P E.C i xs M e∧∀y,(k y).n E,fun E b y hm f=>by
  obtain⟨x,a,c⟩:=bind_some hm
  have d:M.getD default=x:=by rw[a];rfl
  rw[d]
  exact⟨b.1.callF E a,(k x).ok E (b.2 x) y c f⟩⟩
@[reducible] def G8(b:Bool)(P:Program)(i:Nat)(xs:List AV)(M:Option γ)(e:γ→AV)(k:γ→PT os β):PT os β:=
 ⟨.call (e (M.getD default)) [] (k (M.getD default)).a,fun E=>(b=true→MG P E.l E.r i xs [] (e (M.getD default)))∧(k (M.getD default)).q E,if(b=true→M.isSome=true)then(k (M.getD default)).m else none,fun E=>CloM P E.C i xs M e∧∀y,(k y).n E,fun E c y hm g=>by
  obtain⟨d,hm⟩:=BC hm
  refine⟨fun h=>?_,(k _).ok E (c.2 _) y hm g⟩
  obtain⟨x,a⟩:=Y6.1 (d h)
  have f:M.getD default=x:=by rw[a];rfl
  rw[f];exact c.1.callF E a⟩
@[reducible] def cs(P:Program)(f:FuncId)(xs:List AV)(ks:List Ad)(b:List (Ad×Blk))(M:Option γ)(e:γ→AV)(k:γ→PT os β):PT os β:=
 ⟨.call (e (M.getD default)) ks (k (M.getD default)).a,fun E=>GO P E.l E.r f xs b (e (M.getD default))∧(k (M.getD default)).q E,M.bind fun y=>(k y).m,fun E=>(∀y,M=some y→GO P E.C.l E.E.r f xs b (e y))∧∀y,(k y).n E,fun E c y hm h=>by
  obtain⟨x,a,d⟩:=bind_some hm
  have g:M.getD default=x:=by rw[a];rfl
  rw[g]
  exact⟨by rw[E.hl];exact c.1 x a,(k x).ok E (c.2 x) y d h⟩⟩
@[reducible] def CX(b:Bool)(P:Program)(f:FuncId)(xs:List AV)(ks:List Ad)(a:List (Ad×Blk))(M:Option γ)(e:γ→AV)(k:γ→PT os β):PT os β:=
 ⟨.call (e (M.getD default)) ks (k (M.getD default)).a,fun E=>(b=true→GO P E.l E.r f xs a (e (M.getD default)))∧(k (M.getD default)).q E,if(b=true→M.isSome=true)then(k (M.getD default)).m else none,fun E=>(∀y,M=some y→GO P E.C.l E.E.r f xs a (e y))∧∀y,(k y).n E,fun E d y hm i=>by
  obtain⟨g,hm⟩:=BC hm
  refine⟨fun a=>?_,(k _).ok E (d.2 _) y hm i⟩
  obtain⟨x,c⟩:=Y6.1 (g a)
  have h:M.getD default=x:=by rw[c];rfl
  rw[h,E.hl];exact d.1 x c⟩
@[reducible] def mv{α:Type}[Rw α](d q:Nat)(xs:List α)(k:PT os β)(a:Nat.ble (q+1) os=true:=by kernel_rfl):PT os β:=
 ⟨.mv d q k.a,fun E=>Fq (Aa Rw.e xs)∧(q<os∧E.r.no (E.r.κ (0,q)))∧k.q E,k.m,k.n,fun E c y hm b=>
  ⟨lR _ _,⟨Yg a,by rw[E.g.no,E.g.κ];exact E.co.W q (Yg a)⟩,k.ok E c y hm b⟩⟩
@[reducible] def mvc{α:Type}[Rw α](d q e i:Nat)(xs:List α)(k:PT os β)(a:Nat.ble (q+1) os=true:=by kernel_rfl):PT os β:=
 ⟨.mvc d q e i k.a,fun E=>Fq (Aa Rw.e xs)∧(q<os∧E.r.no (E.r.κ (0,q)))∧k.q E,k.m,k.n,fun E c y hm b=>
  ⟨lR _ _,⟨Yg a,by rw[E.g.no,E.g.κ];exact E.co.W q (Yg a)⟩,k.ok E c y hm b⟩⟩
end
section
variable {P:Program} {os os':Nat} {ys:List AV} {bi:List Blk} {Θ:Cl} {γ:Type} {M:Option γ} {e:γ→AV} {bs:γ→List Blk} {C:Cx} {r:Ren} {y:γ}
theorem HI{f:FuncId}(K:KO P f os ys bi Θ M e bs)(hy:M=some y){fx:List Nat}(co:COx C os' fx)(g:Gd C r)(c i:List (Ad×Blk)){w:List (Ad×Blk)}{v:Hp}(L:∀p∈w,(v (r.κ p.1)).g=r.γ p.1+p.2.g∧(p.2.live=true→v (r.κ p.1)=AE r p.1 p.2))(u:∀p∈c,p∈w)
  {G d:List AV} (θ:Nat→AV) (hΘ:∀l' a,Θ (fun k=>k∈(c.map (·.1)).map r.κ) l' a θ) (o:∀l H,BE (Cf l ((c.map (·.1)).map r.κ) (EV r c) θ H) r 0 bi c) (B:bs y=bi:=by rfl) (t:bi.all Blk.live=true:=by kernel_rfl)
  (hx:∀l H,Al (Cf l ((c.map (·.1)).map r.κ) (EV r c) θ H) ys=G++d:=by intro l H;kernel_rfl) (D:∀l H,ren (Cf l ((c.map (·.1)).map r.κ) (EV r c) θ H) (e y)=e y:=by intro l H;kernel_rfl)
  (F:(((c++i).map (·.1)).all (Bv os')&&GI ((c++i).map (·.1))&&Nat.beq c.length os)=true:=by kernel_rfl):BV P (C.l+1) (fun k=>k∈(i.map (·.1)).map r.κ) v (.fn (.func f) [] d) G (e y):=by
 have A:∀b∈bi,b.live=true:=fun b w=>Ys.1 t b w
 refine⟨f,[],d,rfl,fun l' a hl N=>?_⟩
 simp only[Yc,DP,List.all_append]at F
 obtain⟨⟨⟨E,Q⟩,R⟩,S⟩:=F
 have m:=Ow (Tw co g) _ R (by rw[List.all_append,E,Q];rfl)
 rw[DP,List.nodup_append]at m
 have x:∀p∈c,a (r.κ p.1)=v (r.κ p.1):=fun p n=>by
  have hm:r.κ p.1∈(c.map (·.1)).map r.κ:=U6 (U6 n)
  exact N _ (SE (Mo co g _ E) _ hm) fun h=>m.2.2 _ hm _ h rfl
 have q:∀p∈c,(a (r.κ p.1)).g=r.γ p.1+p.2.g∧(p.2.live=true→a (r.κ p.1)=AE r p.1 p.2):=fun p n=>by rw[x p n];exact L p (u p n)
 have s:I6 l' ((c.map (·.1)).map r.κ):=by
  have:=Mo co g (c.map (·.1)) E
  generalize (c.map (·.1)).map r.κ=ks at this
  induction ks with
  |nil=>trivial
  |cons k ks O=>exact⟨D8 this.1 hl,O this.2⟩
 have:=K.k l' a ((c.map (fun p:Ad×Blk=>p.1)).map r.κ) (EV r c) θ (by rw[YE,YE];exact Yb S) s m.1
  (Pa bi c 0 bi (fun j=>by have:=OQ bi 0 j;rwa [YP]at this⊢) (o l' a) q) (hΘ l' a) y hy
 rw[GB,←hx l' a]
 refine this.mono fun z T ⟨I,J⟩=>⟨I.trans (D l' a),J.trans ?_⟩
 rw[B]
 exact ZM bi c 0 (o l' a) A fun p n hl=>(q p n).2 hl
theorem IM{f:FuncId}{xs:List AV}(K:KC P f xs M e)(hy:M=some y){l:Nat}{no:Ad→Prop}{H:Hp}:BV P l no H (.fn (.func f) [] []) xs (e y):=ZtO fun l' a=>K.k l' a y hy
end
theorem Bp{C:Cx}{r:Ren}{os':Nat}{P:Program}{i:Nat}{xs:List AV}{y:AV}{fx:List Nat}(co:COx C os' fx)(g:Gd C r)(m:List (Ad×Blk)){l:Hp}(p:∀k:Ad,k.1≤C.l→¬r.no k→l k=r.H0 k)(h:BV P C.l C.no C.H0 (C.θ i) xs y)
  (o:((m.map (·.1)).all (Bv os'))=true:=by kernel_rfl):BV P (C.l+1) (fun k=>k∈(m.map (·.1)).map r.κ) l (r.θ i) xs y:=by
 rw[g.θ]
 refine rP h (Nat.le_succ _) (fun q f d hm=>?_) fun q f d=>?_
 ·obtain⟨k,j,e⟩:=YT.1 hm
  rw[g.κ]at e
  obtain⟨a,b⟩:=k
  rcases F5 (Ys.1 o _ j)with c|⟨c,n⟩
  ·simp only at c;subst c;rw[co.ok.own]at e;rw[←e]at f;simp only at f;omega
  ·simp only at c n;subst c;rw[←e]at d;exact d (co.W b n)
 ·rw[←g.H];exact p q f (by rw[g.no];exact d)
theorem F0{r b:Ren}{k k':Ad}{g a:Nat}{e:EK}{sz:Nat}{cs:List AV}(h:HN cs)(c:r.γ k+g=b.γ k'+a):AE r k ⟨g,true,e,sz,cs⟩=AE b k' ⟨a,true,e,sz,cs⟩:=by
 simp only[AE,IE h,c]
section
variable {P:Program} {T:Nat→Option TI} {n:Nat} {C:Cx} {τ:St} {Q:Exit→St→Prop} {os k:Nat} {c:Code} {β:Type} {L:β→Prop} {y:β}
theorem ws{fx:List Nat}(co:COx C os fx)(o:A5 P T)(m:Nat)(v:PT os β)(lf:Lf)(s:v.m=some y)(j:HL L y)(p:∀r (g:Gd C r),v.n ⟨⟨C.l,r,fun _ τ'=>LO P n C c (k+m) τ' Q,fun _ _=>False⟩,L,C,_,co,g,rfl⟩)
  (q:∀l r Q b,A4 r os v.a τ (fun τ a=>FH P T l n r ((BU c).toList.map (·.dst)) (HP m (GL k (BU c).toList)) [] a (fun τ' env d=>A4 r os d (Dx env τ') (fun τ _=>DV fx lf τ (Q .normal))) τ)=v.q ⟨l,r,Q,b⟩:=by intro l r Q P;kernel_rfl):LO P n C c k τ Q:=
 tx co.ok o co.O co.F m v.a lf (fun r Φ=>v.q ⟨C.l,r,fun _=>Φ,fun _ _=>False⟩) (fun r Φ=>q _ r (fun _=>Φ) _) fun r e f h i=>v.ok _ (p r ⟨e,f,h,i⟩) y s j
theorem wj{fx:List Nat}(co:COx C os fx)(m:A5 P T)(v:PT os β)(lf:Lf)(q:v.m=some y)(j:HL L y)(o:∀r (g:Gd C r),v.n ⟨⟨C.l,r,Q,fun _ _=>False⟩,L,C,_,co,g,rfl⟩)
  (p:∀l r Q b,A4 r os v.a τ (fun τ a=>FH P T l n r ((BU c).toList.map (·.dst)) (GL k (BU c).toList) [] a (fun τ' env d=>A4 r os d (Dx env τ') (fun τ _=>DV fx lf τ (Q .normal))) τ)=v.q ⟨l,r,Q,b⟩:=by intro l r Q P;kernel_rfl):LO P n C c k τ Q:=
 sS co.ok m co.O co.F v.a lf (fun r Q=>v.q ⟨C.l,r,Q,fun _ _=>False⟩) (fun r Q=>p _ r Q _) fun r e f h i=>v.ok _ (o r ⟨e,f,h,i⟩) y q j
theorem vG{γ:Type}{M:Option γ}{kk:γ→Option β}{ss:List (Nat×AV)}{hs:List (Ad×Blk)}{fx:List Nat}(co:COx C os fx)(hm:M.bind kk=some y)(f:FuncId)(xs:List AV)(ks:List Ad)(b:List (Ad×Blk))(e:γ→AV)(Aq:γ→List (Ad×Blk))(fl:List Ad)
  (l:∀z,E2 C (Aq z)) (d:Jn (Ax hs) fl) (a:∀z,M=some z→∀r,Gd C r→HQ P C.l r f xs b (e z) (Aq z) [])
  (h:∀z,kk z=some y→LO P n C c (k+1) (Ac (GV (Fr c k) (e z) (DU [] ss)) (Aq z++CR ((Aq z).map (·.1)) [] fl hs)) Q)
  (j:GK c k=some (Fr c k,callF c k,GP c k):=by kernel_rfl) (v:ev (Av ss) (callF c k)=.fn (.func f) [] []:=by kernel_rfl) (m:[]++(GP c k).map (ev (Av ss))++[]=xs:=by kernel_rfl) (g:(ks.map fun k=>(k,Ax hs k))=b:=by kernel_rfl)
  (i:∀z,(Dv os (Aq z)&&Lq [] (Aq z)&&Mn [] fx&&HS hs&&MO n (Fr c k)&&ks.all (Bv os))=true:=by intro z;kernel_rfl):LO P n C c k (Ac ss hs) Q:=by
 obtain⟨z,o,p⟩:=bind_some hm
 exact nB co.ok co.O co.F f [] [] xs j v m ks b g (e z) (Aq z) [] fl (i z) (l z) d (fun r q s t u=>a z o r ⟨q,s,t,u⟩) (h z p)
theorem s6 {f os os':Nat} {ys xs:List AV} {bi:List Blk} {γ:Type} {M:Option γ} {e:γ→AV} {bs:γ→List Blk} {z:γ} {x:AV} {r:Ren} (K:KO P f os ys bi (fun _ _ _ _=>True) M e bs) (hy:M=some z) {fx:List Nat} (co:COx C os' fx) (g:Gd C r) (a d:List (Ad×Blk)) (h:∀H,BE (rC C r a (Av []) H) r 0 bi a:=by
   intro H
   repeat(first|exact trivial|refine⟨fun _=>⟨rfl,F0 (EI _ _) (by kernel_rfl)⟩,by kernel_rfl,?_⟩|refine⟨fun _=>⟨rfl,F0 IW (by kernel_rfl)⟩,by kernel_rfl,?_⟩|refine⟨fun _=>⟨rfl,by kernel_rfl⟩,by kernel_rfl,?_⟩))
  (i:bs z=bi:=by rfl) (c:bi.all Blk.live=true:=by kernel_rfl) (b:(a++d).all (fun p=>p.2.live)=true:=by kernel_rfl) (hx:∀H,Al (rC C r a (Av []) H) ys=Al r xs:=by intro H;kernel_rfl) (j:∀H,ren (rC C r a (Av []) H) (e z)=ren r x:=by intro H;kernel_rfl)
  (k:((a.map (·.1)).all (Bv os')&&GI (a.map (·.1))&&Nat.beq a.length os)=true:=by kernel_rfl):GO P C.l r f xs (a++d) x:=
 De K hy co g a d (Av []) (fun _ _ _=>trivial) h i c b hx j k
theorem c6{γ:Type}{M:Option γ}{kk:γ→Option β}{ss:List (Nat×AV)}{hs:List (Ad×Blk)}{f:FuncId}{os':Nat}{ys:List AV}{bi:List Blk}{Θ:Cl}{e0:γ→AV}{bs:γ→List Blk}{fx:List Nat}(co:COx C os fx)(hm:M.bind kk=some y)(K:KO P f os' ys bi Θ M e0 bs)
  (a b:List (Ad×Blk)) (e:γ→AV) (Aq:γ→List (Ad×Blk)) (fl:List Ad)
  (h:∀z,kk z=some y→LO P n C c (k+1) (Ac (GV (Fr c k) (e z) (DU [] ss)) (Aq z++CR ((Aq z).map (·.1)) [] fl hs)) Q)
  (θ:Ren→Nat→AV:=fun _=>Av []) (hΘ:∀r,Gd C r→Th Θ C r a (a++b) (θ r):=by intro r g;exact fun _ _ _=>trivial) (xs:List AV:=[]++(GP c k).map (ev (Av ss))++[])
  (q:∀z,E2 C (Aq z):=by intro z;repeat(first|exact trivial|refine⟨COx.W ‹_› _ (by decide),?_⟩))
  (j:Jn (Ax hs) fl:=by repeat(first|exact trivial|refine⟨EI _ _,?_⟩))
  (i:∀r H,BE (rC C r a (θ r) H) r 0 bi a:=by
   intro r H
   repeat(first|exact trivial|refine⟨fun _=>⟨rfl,F0 (EI _ _) (by kernel_rfl)⟩,by kernel_rfl,?_⟩|refine⟨fun _=>⟨rfl,F0 IW (by kernel_rfl)⟩,by kernel_rfl,?_⟩|refine⟨fun _=>⟨rfl,by kernel_rfl⟩,by kernel_rfl,?_⟩|refine⟨(fun h=>nomatch h),by kernel_rfl,?_⟩))
  (d:∀z r H,BE (rC C r a (θ r) H) r 0 (bs z) (Aq z):=by
   intro z r H
   repeat(first|exact trivial|refine⟨fun _=>⟨rfl,F0 (EI _ _) (by kernel_rfl)⟩,by kernel_rfl,?_⟩|refine⟨fun _=>⟨rfl,F0 IW (by kernel_rfl)⟩,by kernel_rfl,?_⟩|refine⟨fun _=>⟨rfl,by kernel_rfl⟩,by kernel_rfl,?_⟩))
  (hx:∀r H,Al (rC C r a (θ r) H) ys=Al r xs:=by intro r H;kernel_rfl) (s:[]++(GP c k).map (ev (Av ss))++[]=xs:=by kernel_rfl) (t:∀z r H,ren (rC C r a (θ r) H) (e0 z)=ren r (e z):=by intro z r H;kernel_rfl)
  (p:GK c k=some (Fr c k,callF c k,GP c k):=by kernel_rfl) (u:ev (Av ss) (callF c k)=.fn (.func f) [] []:=by kernel_rfl)
  (l:(((a++b).map (·.1)).map fun k=>(k,Ax hs k))=a++b:=by kernel_rfl) (m:∀z,(bs z).all Blk.live=true:=by intro z;kernel_rfl) (he:∀z,a.map (·.1)=(Aq z).map (·.1):=by intro z;rfl)
  (v:((a.map (·.1)).all (Bv os)&&GI (a.map (·.1))&&Nat.beq a.length os')=true:=by kernel_rfl)
  (o:∀z,(Dv os (Aq z)&&Lq [] (Aq z)&&Mn [] fx&&HS hs&&MO n (Fr c k)&&((a++b).map (·.1)).all (Bv os))=true:=by intro z;kernel_rfl):LO P n C c k (Ac ss hs) Q:=
 vG co hm f xs _ (a++b) e Aq fl q j (fun z w r g=>Zvm K w co g a b (Aq z) (θ r) (hΘ r g) (fun H=>i r H) (fun H=>d z r H) (m z) (fun H=>hx r H) (fun H=>t z r H) v (he z)) h p u s l o
theorem w4{fx:List Nat}(co:COx C os fx)(v:PT os β)(lf:Lf)(k:v.m=some y)(h:HL L y)(i:∀r (g:Gd C r),v.n ⟨⟨C.l,r,fun _ τ'=>LW P n C c τ' Q,fun _ _=>False⟩,L,C,_,co,g,rfl⟩)
  (j:∀l r Q a,A4 r os v.a τ (fun τ _=>DV fx lf τ (Q .normal))=v.q ⟨l,r,Q,a⟩:=by intro l r Q P;kernel_rfl):LW P n C c τ Q:=
 ZyW co.ok co.O co.F v.a lf (fun r Φ=>v.q ⟨C.l,r,fun _=>Φ,fun _ _=>False⟩) (fun r Φ=>j _ r (fun _=>Φ) _) fun r b d e f=>v.ok _ (i r ⟨b,d,e,f⟩) y k h
theorem BH{q:Prop}[Decidable q]{m:Option β}{G:Prop}(hm:(if q then m else none)=some y)(h:q→m=some y→G):G:=h (BC hm).1 (BC hm).2
theorem rg{c:Code}(h:LO P n C c 0 τ Q)(hs:fj c=true:=by kernel_rfl):LW P n C c τ Q:=yu hs h
end
end Go.Eng
namespace Go.Eng
set_option linter.all false
open Go Go.RowKit
section
variable {α β:Type} (P:Program)
def Vp(s:Sem α):Prop:=∀w r a,s.run P w=.ok r a→a=w∧∀w2,s.run P w2=.ok r w2
def Rd(s:Sem α):Prop:=∀w r a,s.run P w=.ok r a→a=w
variable {P}
theorem Vp.rd{s:Sem α}(h:Vp P s):Rd P s:=fun w r a e=>(h w r a e).1
theorem Vp.pure(a:α):Vp P (Pure.pure a:Sem α):=fun w r b e=>by cases e;exact⟨rfl,fun _=>rfl⟩
theorem Vp.halt(h:Halt):Vp P (.halt h:Sem α):=fun w r a e=>by cases e
theorem Vp.program:Vp P Go.program:=fun w r a e=>by cases e;exact⟨rfl,fun _=>rfl⟩
theorem Vp.bind{s:Sem α}{f:α→Sem β}(h:Vp P s)(k:∀a,Vp P (f a)):Vp P (s>>=f):=fun w r g e=>by
 rw[Sem.run_bind]at e
 cases hs:s.run P w with
 |halt x w'=>rw[hs]at e;cases e
 |ok a w'=>
  rw[hs]at e
  obtain⟨rfl,b⟩:=h w a w' hs
  obtain⟨c,d⟩:=k a _ _ _ e
  exact⟨c,fun w2=>by rw[Sem.run_bind,b w2];exact d w2⟩
theorem Rd.bind{s:Sem α}{f:α→Sem β}(h:Rd P s)(k:∀a,Rd P (f a)):Rd P (s>>=f):=fun w r c e=>by
 rw[Sem.run_bind]at e
 cases hs:s.run P w with
 |halt x w'=>rw[hs]at e;cases e
 |ok a w'=>
  rw[hs]at e
  have b:=h w a w' hs
  subst b
  exact k a _ _ _ e
theorem Zi(t:TypeId):Vp P (typeInfo t):=by
 unfold typeInfo
 refine Vp.program.bind fun p=>?_
 split
 ·exact .pure _
 ·exact .halt _
theorem IC(t:TypeId):Vp P (underlying t):=by
 unfold underlying
 refine Vp.program.bind fun p=>?_
 split
 ·exact .pure _
 ·exact .halt _
theorem EH(t:TypeId):Vp P (sizeOf t):=by unfold sizeOf;exact(Zi t).bind fun _=>.pure _
theorem Md(t:TypeId):Vp P (isAgg t):=by
 unfold isAgg
 refine(IC t).bind fun d=>?_
 split<;>exact .pure _
theorem sn(t:TypeId)(cs:Array Value)(o:Nat):Vp P (part t cs o):=by
 unfold part
 refine(Md t).bind fun b=>?_
 cases b with
 |true=>exact(EH t).bind fun _=>.pure _
 |false=>
  show Vp P (match cs[o]? with|some v=>_|none=>_)
  split
  ·exact .pure _
  ·exact .halt _
theorem RT:∀(l:List FieldStep) (t:TypeId) (x:Option Value),Vp P (followBlind l t x)
 |[],t,x=>.pure _
 |s::a,t,x=>by
  unfold followBlind
  refine(IC _).bind fun d=>?_
  split
  ·split
   ·split
    ·exact .pure _
    ·exact RT a _ _
    ·exact .halt _
    ·exact .pure _
    ·exact(sn _ _ _).bind fun _=>RT a _ _
    ·exact .halt _
    ·exact RT a _ _
   ·exact .halt _
  ·exact .halt _
theorem l0:∀(n:Nat) (t:TypeId) (v:Value) (s:String),Vp P (nilAhead n t v s)
 |0,t,v,s=>.pure _
 |n+1,t,v,s=>by
  unfold nilAhead
  refine(Zi _).bind fun i=>?_
  split
  ·refine(RT _ _ _).bind fun r=>?_
   split
   ·exact .pure _
   ·split
    ·exact l0 n _ _ _
    ·exact .pure _
    ·exact .halt _
    ·exact .pure _
    ·exact .pure _
    ·refine(IC _).bind fun d=>?_
     split<;>exact .pure _
  ·exact .halt _
def VV(P:Program)(s:Sem Next):Prop:=∀w r a,s.run P w=.ok r a→∃v,r=.value v
theorem VV.val{s:Sem Value}:VV P (s>>=fun x=>Pure.pure (Next.value x):Sem Next):=fun w r b e=>by
 rw[Sem.run_bind]at e
 cases hs:s.run P w with
 |halt x w'=>rw[hs]at e;cases e
 |ok a w'=>rw[hs]at e;cases e;exact⟨a,rfl⟩
theorem Vp.val{s:Sem Value}(h:Vp P s):Vp P (s>>=fun x=>Pure.pure (Next.value x):Sem Next):=h.bind fun _=>.pure _
theorem Rd.val{s:Sem Value}(h:Rd P s):Rd P (s>>=fun x=>Pure.pure (Next.value x):Sem Next):=h.bind fun _=>(Vp.pure _).rd
end
theorem Zp{P:Program}(t:TypeId):Vp P (zeroValue t):=by
 unfold zeroValue
 refine(Zi t).bind fun i=>?_
 split
 ·exact .pure _
 ·exact .halt _
theorem nK{α β:Type}{P:Program}{f:α→Sem β}(h:∀x,Vp P (f x)):∀l:List α,Vp P (l.mapM f)
 |[]=>by rw[List.mapM_nil];exact .pure _
 |x::l=>by rw[P9];exact(h x).bind fun _=>(nK h l).bind fun _=>.pure _
theorem Zzg{α β:Type}{P:Program}{f:α→Sem β}(h:∀x,Vp P (f x))(l:Array α):Vp P (l.mapM f):=by
 rw[dV]
 exact(nK h _).bind fun _=>.pure _
theorem ZvR{P:Program}(t:TypeId)(ps:Array (Nat×Value)):Vp P (Instr.build t ps):=by
 unfold Instr.build
 refine(Zp t).bind fun z=>(IC t).bind fun d=>?_
 split
 ·refine(Zzg (fun f=>(EH _).bind fun _=>.pure _) _).bind fun a=>?_
  split
  ·exact .pure _
  ·exact .halt _
 ·refine(EH _).bind fun n=>?_
  split
  ·exact .pure _
  ·exact .halt _
 ·exact .halt _
def Nv{α:Type}(P:Program)(s:Sem α):Prop:=∀w r a,s.run P w≠.ok r a
theorem Nv.vp{α:Type}{P:Program}{s:Sem α}(h:Nv P s):Vp P s:=fun w r a e=>absurd e (h w r a)
theorem mb{α:Type}{P:Program}(k:IntKind)(x y:Int)(c:BoundsCode):Nv P (boundsPanic k x y c:Sem α):=fun w r b e=>by
 unfold boundsPanic at e
 dsimp only at e
 have d:∀(s:Bool) w r b,(runtimePanic (.bounds (IntKind.i64.wrap x) y s c):Sem α).run P w≠.ok r b:=fun s w r b e=>by
  unfold runtimePanic at e
  simp only[Sem.run_bind,run_program,Result.andThen_ok]at e
  repeat(first|(cases e;done)|split at e|(simp[goPanic,stuck,unsupported,Sem.run]at e;done))
 split at e
 all_goals
  rw[Sem.run_bind]at e
  generalize hs:Sem.run P _ w=q at e
  cases q with
  |halt x w'=>cases e
  |ok a w'=>exact d _ _ _ _ e
theorem tE{α:Type}{P:Program}:Nv P (runtimePanic .nilDeref:Sem α):=fun w r a e=>by
 unfold runtimePanic at e
 simp only[Sem.run_bind,run_program,Result.andThen_ok]at e
 repeat(first|(cases e;done)|split at e|(simp[goPanic,stuck,unsupported,Sem.run]at e;done))
theorem l9{P:Program}(v:Value):Vp P (asIntOf v):=by
 unfold asIntOf
 split
 ·exact .pure _
 ·exact .halt _
 ·exact .halt _
theorem oo{P:Program}(v:Value):Vp P (Instr.sureAddr v):=by
 unfold Instr.sureAddr
 split
 ·exact .pure _
 ·exact .halt _
theorem zk{P:Program}(v:Value):Vp P (asAddr v):=by
 unfold asAddr
 split
 ·exact .pure _
 ·first|exact tE.vp|exact .halt _
 ·exact .halt _
theorem xR{P:Program}(x:Value)(y:Nat)(c:BoundsCode):Vp P (Instr.sliceBound x y c):=by
 unfold Instr.sliceBound
 refine(l9 _).bind fun p=>?_
 dsimp only
 split
 ·exact .pure _
 ·exact(mb _ _ _ _).vp
theorem lj{P:Program}(b:Bool)(n m:Nat)(lo hi a:Option Value):Vp P (Instr.sliceBounds b n m lo hi a):=by
 unfold Instr.sliceBounds
 dsimp only
 repeat' (first|exact Vp.pure _|exact xR _ _ _|exact Vp.halt _|refine Vp.bind ?_ fun _=>?_|split)
theorem Zvv{P:Program}(t:TypeId)(x:Value)(lo hi a:Option Value):Vp P (Instr.slice t x lo hi a):=by
 unfold Instr.slice
 dsimp only
 repeat' (first|exact Vp.pure _|exact lj _ _ _ _ _ _|exact IC _|exact EH _|exact zk _|exact Vp.halt _|refine Vp.bind ?_ fun _=>?_|split)
theorem yJ{P:Program}(t:TypeId)(x:Value)(lo hi a:Option Value):Vp P (Instr.sliceAt t x lo hi a):=by
 unfold Instr.sliceAt
 repeat' (first|exact Vp.pure _|exact lj _ _ _ _ _ _|exact IC _|exact EH _|exact oo _|exact Zvv _ _ _ _ _|exact Vp.halt _|refine Vp.bind ?_ fun _=>?_|split)
theorem y2{P:Program}(t:TypeId)(x i:Value):Vp P (Instr.indexAt t x i):=by
 unfold Instr.indexAt
 dsimp only
 repeat' (first|exact Vp.pure _|exact l9 _|exact IC _|exact EH _|exact oo _|exact(mb _ _ _ _).vp|exact Vp.halt _|refine Vp.bind ?_ fun _=>?_|split)
theorem yt{P:Program}(v:Value)(i:Nat):Vp P (Instr.extract v i):=by
 unfold Instr.extract
 split
 ·split
  ·exact .pure _
  ·exact .halt _
 ·exact .halt _
def j5(P:Program)(c:Call):Bool:=match c.callee,c.args.toList,c.argTypes.toList with
 |.builtin .len,[_],[t]=>(match P.underlying t with|some (.slice _)=>true|some .string=>true|_=>false)
 |_,_,_=>false
theorem sU{P:Program}{t:TypeId}{ty:TypeId}(x:Value)(h:(match P.underlying t with|some (.slice _)=>true|some .string=>true|_=>false)=true):Vp P (Builtin.len_ #[t] ty #[x]):=by
 unfold Builtin.len_
 simp only[em,FO]
 intro w r c e
 have a:∃d,P.underlying t=some d∧((∃q,d=.slice q)∨d=.string):=by
  grind
 obtain⟨d,a,b⟩:=a
 simp only[Sem.run_bind,run_underlying a,Result.andThen_ok]at e⊢
 rcases b with⟨q,rfl⟩|rfl
 ·cases x<;>first|(cases e;exact⟨rfl,fun _=>rfl⟩)|(cases e;done)
 ·cases x<;>first|(cases e;exact⟨rfl,fun _=>rfl⟩)|(cases e;done)
def Dk(P:Program)(o:Oper):Bool:=match o.op with
 |.build _ _=>true
 |.extract _ _=>true
 |.indexAddr _ _ _=>true
 |.slice _ _ _ _ _=>true
 |.makeFunc _ _ _=>true
 |.call c=>j5 P c
 |.move _=>true
 |.assign _=>true
 |.nilCheck _=>true
 |.fieldAddr t _ i=>(match P.underlying t with|some (.struct a)=>(match a[i]? with|some f=>!(Nat.beq (P.cellsOf f.type) 0)|none=>false)|_=>false)
 |_=>false
def Dd(P:Program)(o:Oper):Bool:=Dk P o||match o.op with|.load _ _=>true|_=>false
section
variable {P:Program} {ρ:Operand→Value} {o:Oper}
theorem SH(h:Dk P o=true):Vp P (execOp ρ o)∧VV P (execOp ρ o):=by
 obtain⟨j,op,type,pos,after,guard⟩:=o
 cases op<;>simp only[Dk]at h<;>first|(cases h;done)|skip
 case move x=>exact⟨.pure _,fun w r d e=>by cases e;exact⟨_,rfl⟩⟩
 case assign x=>exact⟨.pure _,fun w r d e=>by cases e;exact⟨_,rfl⟩⟩
 case build t ps=>exact⟨(ZvR _ _).val,VV.val⟩
 case makeFunc f a b=>exact⟨(Vp.pure _).val,VV.val⟩
 case extract x i=>exact⟨(yt _ _).val,VV.val⟩
 case indexAddr t x i=>exact⟨(y2 _ _ _).val,VV.val⟩
 case slice t x a b c=>exact⟨(yJ _ _ _ _ _).val,VV.val⟩
 case call c=>
  unfold j5 at h
  split at h
  ·rename_i x t l k n
   obtain⟨z,u,D⟩:=c
   simp only at l k n
   subst l
   have A:u=#[x]:=CN (by simpa using k)
   have B:D=#[t]:=CN (by simpa using n)
   subst A;subst B
   have:execOp ρ ⟨j,.call ⟨.builtin .len,#[x],#[t]⟩,type,pos,after,guard⟩=(Builtin.len_ #[t] type #[ρ x]>>=fun v=>(Pure.pure (Next.value v):Sem Next)):=by
    simp[execOp,resolve,invoke,Go.builtin]
   rw[this]
   exact⟨(sU _ h).val,VV.val⟩
  ·cases h
 case nilCheck x=>
  have F:∀v:Value,Vp P (pure (.value v):Sem Next)∧VV P (pure (.value v):Sem Next):=fun v=>⟨.pure _,fun w r d e=>by cases e;exact⟨_,rfl⟩⟩
  have g:Vp P (runtimePanic .nilDeref:Sem Next)∧VV P (runtimePanic .nilDeref:Sem Next):=by
   have:∀w r d,(runtimePanic .nilDeref:Sem Next).run P w≠.ok r d:=fun w r d e=>by
    unfold runtimePanic at e
    simp only[Sem.run_bind,run_program,Result.andThen_ok]at e
    repeat(first|(cases e;done)|split at e|(simp[goPanic,stuck,unsupported,Sem.run]at e;done))
   exact⟨fun w r d e=>absurd e (this w r d),fun w r d e=>absurd e (this w r d)⟩
  show Vp P (execOp ρ _)∧_
  simp only[execOp]
  split
  ·exact g
  ·exact g
  ·exact g
  ·split
   ·exact g
   ·refine⟨Vp.program.bind fun p=>(l0 _ _ _ _).bind fun b=>?_,fun w r d e=>?_⟩
    ·split
     ·exact .halt _
     grind
    ·simp only[Sem.run_bind,run_program,Result.andThen_ok]at e
     cases hs:(nilAhead _ _ _ _).run P w with
     |halt x w'=>rw[hs]at e;cases e
     |ok a w'=>
      rw[hs]at e
      simp only[Result.andThen_ok]at e
      split at e
      ·cases e
      ·cases e;exact⟨_,rfl⟩
   grind
  ·grind
 case fieldAddr t x i=>
  refine⟨Vp.val ?_,VV.val⟩
  unfold Instr.fieldAt
  intro w r d e
  split at h
  ·rename_i E q
   split at h
   ·rename_i f m
    have s:P.cellsOf f.type≠0:=fun C=>by rw[C]at h;cases h
    have run:∀(ad:Addr) (w:World),(Instr.fieldAt t (.pointer (some ad)) i).run P w=.ok (.pointer (some (ad.add f.offset))) w:=fun ad w=>by
     simp[Instr.fieldAt,run_underlying q,m,Instr.sureAddr,fieldPlace,Ed s,s]
    have y:∀v:Value,(∀ad,v≠.pointer (some ad))→(Instr.fieldAt t v i).run P w≠.ok r d:=fun v G e=>by
     have hs:Instr.sureAddr v=.halt (.stuck "an address expected (no nilCheck in front?)"):=by
      unfold Instr.sureAddr
      split
      ·grind
      ·rfl
     simp only[Instr.fieldAt,Sem.run_bind,run_underlying q,Result.andThen_ok,m,hs]at e
     cases e
    change (Instr.fieldAt t (ρ x) i).run P w=.ok r d at e
    show d=w∧∀w2,(Instr.fieldAt t (ρ x) i).run P w2=.ok r w2
    grind
   ·cases h
  ·cases h
theorem SB(a:Addr):Rd P (load a):=fun w r b e=>by
 unfold load at e
 simp only[Sem.run]at e
 grind
theorem RX(a:Addr):∀(n i:Nat) (b:Array Value),Rd P (loadCellsFrom a i n b)
 |0,i,b=>(Vp.pure _).rd
 |n+1,i,b=>by unfold loadCellsFrom;exact(SB _).bind fun v=>RX a n (i+1) _
theorem Zt(t:TypeId)(a:Addr):Rd P (loadVar t a):=by
 unfold loadVar
 refine(Md t).rd.bind fun b=>?_
 cases b with
 |true=>exact(EH t).rd.bind fun n=>(RX a n 0 _).bind fun _=>(Vp.pure _).rd
 |false=>exact SB a
theorem OR(h:Dd P o=true):Rd P (execOp ρ o)∧VV P (execOp ρ o):=by
 unfold Dd at h
 rw[YF]at h
 rcases h with h|h
 ·obtain⟨c,d⟩:=SH (ρ:=ρ) h
  exact⟨c.rd,d⟩
 ·obtain⟨b,op,type,pos,after,guard⟩:=o
  cases op<;>simp only at h<;>first|(cases h;done)|skip
  refine⟨Rd.val ?_,VV.val⟩
  unfold Instr.loadAt
  refine Rd.bind ?_ fun a=>Zt _ _
  unfold Instr.sureAddr
  split
  ·exact(Vp.pure _).rd
  ·exact(Vp.halt _).rd
def Gi(w a:World):Prop:=∀(k:Nat) (o:Obj),w.heap[k]?=some o→a.heap[k]?=some o
theorem Gi.refl(w:World):Gi w w:=fun _ _ h=>h
theorem Gi.cell{w d:World}{a:Addr}{v:Value}(h:Gi w d)(b:w.cell? a=some v):d.cell? a=some v:=by
 unfold World.cell? at b⊢
 cases c:w.heap[a.block]? with
 |none=>rw[c]at b;cases b
 |some o=>rw[c]at b;rw[h _ _ c];exact b
theorem Gi.seen{w d:World}{p:Program}{at_:Addr}{u:TypeId}{k:Addr}{b:Bool}(h:Gi w d){r}(a:w.seen p at_ u k b=.ok r):d.seen p at_ u k b=.ok r:=by
 cases c:w.heap[at_.block]? with
 |none=>
  exfalso
  unfold World.seen at a
  rw[c]at a
  have T:∀(α:Type) (e:String),(MonadExcept.throw e:Except String α)=.error e:=fun _ _=>rfl
  simp only[bind,Except.bind,pure,Except.pure,throw,throwThe,T]at a
  grind
 |some o=>
  unfold World.seen at a⊢
  rw[h _ _ c]
  grind
theorem Gi.far{w i:World}{p:Program}{a:Addr}{b:Bool}(h:Gi w i){r}(c:w.farLoad p a b=.ok r):i.farLoad p a b=.ok r:=by
 unfold World.farLoad at c⊢
 cases g:w.heap[a.block]? with
 |none=>rw[g]at c;cases c
 |some o=>
  rw[g]at c
  rw[h _ _ g]
  cases o<;>simp only at c⊢<;>first|(cases c;done)|skip
  rename_i d u
  cases f:w.viewLoad p d u a b with
  |error e=>rw[f]at c;cases c
  |ok q=>
   rw[f]at c
   have:i.viewLoad p d u a b=.ok q:=by
    unfold World.viewLoad at f⊢
    cases hs:w.seen p d u a b with
    |error e=>rw[hs]at f;cases f
    |ok z=>rw[hs]at f;rw[h.seen hs];exact f
   grind
variable {α β:Type}
def FM(P:Program)(s:Sem α):Prop:=∀w r a w2,s.run P w=.ok r a→Gi w w2→s.run P w2=.ok r w2
theorem Vp.sta{s:Sem α}(h:Vp P s):FM P s:=fun w r a w2 e _=>(h w r a e).2 w2
theorem FM.bind{s:Sem α}{f:α→Sem β}(c:Rd P s)(h:FM P s)(k:∀a,FM P (f a)):FM P (s>>=f):=fun w r d w2 e hx=>by
 rw[Sem.run_bind]at e⊢
 cases hs:s.run P w with
 |halt x w'=>rw[hs]at e;cases e
 |ok a w'=>
  rw[hs]at e
  have b:=c w a w' hs
  subst b
  rw[h _ _ _ _ hs hx]
  exact k a _ _ _ _ e hx
theorem ni(a:Addr):FM P (load a):=fun w r g w2 e hx=>by
 unfold load at e⊢
 simp only[Sem.run]at e⊢
 cases d:w.cell? a with
 |some v=>rw[d]at e;rw[hx.cell d];cases e;rfl
 |none=>
  rw[d]at e
  cases b:w.farLoad P a (Mode.plain==Mode.atomic)with
  |error x=>rw[b]at e;cases e
  |ok q=>
   have f:w2.cell? a=none:=by
    unfold World.farLoad at b
    unfold World.cell?
    cases c:w.heap[a.block]? with
    |none=>rw[c]at b;cases b
    |some o=>
     rw[c]at b
     rw[hx _ _ c]
     grind
   rw[b]at e
   rw[f,hx.far b]
   grind
theorem lG(a:Addr):∀(n i:Nat) (b:Array Value),FM P (loadCellsFrom a i n b)
 |0,i,b=>(Vp.pure _).sta
 |n+1,i,b=>by unfold loadCellsFrom;exact .bind (SB _) (ni _) fun v=>lG a n (i+1) _
theorem yg(t:TypeId)(a:Addr):FM P (loadVar t a):=by
 unfold loadVar
 refine .bind (Md t).rd (Md t).sta fun b=>?_
 cases b with
 |true=>exact .bind (EH t).rd (EH t).sta fun n=>.bind (RX a n 0 _) (lG a n 0 _) fun _=>(Vp.pure _).sta
 |false=>exact ni a
theorem Zuy(h:Dd P o=true):FM P (execOp ρ o):=by
 unfold Dd at h
 rw[YF]at h
 rcases h with h|h
 ·exact(SH (ρ:=ρ) h).1.sta
 ·obtain⟨b,op,type,pos,after,guard⟩:=o
  cases op<;>simp only at h<;>first|(cases h;done)|skip
  have hs:∀v:Value,Rd P (Instr.sureAddr v)∧FM P (Instr.sureAddr v):=fun v=>by
   unfold Instr.sureAddr
   split
   ·exact⟨(Vp.pure _).rd,(Vp.pure _).sta⟩
   ·exact⟨(Vp.halt _).rd,(Vp.halt _).sta⟩
  refine FM.bind (s:=Instr.loadAt _ _) (Rd.bind (hs _).1 fun a=>Zt _ _) (.bind (hs _).1 (hs _).2 fun a=>yg _ _) fun _=>(Vp.pure _).sta
def Jo(o:Oper):Bool:=match o.op with|.buildSlice _ _ _=>true|.alloc _=>true|_=>false
theorem Zv1{w:World}{o:Obj}:Gi w {w with heap:=w.heap.push o }:=fun k a h=>by
 grind
def Gr(P:Program)(s:Sem α):Prop:=∀w r a,s.run P w=.ok r a→Gi w a
theorem Rd.gr{s:Sem α}(h:Rd P s):Gr P s:=fun w r a e=>by rw[h w r a e];exact .refl _
theorem Gr.bind{s:Sem α}{f:α→Sem β}(h:Gr P s)(k:∀a,Gr P (f a)):Gr P (s>>=f):=fun w r c e=>by
 rw[Sem.run_bind]at e
 cases hs:s.run P w with
 |halt x w'=>rw[hs]at e;cases e
 |ok a w'=>
  rw[hs]at e
  exact fun q o b=>k a _ _ _ e _ _ (h _ _ _ hs _ _ b)
theorem ZV(t:TypeId)(cs:Array Value):Gr P (newRow t cs):=fun w r a e=>by
 unfold newRow newObj at e
 cases e
 exact Zv1
theorem x0(t:TypeId)(n:Nat)(ps:Array (Nat×Value)):Gr P (Instr.buildSlice t n ps):=by
 unfold Instr.buildSlice
 refine(IC t).rd.gr.bind fun d=>?_
 split
 ·refine(EH _).rd.gr.bind fun size=>?_
  by_cases a:n*size>2^24
  ·rw[Yk a]
   intro w r c e
   cases e
  ·rw[Yi a]
   by_cases b:n*size=0
   ·rw[Yk b]
    refine Gr.bind (s:=Pure.pure _) (Vp.pure _).rd.gr fun z=>?_
    dsimp only
    split
    ·exact(ZV _ _).bind fun _=>(Vp.pure _).rd.gr
    ·exact(Vp.halt _).rd.gr
   ·rw[Yi b]
    refine(Zp _).rd.gr.bind fun z=>Gr.bind (s:=Pure.pure _) (Vp.pure _).rd.gr fun z=>?_
    dsimp only
    split
    ·exact(ZV _ _).bind fun _=>(Vp.pure _).rd.gr
    ·exact(Vp.halt _).rd.gr
 ·exact(Vp.halt _).rd.gr
theorem sB(h:Jo o=true):Gr P (execOp ρ o)∧VV P (execOp ρ o):=by
 obtain⟨a,op,type,pos,after,guard⟩:=o
 cases op<;>simp only[Jo]at h<;>first|(cases h;done)|skip
 case buildSlice=>exact⟨(x0 _ _ _).bind fun _=>(Vp.pure _).rd.gr,VV.val⟩
 case alloc t=>exact⟨Gr.bind (s:=Instr.alloc _ _ _) ((Zp _).rd.gr.bind fun z=>Gr.bind (s:=newVar _ _) (ZV _ _ |>.bind fun _=>(Vp.pure _).rd.gr) fun _=>(Vp.pure _).rd.gr) fun _=>(Vp.pure _).rd.gr,VV.val⟩
theorem n3(h:(Dd P o||Jo o)=true):Gr P (execOp ρ o)∧VV P (execOp ρ o):=by
 rw[YF]at h
 rcases h with h|h
 ·exact⟨(OR h).1.gr,(OR h).2⟩
 ·exact sB h
end
def Od(P:Program)(L:List Oper)(listed:List Nat)(i:Nat)(a:Oper):Nat→List Oper→Bool
 |_,[]=>true
 |j,b::r=>(listed.any (Nat.beq j)||Nat.beq j i||O8 L i L.length j||(a.apart L.toArray b&&(Dk P a||(Dd P a&&(Dd P b||Jo b)))))&&Od P L listed i a (j+1) r
def Pt(P:Program)(L:List Oper):List Nat→List Nat→Bool
 |listed,[]=>(List.range L.length).all fun j=>listed.any (Nat.beq j)
 |listed,i::b=>(match Bg L i with
  |some a=>!(listed.any (Nat.beq i))&&a.after.toList.all (fun e=>!Region.binds .any e||listed.any (Nat.beq e.on))&&(match Dk P a with|true=>chkV P L listed i a 0 L|false=>Od P L listed i a 0 L)
  |none=>false)&&Pt P L (i::listed) b
where chkV (P:Program) (L:List Oper) (listed:List Nat) (i:Nat) (a:Oper):Nat→List Oper→Bool
 |_,[]=>true
 |j,c::r=>(listed.any (Nat.beq j)||Nat.beq j i||c.after.toList.any (fun e=>Region.binds .any e&&Nat.beq e.on i)||a.apart L.toArray c)&&chkV P L listed i a (j+1) r
theorem FZ{l:List Nat}{j:Nat}:l.any (Nat.beq j)=true↔j∈l:=by
 rw[YL]
 exact⟨fun⟨x,hx,h⟩=>Yb h▸hx,fun h=>⟨j,h,P5 j⟩⟩
theorem oE{P:Program}{L:List Oper}{listed:List Nat}{i:Nat}{e:Oper}:∀{r:List Oper} {b k:Nat} {c:Oper},Od P L listed i e b r=true→r[k]?=some c→
  (b+k)∈listed∨b+k=i∨Waits L.toArray (b+k) i∨(e.apart L.toArray c=true∧(Dk P e=true∨Dd P e=true∧(Dd P c||Jo c)=true))
 |[],b,k,c,_,h=>by simp at h
 |q::r,b,k,c,d,h=>by
  unfold Od at d
  rw[Yc]at d
  cases k with
  |zero=>
   simp only[FO,Yh]at h
   subst h
   have a:=d.1
   simp only[YF,Yc]at a
   rcases a with((a|a)|a)|a
   ·exact .inl (FZ.1 a)
   ·exact .inr (.inl (Yb a))
   ·exact .inr (.inr (.inl (Zy _ _ a)))
   grind
  |succ k=>
   have:=oE (k:=k) d.2 (by simpa using h)
   grind
theorem oF{P:Program}{L:List Oper}{listed:List Nat}{i:Nat}{g:Oper}:∀{r:List Oper} {b k:Nat} {c:Oper},Pt.chkV P L listed i g b r=true→r[k]?=some c→
  (b+k)∈listed∨b+k=i∨(∃e∈c.after,Region.binds .any e=true∧e.on=i)∨g.apart L.toArray c=true
 |[],b,k,c,_,h=>by simp at h
 |q::r,b,k,c,d,h=>by
  unfold Pt.chkV at d
  rw[Yc]at d
  cases k with
  |zero=>
   simp only[FO,Yh]at h
   subst h
   have a:=d.1
   simp only[YF]at a
   rcases a with((a|a)|a)|a
   ·exact .inl (FZ.1 a)
   ·exact .inr (.inl (Yb a))
   ·obtain⟨e,he,f⟩:=YL.1 a
    rw[Yc]at f
    exact .inr (.inr (.inl ⟨e,by simpa using he,f.1,Yb f.2⟩))
   grind
  |succ k=>
   have:=oF (k:=k) d.2 (by simpa using h)
   grind
def perm(π:List Nat):Code→Code
 |.region id ops _=>.region id (π.filterMap (Bg ops.toList)).toArray false
 |c=>c
def pb:Value→Option Nat
 |.pointer (some a)=>some a.block
 |_=>none
def Ez(w:World)(b:Nat):Prop:=∃C e f,w.heap[b]?=some (.cells C e f)
section
variable {P:Program} {α β:Type}
theorem oI{v:Value}{a:Addr}{w b:World}(h:(Instr.sureAddr v).run P w=.ok a b):v=.pointer (some a)∧b=w:=by
 unfold Instr.sureAddr at h
 split at h
 ·cases h;exact⟨rfl,rfl⟩
 ·cases h
def Lo(b:Nat)(P:Program)(s:Sem α):Prop:=∀w r a w2,s.run P w=.ok r a→Ez w b→w2.heap[b]?=w.heap[b]?→s.run P w2=.ok r w2
theorem Vp.lo{b:Nat}{s:Sem α}(h:Vp P s):Lo b P s:=fun w r a w2 e _ _=>(h w r a e).2 w2
theorem Lo.bind{b:Nat}{s:Sem α}{f:α→Sem β}(g:Rd P s)(h:Lo b P s)(k:∀a,Lo b P (f a)):Lo b P (s>>=f):=fun w r i w2 e c d=>by
 rw[Sem.run_bind]at e⊢
 cases hs:s.run P w with
 |halt x w'=>rw[hs]at e;cases e
 |ok a w'=>
  rw[hs]at e
  have:=g w a w' hs
  subst this
  rw[h _ _ _ _ hs c d]
  exact k a _ _ _ _ e c d
theorem n5(a:Addr):Lo a.block P (load a):=fun w r h w2 e ⟨C,t,f,d⟩ c=>by
 unfold load at e⊢
 simp only[Sem.run]at e⊢
 have g:w2.cell? a=w.cell? a:=World.cell?_of_block c
 rw[g]
 cases b:w.cell? a with
 |some v=>rw[b]at e;cases e;rfl
 |none=>
  rw[b]at e
  have:w.farLoad P a (Mode.plain==Mode.atomic)=.error (w.noCell a "load: no such cell"):=by unfold World.farLoad;rw[d]
  grind
theorem lB(a:Addr):∀(n i:Nat) (b:Array Value),Lo a.block P (loadCellsFrom a i n b)
 |0,i,b=>(Vp.pure _).lo
 |n+1,i,b=>by
  unfold loadCellsFrom
  refine .bind (SB _) ?_ fun v=>lB a n (i+1) _
  have:=n5 (P:=P) (a.add i)
  rwa [block_add]at this
theorem yT(t:TypeId)(a:Addr):Lo a.block P (loadVar t a):=by
 unfold loadVar
 refine .bind (Md t).rd (Md t).lo fun b=>?_
 cases b with
 |true=>exact .bind (EH t).rd (EH t).lo fun n=>.bind (RX a n 0 _) (lB a n 0 _) fun _=>(Vp.pure _).lo
 |false=>exact n5 a
theorem ZzT{ρ:Operand→Value}{o:Oper}{t:TypeId}{x:Operand}{w w2:World}{v:Value}(g:o.op=.load t x)(e:(execOp ρ o).run P w=.ok (.value v) w):
  ∃b,pb (ρ x)=some b∧(Ez w b→w2.heap[b]?=w.heap[b]?→(execOp ρ o).run P w2=.ok (.value v) w2):=by
 obtain⟨c,op,type,pos,after,guard⟩:=o
 cases g
 change ((Instr.loadAt t (ρ x))>>=fun y=>(pure (Next.value y):Sem Next)).run P w=_ at e
 show∃b,pb (ρ x)=some b∧(_→_→((Instr.loadAt t (ρ x))>>=fun y=>(pure (Next.value y):Sem Next)).run P w2=_)
 generalize ρ x=q at e⊢
 have:∃a,q=.pointer (some a):=by
  cases hs:(Instr.sureAddr q).run P w with
  |halt _ _=>unfold Instr.loadAt at e;simp only[Sem.run_bind,hs]at e;cases e
  |ok a w'=>exact⟨a,(oI hs).1⟩
 obtain⟨a,rfl⟩:=this
 exact⟨a.block,rfl,fun d f=>Lo.bind (Rd.bind (Vp.pure a).rd fun a=>Zt t a) (yT t a) (fun _=>(Vp.pure _).lo) _ _ _ _ e d f⟩
def So(b:Nat)(P:Program)(s:Sem α):Prop:=∀w r a,s.run P w=.ok r a→Ez w b→Ez a b∧∀k,k≠b→a.heap[k]?=w.heap[k]?
theorem Rd.so{b:Nat}{s:Sem α}(h:Rd P s):So b P s:=fun w r c e a=>by rw[h w r c e];exact⟨a,fun _ _=>rfl⟩
theorem So.bind{b:Nat}{s:Sem α}{f:α→Sem β}(h:So b P s)(k:∀a,So b P (f a)):So b P (s>>=f):=fun w r l e d=>by
 rw[Sem.run_bind]at e
 cases hs:s.run P w with
 |halt x w'=>rw[hs]at e;cases e
 |ok a w'=>
  rw[hs]at e
  obtain⟨c,g⟩:=h _ _ _ hs d
  obtain⟨i,j⟩:=k a _ _ _ e c
  grind
theorem ZuA(a:Addr)(v:Value):So a.block P (store a v):=fun w r b e ⟨C,t,f,c⟩=>by
 unfold store at e
 have key:∀b,b=w.setCell a v→Ez b a.block∧∀k,k≠a.block→b.heap[k]?=w.heap[k]?:=fun b e=>by
  subst e
  unfold World.setCell
  constructor
  ·refine⟨(if a.spot.isSome then C else C.setIfInBounds a.off v),t,f,?_⟩
   show(w.heap.modify a.block _)[a.block]?=_
   rw[eu,c]
   simp
  ·intro k g
   show(w.heap.modify a.block _)[k]?=_
   rw[eu]
   simp[Ne.symm g]
 cases v<;>simp only[Sem.run]at e<;>first
  |(cases e;done)
  |(cases d:w.cell? a with
    |some x=>
     rw[d]at e
     simp only at e
     split at e
     ·cases e
     ·cases e;exact key _ rfl
    |none=>
     rw[d]at e
     unfold World.farStore at e
     rw[c]at e
     cases e)
theorem lF(a:Addr):∀(vs:List Value) (i:Nat),So a.block P (storeCells a vs i)
 |[],i=>(Vp.pure _).rd.so
 |v::r,i=>by
  unfold storeCells
  refine So.bind ?_ fun _=>lF a r (i+1)
  have:=ZuA (P:=P) (a.add i) v
  rwa [block_add]at this
theorem yj(t:TypeId)(a:Addr)(v:Value):So a.block P (storeVar t a v):=by
 unfold storeVar
 refine(EH t).rd.so.bind fun n=>?_
 by_cases h:v.cells.size≠n
 ·rw[Yk h]
  intro w r b e
  cases e
 ·rw[Yi h]
  exact lF a _ 0
theorem sm{ρ:Operand→Value}{o:Oper}{t:TypeId}{x y:Operand}{w c:World}{r:Next}(h:o.op=.store t x y)(e:(execOp ρ o).run P w=.ok r c):
  r=.skip∧∃b,pb (ρ x)=some b∧(Ez w b→Ez c b∧∀k,k≠b→c.heap[k]?=w.heap[k]?):=by
 obtain⟨d,op,type,pos,after,guard⟩:=o
 cases h
 change ((Instr.storeAt t (ρ x) (ρ y))>>=fun _=>(pure Next.skip:Sem Next)).run P w=_ at e
 generalize ρ x=q at e⊢
 generalize ρ y=v at e
 have f:r=.skip:=by
  rw[Sem.run_bind]at e
  cases hs:(Instr.storeAt t q v).run P w with
  |halt _ _=>rw[hs]at e;cases e
  |ok _ _=>rw[hs]at e;cases e;rfl
 refine⟨f,?_⟩
 have:∃a,q=.pointer (some a):=by
  cases hs:(Instr.sureAddr q).run P w with
  |halt _ _=>unfold Instr.storeAt at e;simp only[Sem.run_bind,hs]at e;cases e
  |ok a w'=>exact⟨a,(oI hs).1⟩
 obtain⟨a,rfl⟩:=this
 exact⟨a.block,rfl,fun g=>So.bind (yj t a v) (fun _=>(Vp.pure _).rd.so) _ _ _ e g⟩
end
def IS(z:Nat):List (Nat×Nat)→Option Nat
 |[]=>none
 |(d,r)::l=>match Nat.beq d z with|true=>some r|false=>IS z l
theorem JX{z r:Nat}:∀{l:List (Nat×Nat)},IS z l=some r→(z,r)∈l
 |(d,q)::l,h=>by
  unfold IS at h
  split at h
  ·rename_i e;cases h;rw[Yb e];exact Yz ..
  ·exact Yx _ (JX h)
def Ki:Operand→Option Nat
 |.tmp z=>some z
 |_=>none
def IU(P:Program)(o:Oper):Option Nat:=match Dk P o with
 |true=>(match o.op with
  |.fieldAddr _ x _=>Ki x
  |.move x=>Ki x
  |.nilCheck x=>Ki x
  |_=>none)
 |false=>none
def C4(P:Program)(env:List (Nat×Nat))(o:Oper):List (Nat×Nat):=match o.dst with
 |none=>env
 |some d=>(match IU P o with|some z=>(match IS z env with|some r=>[(d,r)]|none=>[])|none=>[])++env.filter fun p=>!Nat.beq p.1 d
def Ue(P:Program)(env:List (Nat×Nat))(o:Oper):Bool:=Dd P o||Jo o||match o.op with
 |.store _ (.tmp y) _=>(IS y env).isSome
 |_=>false
def J(β:Nat→Nat)(env:List (Nat×Nat))(a:Act)(w:World):Prop:=∀p∈env,∀b,pb (a.eval (.tmp p.1))=some b→b=β p.2∧Ez w b
def oe:Next→Option Value
 |.value v=>some v
 |.skip=>some undef
 |_=>none
section
variable {P:Program} {β:Nat→Nat} {env:List (Nat×Nat)} {a:Act} {w w':World} {o:Oper} {n:Next}
theorem nn(h:Ue P env o=true)(l:J β env a w)(e:(execOp a.eval o).run P w=.ok n w'):(∃u,oe n=some u)∧∀b,Ez w b→Ez w' b:=by
 unfold Ue at h
 rw[YF]at h
 rcases h with h|h
 ·obtain⟨c,d⟩:=n3 (ρ:=a.eval) h
  obtain⟨v,rfl⟩:=d _ _ _ e
  exact⟨⟨v,rfl⟩,fun b ⟨C,t,f,g⟩=>⟨C,t,f,c _ _ _ e _ _ g⟩⟩
 ·split at h
  ·rename_i t y v p
   obtain⟨rfl,i,c,d⟩:=sm p e
   obtain⟨r,q⟩:=Y6.1 h
   obtain⟨_,j⟩:=l _ (JX q) _ c
   obtain⟨s,k⟩:=d j
   refine⟨⟨_,rfl⟩,fun b ⟨C,t,f,g⟩=>?_⟩
   by_cases m:b=i
   ·grind
   ·exact⟨C,t,f,(k b m).trans g⟩
  ·cases h
theorem Si{x:Operand}{z:Nat}(h:Ki x=some z):x=.tmp z:=by
 cases x<;>simp only[Ki]at h<;>first|(cases h;done)|skip
 grind
theorem qp{z:Nat}{b:Nat}{v:Value}(hs:IU P o=some z)(e:(execOp a.eval o).run P w=.ok (.value v) w')(c:pb v=some b):pb (a.eval (.tmp z))=some b:=by
 unfold IU at hs
 cases d:Dk P o with
 |false=>rw[d]at hs;cases hs
 |true=>
  rw[d]at hs
  obtain⟨l,op,type,pos,after,guard⟩:=o
  cases op<;>simp only at hs<;>first|(cases hs;done)|skip
  case move x=>rw[←Si hs];cases e;exact c
  case nilCheck x=>
   rw[←Si hs]
   have s:∀w r k,(runtimePanic .nilDeref:Sem Next).run P w≠.ok r k:=fun w r k e=>by
    unfold runtimePanic at e
    simp only[Sem.run_bind,run_program,Result.andThen_ok]at e
    repeat(first|(cases e;done)|split at e|(simp[goPanic,stuck,unsupported,Sem.run]at e;done))
   simp only[execOp]at e
   split at e
   ·grind
   ·grind
   ·grind
   ·split at e
    ·grind
    ·simp only[Sem.run_bind,run_program,Result.andThen_ok]at e
     cases hs:(nilAhead _ _ _ _).run P w with
     |halt x w'=>rw[hs]at e;cases e
     |ok q w'=>
      rw[hs]at e
      simp only[Result.andThen_ok]at e
      split at e
      ·cases e
      ·cases e;first|exact c|cases c
    ·cases e;first|exact c|cases c
   ·cases e;first|exact c|cases c
  case fieldAddr t x i=>
   rw[←Si hs]
   simp only[Dk]at d
   split at d
   ·rename_i p h
    split at d
    ·rename_i f g
     have j:P.cellsOf f.type≠0:=fun m=>by rw[m]at d;cases d
     have run:∀(ad:Addr) (w:World),(Instr.fieldAt t (.pointer (some ad)) i).run P w=.ok (.pointer (some (ad.add f.offset))) w:=fun ad w=>by
      simp[Instr.fieldAt,run_underlying h,g,Instr.sureAddr,fieldPlace,Ed j,j]
     change ((Instr.fieldAt t (a.eval x) i)>>=fun y=>(pure (Next.value y):Sem Next)).run P w=_ at e
     generalize a.eval x=q at e⊢
     by_cases n:∃ad,q=.pointer (some ad)
     ·obtain⟨ad,rfl⟩:=n
      rw[Sem.run_bind,run]at e
      cases e
      simp only[pb,block_add]at c
      exact c
     ·exfalso
      have hs:Instr.sureAddr q=.halt (.stuck "an address expected (no nilCheck in front?)"):=by
       unfold Instr.sureAddr
       split
       ·grind
       ·rfl
      simp only[Instr.fieldAt,Sem.run_bind,run_underlying h,Result.andThen_ok,g,hs]at e
      cases e
    grind
   ·cases d
theorem J.put(g:J β env a w)(y:Ue P env o=true)(e:(execOp a.eval o).run P w=.ok n w'){u:Value}(A:oe n=some u):J β (C4 P env o) (a.put o.dst u) w':=by
 have l:=(nn y g e).2
 unfold C4
 have ev:∀z:Nat,(∀d,o.dst=some d→z≠d)→(a.put o.dst u).eval (.tmp z)=a.eval (.tmp z):=fun z j=>Act.eval_put fun d i hx=>j d i (by cases hx;rfl)
 cases i:o.dst with
 |none=>
  intro p c b f
  rw[←i,ev _ (fun d h=>by rw[i]at h;cases h)]at f
  exact⟨(g p c b f).1,l _ (g p c b f).2⟩
 |some d=>
  intro p c b f
  rw[Iz]at c
  rcases c with c|c
  ·split at c
   ·rename_i z j
    split at c
    ·rename_i r x
     obtain rfl:=Hq.1 c
     simp only at f⊢
     have q:n=.value u:=by
      have:Dd P o=true:=by
       unfold IU at j
       unfold Dd
       cases B:Dk P o with
       |true=>rfl
       |false=>rw[B]at j;cases j
      obtain⟨v,rfl⟩:=(OR (ρ:=a.eval) this).2 _ _ _ e
      cases A
      rfl
     subst q
     have k:pb u=some b:=by
      have:(a.put (some d) u).eval (.tmp d)=u∨(a.put (some d) u).eval (.tmp d)=undef:=by
       simp only[Act.eval,Act.put,Yw,Nl]
       split
       ·rename_i h
        split<;>simp_all
       ·simp_all
      rcases this with h|h
      ·rw[h]at f;exact f
      ·rw[h]at f;cases f
     obtain⟨s,t⟩:=g _ (JX x) _ (qp j e k)
     exact⟨s,l _ t⟩
    ·cases c
   ·cases c
  ·rw[GC]at c
   have m:p.1≠d:=fun he=>by have:=c.2;rw[he,P5]at this;cases this
   rw[←i,ev _ (fun d' h=>by rw[i]at h;cases h;exact m)]at f
   exact⟨(g p c.1 b f).1,l _ (g p c.1 b f).2⟩
def qz(env:List (Nat×Nat))(o:Oper):Bool:=match o.dst with
 |none=>true
 |some d=>env.all fun p=>!Nat.beq p.1 d
theorem J.keep(c:J β env a w)(k:Ue P env o=true)(g:qz env o=true)(e:(execOp a.eval o).run P w=.ok n w'){u:Value}:J β env (a.put o.dst u) w':=by
 have i:=(nn k c e).2
 intro p h b f
 have:(a.put o.dst u).eval (.tmp p.1)=a.eval (.tmp p.1):=Act.eval_put fun d j hx=>by
  cases hx
  unfold qz at g
  rw[j]at g
  have:=Ys.1 g p h
  rw[P5]at this
  cases this
 rw[this]at f
 exact⟨(c p h b f).1,i _ (c p h b f).2⟩
end
end Go.Eng
