import Derived.Test.YtbcmdieedjamgaaGreatZe09
import Derived.Test.YtbcmdieedjamgaaGreatZe00
namespace Go.Eng
set_option linter.all false
open Go Go.RowKit
def Dp:Nat→List Blk→List (Ad×Blk)
 |_,[]=>[]
 |i,b::bs=>((0,i),b)::Dp (i+1) bs
abbrev Cl:=(Ad→Prop)→Nat→Hp→(Nat→AV)→Prop
structure KO (P:Program) (f:FuncId) (os:Nat) (ys:List AV) (bi:List Blk) (Θ:Cl) {γ:Type} (M:Option γ) (e:γ→AV) (bs:γ→List Blk):Prop where
 k:∀l H (ks:List Ad) (gs:List Nat) (θ:Nat→AV),ks.length=os→JQ l ks→ks.Nodup→J8 H (Co l ks gs θ H) (Dp 0 bi) 0 ks→Θ (fun k=>k∈ks) l H θ→∀y,M=some y→
  Zc3 P f l (Ao (Co l ks gs θ H) ys) H (fun z H'=>z=ren (Co l ks gs θ H) (e y)∧H'=DA H ks (CT (Co l ks gs θ H) 0 (bs y)))
mutual
def JZ(os:Nat):AV→Bool
 |.ref k _ _ _=>Nat.beq k.1 0&&Nat.ble (k.2+1) os
 |.ptr k _ _=>Nat.beq k.1 0&&Nat.ble (k.2+1) os
 |.mp k _=>Nat.beq k.1 0&&Nat.ble (k.2+1) os
 |.fn f xs ys=>(match f with|.yield _=>false|_=>true)&&Je os xs&&Je os ys
 |.agg xs=>Je os xs
 |.tup xs=>Je os xs
 |.top=>true
 |.d _=>true
 |.e0=>true
 |.p _=>true
 |.iptr _ _=>true
 |.ifc _ _ _=>true
def Je(os:Nat):List AV→Bool
 |[]=>true
 |x::xs=>JZ os x&&Je os xs
end
def Nc(os:Nat)(r a:Ren):Prop:=∀q,q<os→r.κ (0,q)=a.κ (0,q)∧r.γ (0,q)=a.γ (0,q)
theorem fj{os:Nat}{r c:Ren}(hs:Nc os r c){k:Ad}(h:(Nat.beq k.1 0&&Nat.ble (k.2+1) os)=true):r.κ k=c.κ k∧r.γ k=c.γ k:=by
 simp only[Yc]at h
 obtain⟨a,b⟩:=k
 have d:=Yd h.1
 have e:=Yh h.2
 simp only at d e
 subst d
 exact hs b e
mutual
theorem fq{os:Nat}{r c:Ren}(hs:Nc os r c):∀x:AV,JZ os x=true→ren r x=ren c x
 |.ref k g off n,h=>by obtain⟨a,b⟩:=fj hs h;simp only[ren,a,b]
 |.ptr k g off,h=>by obtain⟨a,b⟩:=fj hs h;simp only[ren,a,b]
 |.mp k g,h=>by obtain⟨a,b⟩:=fj hs h;simp only[ren,a,b]
 |.fn f xs ys,h=>by
  simp only[JZ,Yc]at h
  have a:=MJ hs xs h.1.2
  have b:=MJ hs ys h.2
  cases f<;>first|(simp only[ren,a,b];done)|(simp at h)
 |.agg xs,h=>by simp only[JZ]at h;simp only[ren,MJ hs xs h]
 |.tup xs,h=>by simp only[JZ]at h;simp only[ren,MJ hs xs h]
 |.top,_=>by simp[ren]
 |.d _,_=>by simp[ren]
 |.e0,_=>by simp[ren]
 |.p _,_=>by simp[ren]
 |.iptr _ _,_=>by simp[ren]
 |.ifc _ _ _,_=>by simp[ren]
theorem MJ{os:Nat}{r a:Ren}(hs:Nc os r a):∀xs:List AV,Je os xs=true→Ao r xs=Ao a xs
 |[],_=>by simp[Ao]
 |x::xs,h=>by
  simp only[Je,Yc]at h
  simp only[Ao,fq hs x h.1,MJ hs xs h.2]
end
def F1(os:Nat):List Blk→Prop
 |[]=>True
 |b::bs=>(Ih b.cells∨Je os b.cells=true)∧b.live=true∧F1 os bs
theorem F1.ren{os:Nat}{r a:Ren}(hs:Nc os r a):∀(bs:List Blk) (i:Nat),i+bs.length≤os→F1 os bs→CT r i bs=CT a i bs
 |[],_,_,_=>rfl
 |b::bs,i,hl,h=>by
  simp only[Dt]at hl
  have d:Ao r b.cells=Ao a b.cells:=by
   rcases h.1 with c|e
   ·rw[Jv c,Jv c]
   ·exact MJ hs _ e
  simp only[CT,F1.ren hs bs (i+1) (by omega) h.2.2,AL,d,(hs i (by omega)).2]
theorem F1.live{os:Nat}:∀{bs:List Blk},F1 os bs→∀b∈bs,b.live=true
 |c::bs,h,b,a=>by
  rcases Yx.1 a with rfl|a
  ·exact h.2.1
  ·exact F1.live h.2.2 b a
theorem JH:Ih []:=fun x hx=>by cases hx
theorem EQ{P:Program}{T:Nat→Option TI}{n:Nat}{f:FuncId}{fn:Func}{ys:List AV}{bi:List Blk}{Θ:Cl}{γ:Type}{M:Option γ}{e:γ→AV}{bs:γ→List Blk}(I:P.funcs[f]?=some fn)(J:fn.ntmps=n)(F:A8 P T)(u:List ResultVar)(os:Nat)
  (h:∀C:Cx,CO C os→Θ C.no C.l C.H0 C.θ→∀y,M=some y→∀a:AV→List Blk→Prop,HL (fun y=>a (e y) (bs y)) y→LW P n C (pa [] (As fn)) (Ac (DI 0 ys) (Dp 0 bi)) (FQ T u os a))
  (he:∀y,JZ os (e y)=true:=by intro y;kernel_rfl) (v:∀y,F1 os (bs y):=by intro y;repeat(first|exact trivial|refine⟨.inl (EZ _ _),rfl,?_⟩|refine⟨.inl JH,rfl,?_⟩|refine⟨.inr (by kernel_rfl),rfl,?_⟩)) (hl:∀y,(bs y).length=os:=by intro y;rfl) (o:Iu os (Dp 0 bi)=true:=by kernel_rfl)
  (G:fn.body=some (As fn):=by kernel_rfl) (c:(fn.name== "runtime.NumGoroutine")=false:=by kernel_rfl) (d:fn.results.toList=u:=by kernel_rfl) (hx:Nat.ble ys.length n=true:=by kernel_rfl):KO P f os ys bi Θ M e bs:=
 ⟨fun l H ks g θ p i t D hΘ y hy=>by
  have hN:∀r,IX l ks g r→Nc os r (Co l ks g θ H):=fun r d q K=>by
   obtain⟨w,x⟩:=d
   exact⟨congrFun w _,x q (by omega)⟩
  refine Zmg u (As fn) ks g os θ ys (Dp 0 bi) (e y) (bs y) (Y':=ren (Co l ks g θ H) (e y)) (bs':=CT (Co l ks g θ H) 0 (bs y)) I G c J d (by rw[CF];exact Yh hx) F p i t o D rfl (hl y) (v y).live
   (fun r d=>fq (hN r d) _ (he y)) (fun r d=>F1.ren (hN r d) _ _ (by rw[hl];omega) (v y)) (fun C A E B s m L N j=>?_) ⟨rfl,rfl⟩
  refine h C ⟨A,E,B,fun q K=>?_⟩ (by rw[j,s,m,L];exact hΘ) y hy (fun z b=>z=e y∧b=bs y) ⟨rfl,rfl⟩
  rw[j,N]
  show(match Bk ks q with|some k=>k|none=>(0,0))∈ks
  rw[Cn,Ye (by omega)]
  exact Gk _⟩
def Fj(r:Ren):List (Ad×Blk)→List Nat
 |[]=>[]
 |(k,b)::a=>(r.γ k+b.g)::Fj r a
def BE(r a:Ren):Nat→List Blk→List (Ad×Blk)→Prop
 |i,b::bs,(k,c)::cs=>(b.live=true→c.live=true∧AL r (0,i) b=AL a k c)∧r.γ (0,i)+b.g=a.γ k+c.g∧BE r a (i+1) bs cs
 |_,[],[]=>True
 |_,_,_=>False
def G9:List Ad→Bool
 |[]=>true
 |k::ks=>!(ks.any (Bz k))&&G9 ks
theorem Pg{κ:Ad→Ad}{os:Nat}(a:∀q k:Ad,BA os q=true→BA os k=true→q≠k→κ q≠κ k):∀(ks:List Ad),G9 ks=true→ks.all (BA os)=true→(ks.map κ).Nodup
 |[],_,_=>List.nodup_nil
 |k::ks,h,b=>by
  simp only[G9,Yc,YK]at h
  simp only[IY,Yc]at b
  rw[YS,List.nodup_cons]
  refine⟨fun hm=>?_,Pg a ks h.2 b.2⟩
  obtain⟨q,d,e⟩:=YV.1 hm
  have c:q≠k:=fun e'=>Uh h.1 (e'▸d)
  grind
section
variable {P:Program} {f:FuncId} {os os':Nat} {ys:List AV} {bi:List Blk} {Θ:Cl} {γ:Type} {M:Option γ} {e:γ→AV} {bs:γ→List Blk} {C:Cx} {r:Ren} {xs:List AV} {x:AV} {y:γ}
theorem Ut{fx:List Nat}(co:COx C os' fx)(g:Gd C r):∀q k:Ad,BA os' q=true→BA os' k=true→q≠k→r.κ q≠r.κ k:=by
 intro q k m j l he
 rw[g.κ]at he
 rcases GA m with e|⟨e,h⟩<;>rcases GA j with f|⟨f,i⟩
 ·obtain⟨a,b⟩:=q
  obtain⟨c,d⟩:=k
  simp only at e f
  subst e;subst f
  rw[co.ok.own,co.ok.own]at he
  grind
 ·obtain⟨a,b⟩:=q
  obtain⟨c,d⟩:=k
  simp only at e f i
  subst e;subst f
  rw[co.ok.own]at he
  have:=co.ok.out d (by rw[co.O];exact i)
  grind
 ·obtain⟨a,b⟩:=q
  obtain⟨c,d⟩:=k
  simp only at e h f
  subst e;subst f
  rw[co.ok.own]at he
  have:=co.ok.out b (by rw[co.O];exact h)
  grind
 ·obtain⟨a,b⟩:=q
  obtain⟨c,d⟩:=k
  simp only at e h f i
  subst e;subst f
  have:=co.ok.inj b d (by rw[co.O];exact h) (by rw[co.O];exact i) he
  grind
theorem MT{fx:List Nat}(co:COx C os' fx)(g:Gd C r):∀(ks:List Ad),ks.all (BA os')=true→JQ (C.l+1) (ks.map r.κ)
 |[],_=>trivial
 |k::ks,h=>by
  simp only[IY,Yc]at h
  refine⟨?_,MT co g ks h.2⟩
  rw[g.κ]
  obtain⟨a,b⟩:=k
  rcases GA h.1 with c|⟨c,d⟩
  ·simp only at c;subst c;rw[co.ok.own];exact Yf _
  ·simp only at c d;subst c;exact RF (co.ok.out b (by rw[co.O];exact d))
theorem PB:∀(bi:List Blk) (i j:Nat),AC (Dp i bi) (0,i+j)=(bi[j]?).getD Fk
 |[],i,j=>by simp[Dp,AC]
 |b::bi,i,0=>by simp[Dp,AC,Bz]
 |b::bi,i,j+1=>by
  have a:=PB bi (i+1) j
  simp only[Dp,AC]
  have:Bz (0,i) (0,i+(j+1))=false:=by
   simp only[Bz,Kc]
   right
   cases h:Nat.beq i (i+(j+1))with
   |false=>rfl
   |true=>have:=Yd h;omega
  grind
theorem PZ{l:Ren}{d:Hp}:∀(bi:List Blk) (a:List (Ad×Blk)) (i:Nat) (B:List Blk),(∀j,AC (Dp 0 B) (0,i+j)=(bi[j]?).getD Fk)→BE l r i bi a→
  (∀p∈a,(d (r.κ p.1)).g=r.γ p.1+p.2.g∧(p.2.live=true→d (r.κ p.1)=AL r p.1 p.2))→J8 d l (Dp 0 B) i ((a.map (·.1)).map r.κ)
 |[],[],i,B,_,_,_=>trivial
 |b::bi,(k,c)::a,i,B,f,h,g=>by
  have e:=f 0
  simp only[Gl,YM,GX]at e
  obtain⟨o,q,m⟩:=h
  refine⟨?_,PZ bi a (i+1) B (fun j=>?_) m fun p n=>g p (Yw _ n)⟩
  ·rw[e]
   have s:=g _ (Yz ..)
   grind
  ·have:=f (j+1)
   grind
 |[],_::_,_,_,_,h,_=>h.elim
 |_::_,[],_,_,_,h,_=>h.elim
theorem Zq2{H:Hp}{k:Ad}:updH H k (H k)=H:=by
 funext q
 by_cases h:q=k
 ·subst h;exact AY ..
 ·exact AS _ _ h
theorem dU{g:Ren}{d:Hp}:∀(bi:List Blk) (a:List (Ad×Blk)) (i:Nat),BE g r i bi a→(∀b∈bi,b.live=true)→(∀p∈a,p.2.live=true→d (r.κ p.1)=AL r p.1 p.2)→DA d ((a.map (·.1)).map r.κ) (CT g i bi)=d
 |[],[],_,_,_,_=>rfl
 |b::bi,(k,c)::a,i,h,hl,f=>by
  obtain⟨l,q,m⟩:=h
  have e:=l (hl b (Yz ..))
  have j:=f _ (Yz ..) e.1
  simp only[YS,DA,CT]
  rw[e.2,←j,Zq2]
  exact dU bi a (i+1) m (fun b n=>hl b (Yw _ n)) fun p o=>f p (Yw _ o)
 |[],_::_,_,h,_,_=>h.elim
 |_::_,[],_,h,_,_=>h.elim
theorem eG{j:Ren}:∀(d:List Blk) (f a:List (Ad×Blk)) (i:Nat) (g:Hp),BE j r i d a→(∀b∈d,b.live=true)→f.map (·.1)=a.map (·.1)→DA g ((f.map (·.1)).map r.κ) (CT j i d)=Dd r a g
 |[],[],[],_,_,_,_,_=>rfl
 |[],_::_,[],_,_,_,_,h=>by cases h
 |b::d,[],_::_,_,_,_,_,h=>by cases h
 |b::d,(k,c)::f,(q,o)::a,i,g,h,hl,he=>by
  obtain⟨l,p,m⟩:=h
  simp only[YS,List.cons.injEq]at he
  obtain⟨rfl,he⟩:=he
  have e:=l (hl b (Yz ..))
  simp only[YS,DA,CT,Dd]
  rw[e.2]
  exact eG d f a (i+1) _ m (fun b n=>hl b (Yw _ n)) he
 |_::_,_,[],_,_,h,_,_=>h.elim
 |[],_,_::_,_,_,h,_,_=>h.elim
def rC(C:Cx)(r:Ren)(a:List (Ad×Blk))(θ:Nat→AV)(H:Hp):Ren:=Co (C.l+1) ((a.map (·.1)).map r.κ) (Fj r a) θ H
def Th(Θ:Cl)(C:Cx)(r:Ren)(b c:List (Ad×Blk))(θ:Nat→AV):Prop:=
 ∀a,(∀p∈c,(a (r.κ p.1)).g=r.γ p.1+p.2.g∧(p.2.live=true→a (r.κ p.1)=AL r p.1 p.2))→(∀k:Ad,k.1≤C.l→¬r.no k→a k=r.H0 k)→Θ (fun k=>k∈(b.map (·.1)).map r.κ) (C.l+1) a θ
theorem HR(K:KO P f os ys bi Θ M e bs)(hy:M=some y){fx:List Nat}(co:COx C os' fx)(g:Gd C r)(a k:List (Ad×Blk))(θ:Nat→AV)(hΘ:Th Θ C r a (a++k) θ)(l:∀H,BE (rC C r a θ H) r 0 bi a)(t:bs y=bi:=by rfl)(n:bi.all Blk.live=true:=by kernel_rfl)(i:(a++k).all (fun p=>p.2.live)=true:=by kernel_rfl)(hx:∀H,Ao (rC C r a θ H) ys=Ao r xs:=by intro H;kernel_rfl)(u:∀H,ren (rC C r a θ H) (e y)=ren r x:=by intro H;kernel_rfl)
  (m:((a.map (·.1)).all (BA os')&&G9 (a.map (·.1))&&Nat.beq a.length os)=true:=by kernel_rfl):He P C.l r f xs (a++k) x:=by
 intro d v D
 have s:∀b∈bi,b.live=true:=fun b E=>Yu.1 n b E
 have o:∀p∈a++k,p.2.live=true:=fun p c=>Yu.1 i p c
 have h:∀p∈a,p∈a++k:=fun p c=>HD _ c
 simp only[Yc]at m
 have q:∀p∈a++k,(d (r.κ p.1)).g=r.γ p.1+p.2.g∧(p.2.live=true→d (r.κ p.1)=AL r p.1 p.2):=fun p c=>⟨by rw[v p c (o p c)];rfl,v p c⟩
 have:=K.k (C.l+1) d ((a.map (fun p:Ad×Blk=>p.1)).map r.κ) (Fj r a) θ (by rw[YG,YG];exact Yd m.2) (MT co g _ m.1.1) (Pg (Ut co g) _ m.1.2 m.1.1)
  (PZ bi a 0 bi (fun j=>by have:=PB bi 0 j;rwa [YN]at this⊢) (l d) fun p c=>q p (h p c)) (hΘ d q D) y hy
 rw[←hx d]
 refine this.mono fun z w ⟨A,B⟩=>⟨A.trans (u d),B.trans ?_⟩
 rw[t]
 exact dU bi a 0 (l d) s fun p c hl=>(q p (h p c)).2 hl
theorem ZvC(K:KO P f os ys bi Θ M e bs)(hy:M=some y){fx:List Nat}(co:COx C os' fx)(g:Gd C r)(a m c:List (Ad×Blk))(θ:Nat→AV)(hΘ:Th Θ C r a (a++m) θ)
  (n:∀H,BE (rC C r a θ H) r 0 bi a) (h:∀H,BE (rC C r a θ H) r 0 (bs y) c) (k:(bs y).all Blk.live=true:=by kernel_rfl) (hx:∀H,Ao (rC C r a θ H) ys=Ao r xs:=by intro H;kernel_rfl) (s:∀H,ren (rC C r a θ H) (e y)=ren r x:=by intro H;kernel_rfl)
  (i:((a.map (·.1)).all (BA os')&&G9 (a.map (·.1))&&Nat.beq a.length os)=true:=by kernel_rfl) (he:a.map (·.1)=c.map (·.1):=by rfl):H5 P C.l r f xs (a++m) x c []:=by
 have o:∀b∈bs y,b.live=true:=fun b B=>Yu.1 k b B
 have l:∀p∈a,p∈a++m:=fun p q=>HD _ q
 refine ZxC rfl rfl fun d t A=>?_
 simp only[Yc]at i
 have:=K.k (C.l+1) d ((a.map (fun p:Ad×Blk=>p.1)).map r.κ) (Fj r a) θ (by rw[YG,YG];exact Yd i.2) (MT co g _ i.1.1) (Pg (Ut co g) _ i.1.2 i.1.1)
  (PZ bi a 0 bi (fun j=>by have:=PB bi 0 j;rwa [YN]at this⊢) (n d) fun p q=>t p (l p q)) (hΘ d t A) y hy
 rw[←hx d]
 exact this.mono fun z u ⟨v,w⟩=>⟨v.trans (s d),w.trans (eG (bs y) a c 0 d (h d) o he)⟩
end
structure CloM (P:Program) (C:Cx) (i:Nat) (xs:List AV) {γ:Type} (M:Option γ) (e:γ→AV):Prop where
 k:∀y,M=some y→CI P C.l C.no C.H0 (C.θ i) xs (e y)
 x:∀r,Ao r xs=xs
 e:∀r y,ren r (e y)=e y
section
variable {os:Nat} {β γ:Type} [Inhabited γ]
theorem CloM.callF{P:Program}{i:Nat}{xs:List AV}{M:Option γ}{e:γ→AV}(E:Ev os β)(h:CloM P E.C i xs M e){y:γ}(hy:M=some y):M8 P E.E.l E.E.r i xs [] (e y):=
 Zw6 (congrFun E.g.θ i) (by rw[E.hl,E.g.no,E.g.H];exact h.k y hy) (h.x _) (h.e _ _)
@[reducible] def cf(P:Program)(i:Nat)(xs:List AV)(M:Option γ)(e:γ→AV)(k:γ→PT os β):PT os β:=
 ⟨.call (e (M.getD default)) [] (k (M.getD default)).a,fun E=>M8 P E.l E.r i xs [] (e (M.getD default))∧(k (M.getD default)).q E,M.bind fun y=>(k y).m,fun E=>CloM P E.C i xs M e∧∀y,(k y).n E,fun E b y hm f=>by
  obtain⟨x,a,c⟩:=bind_some hm
  have d:M.getD default=x:=by rw[a];rfl
  rw[d]
  exact⟨b.1.callF E a,(k x).ok E (b.2 x) y c f⟩⟩
@[reducible] def Hw(b:Bool)(P:Program)(i:Nat)(xs:List AV)(M:Option γ)(e:γ→AV)(k:γ→PT os β):PT os β:=
 ⟨.call (e (M.getD default)) [] (k (M.getD default)).a,fun E=>(b=true→M8 P E.l E.r i xs [] (e (M.getD default)))∧(k (M.getD default)).q E,if(b=true→M.isSome=true)then(k (M.getD default)).m else none,fun E=>CloM P E.C i xs M e∧∀y,(k y).n E,fun E c y hm g=>by
  obtain⟨d,hm⟩:=BD hm
  refine⟨fun h=>?_,(k _).ok E (c.2 _) y hm g⟩
  obtain⟨x,a⟩:=Y5.1 (d h)
  have f:M.getD default=x:=by rw[a];rfl
  rw[f];exact c.1.callF E a⟩
@[reducible] def cs(P:Program)(f:FuncId)(xs:List AV)(ks:List Ad)(b:List (Ad×Blk))(M:Option γ)(e:γ→AV)(k:γ→PT os β):PT os β:=
 ⟨.call (e (M.getD default)) ks (k (M.getD default)).a,fun E=>He P E.l E.r f xs b (e (M.getD default))∧(k (M.getD default)).q E,M.bind fun y=>(k y).m,fun E=>(∀y,M=some y→He P E.C.l E.E.r f xs b (e y))∧∀y,(k y).n E,fun E c y hm h=>by
  obtain⟨x,a,d⟩:=bind_some hm
  have g:M.getD default=x:=by rw[a];rfl
  rw[g]
  exact⟨by rw[E.hl];exact c.1 x a,(k x).ok E (c.2 x) y d h⟩⟩
@[reducible] def JV(b:Bool)(P:Program)(f:FuncId)(xs:List AV)(ks:List Ad)(a:List (Ad×Blk))(M:Option γ)(e:γ→AV)(k:γ→PT os β):PT os β:=
 ⟨.call (e (M.getD default)) ks (k (M.getD default)).a,fun E=>(b=true→He P E.l E.r f xs a (e (M.getD default)))∧(k (M.getD default)).q E,if(b=true→M.isSome=true)then(k (M.getD default)).m else none,fun E=>(∀y,M=some y→He P E.C.l E.E.r f xs a (e y))∧∀y,(k y).n E,fun E d y hm i=>by
  obtain⟨g,hm⟩:=BD hm
  refine⟨fun a=>?_,(k _).ok E (d.2 _) y hm i⟩
  obtain⟨x,c⟩:=Y5.1 (g a)
  have h:M.getD default=x:=by rw[c];rfl
  rw[h,E.hl];exact d.1 x c⟩
@[reducible] def mv{α:Type}[Rw α](d q:Nat)(xs:List α)(k:PT os β)(a:Nat.ble (q+1) os=true:=by kernel_rfl):PT os β:=
 ⟨.mv d q k.a,fun E=>FN (Aa Rw.e xs)∧(q<os∧E.r.no (E.r.κ (0,q)))∧k.q E,k.m,k.n,fun E c y hm b=>
  ⟨yV _ _,⟨Yh a,by rw[E.g.no,E.g.κ];exact E.co.W q (Yh a)⟩,k.ok E c y hm b⟩⟩
@[reducible] def mvc{α:Type}[Rw α](d q e i:Nat)(xs:List α)(k:PT os β)(a:Nat.ble (q+1) os=true:=by kernel_rfl):PT os β:=
 ⟨.mvc d q e i k.a,fun E=>FN (Aa Rw.e xs)∧(q<os∧E.r.no (E.r.κ (0,q)))∧k.q E,k.m,k.n,fun E c y hm b=>
  ⟨yV _ _,⟨Yh a,by rw[E.g.no,E.g.κ];exact E.co.W q (Yh a)⟩,k.ok E c y hm b⟩⟩
end
section
variable {P:Program} {os os':Nat} {ys:List AV} {bi:List Blk} {Θ:Cl} {γ:Type} {M:Option γ} {e:γ→AV} {bs:γ→List Blk} {C:Cx} {r:Ren} {y:γ}
theorem Lg{f:FuncId}(K:KO P f os ys bi Θ M e bs)(hy:M=some y){fx:List Nat}(co:COx C os' fx)(g:Gd C r)(c i:List (Ad×Blk)){w:List (Ad×Blk)}{v:Hp}(L:∀p∈w,(v (r.κ p.1)).g=r.γ p.1+p.2.g∧(p.2.live=true→v (r.κ p.1)=AL r p.1 p.2))(u:∀p∈c,p∈w)
  {G d:List AV} (θ:Nat→AV) (hΘ:∀l' a,Θ (fun k=>k∈(c.map (·.1)).map r.κ) l' a θ) (o:∀l H,BE (Co l ((c.map (·.1)).map r.κ) (Fj r c) θ H) r 0 bi c) (B:bs y=bi:=by rfl) (t:bi.all Blk.live=true:=by kernel_rfl)
  (hx:∀l H,Ao (Co l ((c.map (·.1)).map r.κ) (Fj r c) θ H) ys=G++d:=by intro l H;kernel_rfl) (D:∀l H,ren (Co l ((c.map (·.1)).map r.κ) (Fj r c) θ H) (e y)=e y:=by intro l H;kernel_rfl)
  (F:(((c++i).map (·.1)).all (BA os')&&G9 ((c++i).map (·.1))&&Nat.beq c.length os)=true:=by kernel_rfl):CI P (C.l+1) (fun k=>k∈(i.map (·.1)).map r.κ) v (.fn (.func f) [] d) G (e y):=by
 have A:∀b∈bi,b.live=true:=fun b w=>Yu.1 t b w
 refine⟨f,[],d,rfl,fun l' a hl N=>?_⟩
 simp only[Yc,DO,List.all_append]at F
 obtain⟨⟨⟨E,Q⟩,R⟩,S⟩:=F
 have m:=Pg (Ut co g) _ R (by rw[List.all_append,E,Q];rfl)
 rw[DO,List.nodup_append]at m
 have x:∀p∈c,a (r.κ p.1)=v (r.κ p.1):=fun p n=>by
  have hm:r.κ p.1∈(c.map (·.1)).map r.κ:=Xc (Xc n)
  exact N _ (Uk (MT co g _ E) _ hm) fun h=>m.2.2 _ hm _ h rfl
 have q:∀p∈c,(a (r.κ p.1)).g=r.γ p.1+p.2.g∧(p.2.live=true→a (r.κ p.1)=AL r p.1 p.2):=fun p n=>by rw[x p n];exact L p (u p n)
 have s:JQ l' ((c.map (·.1)).map r.κ):=by
  have:=MT co g (c.map (·.1)) E
  generalize (c.map (·.1)).map r.κ=ks at this
  induction ks with
  |nil=>trivial
  |cons k ks O=>exact⟨D7 this.1 hl,O this.2⟩
 have:=K.k l' a ((c.map (fun p:Ad×Blk=>p.1)).map r.κ) (Fj r c) θ (by rw[YG,YG];exact Yd S) s m.1
  (PZ bi c 0 bi (fun j=>by have:=PB bi 0 j;rwa [YN]at this⊢) (o l' a) q) (hΘ l' a) y hy
 rw[Fy,←hx l' a]
 refine this.mono fun z T ⟨I,J⟩=>⟨I.trans (D l' a),J.trans ?_⟩
 rw[B]
 exact dU bi c 0 (o l' a) A fun p n hl=>(q p n).2 hl
theorem g0{f:FuncId}{xs:List AV}(K:KC P f xs M e)(hy:M=some y){l:Nat}{no:Ad→Prop}{H:Hp}:CI P l no H (.fn (.func f) [] []) xs (e y):=Zym fun l' a=>K.k l' a y hy
end
theorem Bx{C:Cx}{r:Ren}{os':Nat}{P:Program}{i:Nat}{xs:List AV}{y:AV}{fx:List Nat}(co:COx C os' fx)(g:Gd C r)(m:List (Ad×Blk)){l:Hp}(p:∀k:Ad,k.1≤C.l→¬r.no k→l k=r.H0 k)(h:CI P C.l C.no C.H0 (C.θ i) xs y)
  (o:((m.map (·.1)).all (BA os'))=true:=by kernel_rfl):CI P (C.l+1) (fun k=>k∈(m.map (·.1)).map r.κ) l (r.θ i) xs y:=by
 rw[g.θ]
 refine ZFA h (Nat.le_succ _) (fun q f d hm=>?_) fun q f d=>?_
 ·obtain⟨k,j,e⟩:=YV.1 hm
  rw[g.κ]at e
  obtain⟨a,b⟩:=k
  rcases GA (Yu.1 o _ j)with c|⟨c,n⟩
  ·simp only at c;subst c;rw[co.ok.own]at e;rw[←e]at f;simp only at f;omega
  ·simp only at c n;subst c;rw[←e]at d;exact d (co.W b n)
 ·rw[←g.H];exact p q f (by rw[g.no];exact d)
theorem Gu{r b:Ren}{k k':Ad}{g a:Nat}{e:EK}{sz:Nat}{cs:List AV}(h:Ih cs)(c:r.γ k+g=b.γ k'+a):AL r k ⟨g,true,e,sz,cs⟩=AL b k' ⟨a,true,e,sz,cs⟩:=by
 simp only[AL,Jv h,c]
section
variable {P:Program} {T:Nat→Option TI} {n:Nat} {C:Cx} {τ:St} {Q:Exit→St→Prop} {os k:Nat} {c:Code} {β:Type} {L:β→Prop} {y:β}
theorem ZXl{fx:List Nat}(co:COx C os fx)(o:A8 P T)(m:Nat)(v:PT os β)(lf:Lf)(s:v.m=some y)(j:HL L y)(p:∀r (g:Gd C r),v.n ⟨⟨C.l,r,fun _ τ'=>LO P n C c (k+m) τ' Q,fun _ _=>False⟩,L,C,_,co,g,rfl⟩)
  (q:∀l r Q b,A7 r os v.a τ (fun τ a=>FZ P T l n r ((BZ c).toList.map (·.dst)) (H7 m (Hi k (BZ c).toList)) [] a (fun τ' env d=>A7 r os d (DG env τ') (fun τ _=>Eb fx lf τ (Q .normal))) τ)=v.q ⟨l,r,Q,b⟩:=by intro l r Q P;kernel_rfl):LO P n C c k τ Q:=
 ZKR co.ok o co.O co.F m v.a lf (fun r Φ=>v.q ⟨C.l,r,fun _=>Φ,fun _ _=>False⟩) (fun r Φ=>q _ r (fun _=>Φ) _) fun r e f h i=>v.ok _ (p r ⟨e,f,h,i⟩) y s j
theorem ZWW{fx:List Nat}(co:COx C os fx)(m:A8 P T)(v:PT os β)(lf:Lf)(q:v.m=some y)(j:HL L y)(o:∀r (g:Gd C r),v.n ⟨⟨C.l,r,Q,fun _ _=>False⟩,L,C,_,co,g,rfl⟩)
  (p:∀l r Q b,A7 r os v.a τ (fun τ a=>FZ P T l n r ((BZ c).toList.map (·.dst)) (Hi k (BZ c).toList) [] a (fun τ' env d=>A7 r os d (DG env τ') (fun τ _=>Eb fx lf τ (Q .normal))) τ)=v.q ⟨l,r,Q,b⟩:=by intro l r Q P;kernel_rfl):LO P n C c k τ Q:=
 ZKw co.ok m co.O co.F v.a lf (fun r Q=>v.q ⟨C.l,r,Q,fun _ _=>False⟩) (fun r Q=>p _ r Q _) fun r e f h i=>v.ok _ (o r ⟨e,f,h,i⟩) y q j
theorem ZTb{γ:Type}{M:Option γ}{kk:γ→Option β}{ss:List (Nat×AV)}{hs:List (Ad×Blk)}{fx:List Nat}(co:COx C os fx)(hm:M.bind kk=some y)(f:FuncId)(xs:List AV)(ks:List Ad)(b:List (Ad×Blk))(e:γ→AV)(Au:γ→List (Ad×Blk))(fl:List Ad)
  (l:∀z,Fv C (Au z)) (d:JW (AC hs) fl) (a:∀z,M=some z→∀r,Gd C r→H5 P C.l r f xs b (e z) (Au z) [])
  (h:∀z,kk z=some y→LO P n C c (k+1) (Ac (Hv (FU c k) (e z) (Ea [] ss)) (Au z++C2 ((Au z).map (·.1)) [] fl hs)) Q)
  (j:Ha c k=some (FU c k,callF c k,Hf c k):=by kernel_rfl) (v:ev (AB ss) (callF c k)=.fn (.func f) [] []:=by kernel_rfl) (m:[]++(Hf c k).map (ev (AB ss))++[]=xs:=by kernel_rfl) (g:(ks.map fun k=>(k,AC hs k))=b:=by kernel_rfl)
  (i:∀z,(DF os (Au z)&&Mi [] (Au z)&&M0 [] fx&&Ib hs&&M5 n (FU c k)&&ks.all (BA os))=true:=by intro z;kernel_rfl):LO P n C c k (Ac ss hs) Q:=by
 obtain⟨z,o,p⟩:=bind_some hm
 exact Zon co.ok co.O co.F f [] [] xs j v m ks b g (e z) (Au z) [] fl (i z) (l z) d (fun r q s t u=>a z o r ⟨q,s,t,u⟩) (h z p)
theorem s6 {f os os':Nat} {ys xs:List AV} {bi:List Blk} {γ:Type} {M:Option γ} {e:γ→AV} {bs:γ→List Blk} {z:γ} {x:AV} {r:Ren} (K:KO P f os ys bi (fun _ _ _ _=>True) M e bs) (hy:M=some z) {fx:List Nat} (co:COx C os' fx) (g:Gd C r) (a d:List (Ad×Blk)) (h:∀H,BE (rC C r a (AB []) H) r 0 bi a:=by
   intro H
   repeat(first|exact trivial|refine⟨fun _=>⟨rfl,Gu (EZ _ _) (by kernel_rfl)⟩,by kernel_rfl,?_⟩|refine⟨fun _=>⟨rfl,Gu JH (by kernel_rfl)⟩,by kernel_rfl,?_⟩|refine⟨fun _=>⟨rfl,by kernel_rfl⟩,by kernel_rfl,?_⟩))
  (i:bs z=bi:=by rfl) (c:bi.all Blk.live=true:=by kernel_rfl) (b:(a++d).all (fun p=>p.2.live)=true:=by kernel_rfl) (hx:∀H,Ao (rC C r a (AB []) H) ys=Ao r xs:=by intro H;kernel_rfl) (j:∀H,ren (rC C r a (AB []) H) (e z)=ren r x:=by intro H;kernel_rfl)
  (k:((a.map (·.1)).all (BA os')&&G9 (a.map (·.1))&&Nat.beq a.length os)=true:=by kernel_rfl):He P C.l r f xs (a++d) x:=
 HR K hy co g a d (AB []) (fun _ _ _=>trivial) h i c b hx j k
theorem c6{γ:Type}{M:Option γ}{kk:γ→Option β}{ss:List (Nat×AV)}{hs:List (Ad×Blk)}{f:FuncId}{os':Nat}{ys:List AV}{bi:List Blk}{Θ:Cl}{e0:γ→AV}{bs:γ→List Blk}{fx:List Nat}(co:COx C os fx)(hm:M.bind kk=some y)(K:KO P f os' ys bi Θ M e0 bs)
  (a b:List (Ad×Blk)) (e:γ→AV) (Au:γ→List (Ad×Blk)) (fl:List Ad)
  (h:∀z,kk z=some y→LO P n C c (k+1) (Ac (Hv (FU c k) (e z) (Ea [] ss)) (Au z++C2 ((Au z).map (·.1)) [] fl hs)) Q)
  (θ:Ren→Nat→AV:=fun _=>AB []) (hΘ:∀r,Gd C r→Th Θ C r a (a++b) (θ r):=by intro r g;exact fun _ _ _=>trivial) (xs:List AV:=[]++(Hf c k).map (ev (AB ss))++[])
  (q:∀z,Fv C (Au z):=by intro z;repeat(first|exact trivial|refine⟨COx.W ‹_› _ (by decide),?_⟩))
  (j:JW (AC hs) fl:=by repeat(first|exact trivial|refine⟨EZ _ _,?_⟩))
  (i:∀r H,BE (rC C r a (θ r) H) r 0 bi a:=by
   intro r H
   repeat(first|exact trivial|refine⟨fun _=>⟨rfl,Gu (EZ _ _) (by kernel_rfl)⟩,by kernel_rfl,?_⟩|refine⟨fun _=>⟨rfl,Gu JH (by kernel_rfl)⟩,by kernel_rfl,?_⟩|refine⟨fun _=>⟨rfl,by kernel_rfl⟩,by kernel_rfl,?_⟩|refine⟨(fun h=>nomatch h),by kernel_rfl,?_⟩))
  (d:∀z r H,BE (rC C r a (θ r) H) r 0 (bs z) (Au z):=by
   intro z r H
   repeat(first|exact trivial|refine⟨fun _=>⟨rfl,Gu (EZ _ _) (by kernel_rfl)⟩,by kernel_rfl,?_⟩|refine⟨fun _=>⟨rfl,Gu JH (by kernel_rfl)⟩,by kernel_rfl,?_⟩|refine⟨fun _=>⟨rfl,by kernel_rfl⟩,by kernel_rfl,?_⟩))
  (hx:∀r H,Ao (rC C r a (θ r) H) ys=Ao r xs:=by intro r H;kernel_rfl) (s:[]++(Hf c k).map (ev (AB ss))++[]=xs:=by kernel_rfl) (t:∀z r H,ren (rC C r a (θ r) H) (e0 z)=ren r (e z):=by intro z r H;kernel_rfl)
  (p:Ha c k=some (FU c k,callF c k,Hf c k):=by kernel_rfl) (u:ev (AB ss) (callF c k)=.fn (.func f) [] []:=by kernel_rfl)
  (l:(((a++b).map (·.1)).map fun k=>(k,AC hs k))=a++b:=by kernel_rfl) (m:∀z,(bs z).all Blk.live=true:=by intro z;kernel_rfl) (he:∀z,a.map (·.1)=(Au z).map (·.1):=by intro z;rfl)
  (v:((a.map (·.1)).all (BA os)&&G9 (a.map (·.1))&&Nat.beq a.length os')=true:=by kernel_rfl)
  (o:∀z,(DF os (Au z)&&Mi [] (Au z)&&M0 [] fx&&Ib hs&&M5 n (FU c k)&&((a++b).map (·.1)).all (BA os))=true:=by intro z;kernel_rfl):LO P n C c k (Ac ss hs) Q:=
 ZTb co hm f xs _ (a++b) e Au fl q j (fun z w r g=>ZvC K w co g a b (Au z) (θ r) (hΘ r g) (fun H=>i r H) (fun H=>d z r H) (m z) (fun H=>hx r H) (fun H=>t z r H) v (he z)) h p u s l o
theorem ZWB{fx:List Nat}(co:COx C os fx)(v:PT os β)(lf:Lf)(k:v.m=some y)(h:HL L y)(i:∀r (g:Gd C r),v.n ⟨⟨C.l,r,fun _ τ'=>LW P n C c τ' Q,fun _ _=>False⟩,L,C,_,co,g,rfl⟩)
  (j:∀l r Q a,A7 r os v.a τ (fun τ _=>Eb fx lf τ (Q .normal))=v.q ⟨l,r,Q,a⟩:=by intro l r Q P;kernel_rfl):LW P n C c τ Q:=
 ZHI co.ok co.O co.F v.a lf (fun r Φ=>v.q ⟨C.l,r,fun _=>Φ,fun _ _=>False⟩) (fun r Φ=>j _ r (fun _=>Φ) _) fun r b d e f=>v.ok _ (i r ⟨b,d,e,f⟩) y k h
theorem BK{q:Prop}[Decidable q]{m:Option β}{G:Prop}(hm:(if q then m else none)=some y)(h:q→m=some y→G):G:=h (BD hm).1 (BD hm).2
theorem rg{c:Code}(h:LO P n C c 0 τ Q)(hs:uI c=true:=by kernel_rfl):LW P n C c τ Q:=ZpW hs h
end
end Go.Eng
namespace Go.Eng
set_option linter.all false
open Go Go.RowKit
section
variable {α β:Type} (P:Program)
def Vp(s:Sem α):Prop:=∀w r a,s.run P w=.ok r a→a=w∧∀w2,s.run P w2=.ok r w2
def Rd(s:Sem α):Prop:=∀w r a,s.run P w=.ok r a→a=w
variable {P}
theorem Vp.rd{s:Sem α}(h:Vp P s):Rd P s:=fun w r a e=>(h w r a e).1
theorem Vp.pure(a:α):Vp P (Pure.pure a:Sem α):=fun w r b e=>by cases e;exact⟨rfl,fun _=>rfl⟩
theorem Vp.halt(h:Halt):Vp P (.halt h:Sem α):=fun w r a e=>by cases e
theorem Vp.program:Vp P Go.program:=fun w r a e=>by cases e;exact⟨rfl,fun _=>rfl⟩
theorem Vp.bind{s:Sem α}{f:α→Sem β}(h:Vp P s)(k:∀a,Vp P (f a)):Vp P (s>>=f):=fun w r g e=>by
 rw[Sem.run_bind]at e
 cases hs:s.run P w with
 |halt x w'=>rw[hs]at e;cases e
 |ok a w'=>
  rw[hs]at e
  obtain⟨rfl,b⟩:=h w a w' hs
  obtain⟨c,d⟩:=k a _ _ _ e
  exact⟨c,fun w2=>by rw[Sem.run_bind,b w2];exact d w2⟩
theorem Rd.bind{s:Sem α}{f:α→Sem β}(h:Rd P s)(k:∀a,Rd P (f a)):Rd P (s>>=f):=fun w r c e=>by
 rw[Sem.run_bind]at e
 cases hs:s.run P w with
 |halt x w'=>rw[hs]at e;cases e
 |ok a w'=>
  rw[hs]at e
  have b:=h w a w' hs
  subst b
  exact k a _ _ _ e
theorem dv(t:TypeId):Vp P (typeInfo t):=by
 unfold typeInfo
 refine Vp.program.bind fun p=>?_
 split
 ·exact .pure _
 ·exact .halt _
theorem Js(t:TypeId):Vp P (underlying t):=by
 unfold underlying
 refine Vp.program.bind fun p=>?_
 split
 ·exact .pure _
 ·exact .halt _
theorem E0(t:TypeId):Vp P (sizeOf t):=by unfold sizeOf;exact(dv t).bind fun _=>.pure _
theorem MN(t:TypeId):Vp P (isAgg t):=by
 unfold isAgg
 refine(Js t).bind fun d=>?_
 split<;>exact .pure _
theorem ZHe(t:TypeId)(cs:Array Value)(o:Nat):Vp P (part t cs o):=by
 unfold part
 refine(MN t).bind fun b=>?_
 cases b with
 |true=>exact(E0 t).bind fun _=>.pure _
 |false=>
  show Vp P (match cs[o]? with|some v=>_|none=>_)
  split
  ·exact .pure _
  ·exact .halt _
theorem S5:∀(l:List FieldStep) (t:TypeId) (x:Option Value),Vp P (followBlind l t x)
 |[],t,x=>.pure _
 |s::a,t,x=>by
  unfold followBlind
  refine(Js _).bind fun d=>?_
  split
  ·split
   ·split
    ·exact .pure _
    ·exact S5 a _ _
    ·exact .halt _
    ·exact .pure _
    ·exact(ZHe _ _ _).bind fun _=>S5 a _ _
    ·exact .halt _
    ·exact S5 a _ _
   ·exact .halt _
  ·exact .halt _
theorem y4:∀(n:Nat) (t:TypeId) (v:Value) (s:String),Vp P (nilAhead n t v s)
 |0,t,v,s=>.pure _
 |n+1,t,v,s=>by
  unfold nilAhead
  refine(dv _).bind fun i=>?_
  split
  ·refine(S5 _ _ _).bind fun r=>?_
   split
   ·exact .pure _
   ·split
    ·exact y4 n _ _ _
    ·exact .pure _
    ·exact .halt _
    ·exact .pure _
    ·exact .pure _
    ·refine(Js _).bind fun d=>?_
     split<;>exact .pure _
  ·exact .halt _
def VV(P:Program)(s:Sem Next):Prop:=∀w r a,s.run P w=.ok r a→∃v,r=.value v
theorem VV.val{s:Sem Value}:VV P (s>>=fun x=>Pure.pure (Next.value x):Sem Next):=fun w r b e=>by
 rw[Sem.run_bind]at e
 cases hs:s.run P w with
 |halt x w'=>rw[hs]at e;cases e
 |ok a w'=>rw[hs]at e;cases e;exact⟨a,rfl⟩
theorem Vp.val{s:Sem Value}(h:Vp P s):Vp P (s>>=fun x=>Pure.pure (Next.value x):Sem Next):=h.bind fun _=>.pure _
theorem Rd.val{s:Sem Value}(h:Rd P s):Rd P (s>>=fun x=>Pure.pure (Next.value x):Sem Next):=h.bind fun _=>(Vp.pure _).rd
end
theorem dy{P:Program}(t:TypeId):Vp P (zeroValue t):=by
 unfold zeroValue
 refine(dv t).bind fun i=>?_
 split
 ·exact .pure _
 ·exact .halt _
theorem Zuv{α β:Type}{P:Program}{f:α→Sem β}(h:∀x,Vp P (f x)):∀l:List α,Vp P (l.mapM f)
 |[]=>by rw[List.mapM_nil];exact .pure _
 |x::l=>by rw[Rz];exact(h x).bind fun _=>(Zuv h l).bind fun _=>.pure _
theorem ZD9{α β:Type}{P:Program}{f:α→Sem β}(h:∀x,Vp P (f x))(l:Array α):Vp P (l.mapM f):=by
 rw[jx]
 exact(Zuv h _).bind fun _=>.pure _
theorem ZwI{P:Program}(t:TypeId)(ps:Array (Nat×Value)):Vp P (Instr.build t ps):=by
 unfold Instr.build
 refine(dy t).bind fun z=>(Js t).bind fun d=>?_
 split
 ·refine(ZD9 (fun f=>(E0 _).bind fun _=>.pure _) _).bind fun a=>?_
  split
  ·exact .pure _
  ·exact .halt _
 ·refine(E0 _).bind fun n=>?_
  split
  ·exact .pure _
  ·exact .halt _
 ·exact .halt _
def Nv{α:Type}(P:Program)(s:Sem α):Prop:=∀w r a,s.run P w≠.ok r a
theorem Nv.vp{α:Type}{P:Program}{s:Sem α}(h:Nv P s):Vp P s:=fun w r a e=>absurd e (h w r a)
theorem zL{α:Type}{P:Program}(k:IntKind)(x y:Int)(c:BoundsCode):Nv P (boundsPanic k x y c:Sem α):=fun w r b e=>by
 unfold boundsPanic at e
 dsimp only at e
 have d:∀(s:Bool) w r b,(runtimePanic (.bounds (IntKind.i64.wrap x) y s c):Sem α).run P w≠.ok r b:=fun s w r b e=>by
  unfold runtimePanic at e
  simp only[Sem.run_bind,run_program,Result.andThen_ok]at e
  repeat(first|(cases e;done)|split at e|(simp[goPanic,stuck,unsupported,Sem.run]at e;done))
 split at e
 all_goals
  rw[Sem.run_bind]at e
  generalize hs:Sem.run P _ w=q at e
  cases q with
  |halt x w'=>cases e
  |ok a w'=>exact d _ _ _ _ e
theorem ZL2{α:Type}{P:Program}:Nv P (runtimePanic .nilDeref:Sem α):=fun w r a e=>by
 unfold runtimePanic at e
 simp only[Sem.run_bind,run_program,Result.andThen_ok]at e
 repeat(first|(cases e;done)|split at e|(simp[goPanic,stuck,unsupported,Sem.run]at e;done))
theorem yY{P:Program}(v:Value):Vp P (asIntOf v):=by
 unfold asIntOf
 split
 ·exact .pure _
 ·exact .halt _
 ·exact .halt _
theorem Zuz{P:Program}(v:Value):Vp P (Instr.sureAddr v):=by
 unfold Instr.sureAddr
 split
 ·exact .pure _
 ·exact .halt _
theorem Zry{P:Program}(v:Value):Vp P (asAddr v):=by
 unfold asAddr
 split
 ·exact .pure _
 ·first|exact ZL2.vp|exact .halt _
 ·exact .halt _
theorem Zkq{P:Program}(x:Value)(y:Nat)(c:BoundsCode):Vp P (Instr.sliceBound x y c):=by
 unfold Instr.sliceBound
 refine(yY _).bind fun p=>?_
 dsimp only
 split
 ·exact .pure _
 ·exact(zL _ _ _ _).vp
theorem yC{P:Program}(b:Bool)(n m:Nat)(lo hi a:Option Value):Vp P (Instr.sliceBounds b n m lo hi a):=by
 unfold Instr.sliceBounds
 dsimp only
 repeat' (first|exact Vp.pure _|exact Zkq _ _ _|exact Vp.halt _|refine Vp.bind ?_ fun _=>?_|split)
theorem Zx6{P:Program}(t:TypeId)(x:Value)(lo hi a:Option Value):Vp P (Instr.slice t x lo hi a):=by
 unfold Instr.slice
 dsimp only
 repeat' (first|exact Vp.pure _|exact yC _ _ _ _ _ _|exact Js _|exact E0 _|exact Zry _|exact Vp.halt _|refine Vp.bind ?_ fun _=>?_|split)
theorem Zpt{P:Program}(t:TypeId)(x:Value)(lo hi a:Option Value):Vp P (Instr.sliceAt t x lo hi a):=by
 unfold Instr.sliceAt
 repeat' (first|exact Vp.pure _|exact yC _ _ _ _ _ _|exact Js _|exact E0 _|exact Zuz _|exact Zx6 _ _ _ _ _|exact Vp.halt _|refine Vp.bind ?_ fun _=>?_|split)
theorem Zpo{P:Program}(t:TypeId)(x i:Value):Vp P (Instr.indexAt t x i):=by
 unfold Instr.indexAt
 dsimp only
 repeat' (first|exact Vp.pure _|exact yY _|exact Js _|exact E0 _|exact Zuz _|exact(zL _ _ _ _).vp|exact Vp.halt _|refine Vp.bind ?_ fun _=>?_|split)
theorem Zpz{P:Program}(v:Value)(i:Nat):Vp P (Instr.extract v i):=by
 unfold Instr.extract
 split
 ·split
  ·exact .pure _
  ·exact .halt _
 ·exact .halt _
def w7(P:Program)(c:Call):Bool:=match c.callee,c.args.toList,c.argTypes.toList with
 |.builtin .len,[_],[t]=>(match P.underlying t with|some (.slice _)=>true|some .string=>true|_=>false)
 |_,_,_=>false
theorem ZLZ{P:Program}{t:TypeId}{ty:TypeId}(x:Value)(h:(match P.underlying t with|some (.slice _)=>true|some .string=>true|_=>false)=true):Vp P (Builtin.len_ #[t] ty #[x]):=by
 unfold Builtin.len_
 simp only[jG,Gl]
 intro w r c e
 have a:∃d,P.underlying t=some d∧((∃q,d=.slice q)∨d=.string):=by
  grind
 obtain⟨d,a,b⟩:=a
 simp only[Sem.run_bind,run_underlying a,Result.andThen_ok]at e⊢
 rcases b with⟨q,rfl⟩|rfl
 ·cases x<;>first|(cases e;exact⟨rfl,fun _=>rfl⟩)|(cases e;done)
 ·cases x<;>first|(cases e;exact⟨rfl,fun _=>rfl⟩)|(cases e;done)
def D1(P:Program)(o:Oper):Bool:=match o.op with
 |.build _ _=>true
 |.extract _ _=>true
 |.indexAddr _ _ _=>true
 |.slice _ _ _ _ _=>true
 |.makeFunc _ _ _=>true
 |.call c=>w7 P c
 |.move _=>true
 |.assign _=>true
 |.nilCheck _=>true
 |.fieldAddr t _ i=>(match P.underlying t with|some (.struct a)=>(match a[i]? with|some f=>!(Nat.beq (P.cellsOf f.type) 0)|none=>false)|_=>false)
 |_=>false
def Dl(P:Program)(o:Oper):Bool:=D1 P o||match o.op with|.load _ _=>true|_=>false
section
variable {P:Program} {ρ:Operand→Value} {o:Oper}
theorem T4(h:D1 P o=true):Vp P (execOp ρ o)∧VV P (execOp ρ o):=by
 obtain⟨j,op,type,pos,after,guard⟩:=o
 cases op<;>simp only[D1]at h<;>first|(cases h;done)|skip
 case move x=>exact⟨.pure _,fun w r d e=>by cases e;exact⟨_,rfl⟩⟩
 case assign x=>exact⟨.pure _,fun w r d e=>by cases e;exact⟨_,rfl⟩⟩
 case build t ps=>exact⟨(ZwI _ _).val,VV.val⟩
 case makeFunc f a b=>exact⟨(Vp.pure _).val,VV.val⟩
 case extract x i=>exact⟨(Zpz _ _).val,VV.val⟩
 case indexAddr t x i=>exact⟨(Zpo _ _ _).val,VV.val⟩
 case slice t x a b c=>exact⟨(Zpt _ _ _ _ _).val,VV.val⟩
 case call c=>
  unfold w7 at h
  split at h
  ·rename_i x t l k n
   obtain⟨z,u,D⟩:=c
   simp only at l k n
   subst l
   have A:u=#[x]:=C9 (by simpa using k)
   have B:D=#[t]:=C9 (by simpa using n)
   subst A;subst B
   have:execOp ρ ⟨j,.call ⟨.builtin .len,#[x],#[t]⟩,type,pos,after,guard⟩=(Builtin.len_ #[t] type #[ρ x]>>=fun v=>(Pure.pure (Next.value v):Sem Next)):=by
    simp[execOp,resolve,invoke,Go.builtin]
   rw[this]
   exact⟨(ZLZ _ h).val,VV.val⟩
  ·cases h
 case nilCheck x=>
  have F:∀v:Value,Vp P (pure (.value v):Sem Next)∧VV P (pure (.value v):Sem Next):=fun v=>⟨.pure _,fun w r d e=>by cases e;exact⟨_,rfl⟩⟩
  have g:Vp P (runtimePanic .nilDeref:Sem Next)∧VV P (runtimePanic .nilDeref:Sem Next):=by
   have:∀w r d,(runtimePanic .nilDeref:Sem Next).run P w≠.ok r d:=fun w r d e=>by
    unfold runtimePanic at e
    simp only[Sem.run_bind,run_program,Result.andThen_ok]at e
    repeat(first|(cases e;done)|split at e|(simp[goPanic,stuck,unsupported,Sem.run]at e;done))
   exact⟨fun w r d e=>absurd e (this w r d),fun w r d e=>absurd e (this w r d)⟩
  show Vp P (execOp ρ _)∧_
  simp only[execOp]
  split
  ·exact g
  ·exact g
  ·exact g
  ·split
   ·exact g
   ·refine⟨Vp.program.bind fun p=>(y4 _ _ _ _).bind fun b=>?_,fun w r d e=>?_⟩
    ·split
     ·exact .halt _
     grind
    ·simp only[Sem.run_bind,run_program,Result.andThen_ok]at e
     cases hs:(nilAhead _ _ _ _).run P w with
     |halt x w'=>rw[hs]at e;cases e
     |ok a w'=>
      rw[hs]at e
      simp only[Result.andThen_ok]at e
      split at e
      ·cases e
      ·cases e;exact⟨_,rfl⟩
   grind
  ·grind
 case fieldAddr t x i=>
  refine⟨Vp.val ?_,VV.val⟩
  unfold Instr.fieldAt
  intro w r d e
  split at h
  ·rename_i E q
   split at h
   ·rename_i f m
    have s:P.cellsOf f.type≠0:=fun C=>by rw[C]at h;cases h
    have run:∀(ad:Addr) (w:World),(Instr.fieldAt t (.pointer (some ad)) i).run P w=.ok (.pointer (some (ad.add f.offset))) w:=fun ad w=>by
     simp[Instr.fieldAt,run_underlying q,m,Instr.sureAddr,fieldPlace,Ew s,s]
    have y:∀v:Value,(∀ad,v≠.pointer (some ad))→(Instr.fieldAt t v i).run P w≠.ok r d:=fun v G e=>by
     have hs:Instr.sureAddr v=.halt (.stuck "an address expected (no nilCheck in front?)"):=by
      unfold Instr.sureAddr
      split
      ·grind
      ·rfl
     simp only[Instr.fieldAt,Sem.run_bind,run_underlying q,Result.andThen_ok,m,hs]at e
     cases e
    change (Instr.fieldAt t (ρ x) i).run P w=.ok r d at e
    show d=w∧∀w2,(Instr.fieldAt t (ρ x) i).run P w2=.ok r w2
    grind
   ·cases h
  ·cases h
theorem T2(a:Addr):Rd P (load a):=fun w r b e=>by
 unfold load at e
 simp only[Sem.run]at e
 grind
theorem Tm(a:Addr):∀(n i:Nat) (b:Array Value),Rd P (loadCellsFrom a i n b)
 |0,i,b=>(Vp.pure _).rd
 |n+1,i,b=>by unfold loadCellsFrom;exact(T2 _).bind fun v=>Tm a n (i+1) _
theorem dG(t:TypeId)(a:Addr):Rd P (loadVar t a):=by
 unfold loadVar
 refine(MN t).rd.bind fun b=>?_
 cases b with
 |true=>exact(E0 t).rd.bind fun n=>(Tm a n 0 _).bind fun _=>(Vp.pure _).rd
 |false=>exact T2 a
theorem PH(h:Dl P o=true):Rd P (execOp ρ o)∧VV P (execOp ρ o):=by
 unfold Dl at h
 rw[YH]at h
 rcases h with h|h
 ·obtain⟨c,d⟩:=T4 (ρ:=ρ) h
  exact⟨c.rd,d⟩
 ·obtain⟨b,op,type,pos,after,guard⟩:=o
  cases op<;>simp only at h<;>first|(cases h;done)|skip
  refine⟨Rd.val ?_,VV.val⟩
  unfold Instr.loadAt
  refine Rd.bind ?_ fun a=>dG _ _
  unfold Instr.sureAddr
  split
  ·exact(Vp.pure _).rd
  ·exact(Vp.halt _).rd
def GK(w a:World):Prop:=∀(k:Nat) (o:Obj),w.heap[k]?=some o→a.heap[k]?=some o
theorem GK.refl(w:World):GK w w:=fun _ _ h=>h
theorem GK.cell{w d:World}{a:Addr}{v:Value}(h:GK w d)(b:w.cell? a=some v):d.cell? a=some v:=by
 unfold World.cell? at b⊢
 cases c:w.heap[a.block]? with
 |none=>rw[c]at b;cases b
 |some o=>rw[c]at b;rw[h _ _ c];exact b
theorem GK.seen{w d:World}{p:Program}{at_:Addr}{u:TypeId}{k:Addr}{b:Bool}(h:GK w d){r}(a:w.seen p at_ u k b=.ok r):d.seen p at_ u k b=.ok r:=by
 cases c:w.heap[at_.block]? with
 |none=>
  exfalso
  unfold World.seen at a
  rw[c]at a
  have T:∀(α:Type) (e:String),(MonadExcept.throw e:Except String α)=.error e:=fun _ _=>rfl
  simp only[bind,Except.bind,pure,Except.pure,throw,throwThe,T]at a
  grind
 |some o=>
  unfold World.seen at a⊢
  rw[h _ _ c]
  grind
theorem GK.far{w i:World}{p:Program}{a:Addr}{b:Bool}(h:GK w i){r}(c:w.farLoad p a b=.ok r):i.farLoad p a b=.ok r:=by
 unfold World.farLoad at c⊢
 cases g:w.heap[a.block]? with
 |none=>rw[g]at c;cases c
 |some o=>
  rw[g]at c
  rw[h _ _ g]
  cases o<;>simp only at c⊢<;>first|(cases c;done)|skip
  rename_i d u
  cases f:w.viewLoad p d u a b with
  |error e=>rw[f]at c;cases c
  |ok q=>
   rw[f]at c
   have:i.viewLoad p d u a b=.ok q:=by
    unfold World.viewLoad at f⊢
    cases hs:w.seen p d u a b with
    |error e=>rw[hs]at f;cases f
    |ok z=>rw[hs]at f;rw[h.seen hs];exact f
   grind
variable {α β:Type}
def Gj(P:Program)(s:Sem α):Prop:=∀w r a w2,s.run P w=.ok r a→GK w w2→s.run P w2=.ok r w2
theorem Vp.sta{s:Sem α}(h:Vp P s):Gj P s:=fun w r a w2 e _=>(h w r a e).2 w2
theorem Gj.bind{s:Sem α}{f:α→Sem β}(c:Rd P s)(h:Gj P s)(k:∀a,Gj P (f a)):Gj P (s>>=f):=fun w r d w2 e hx=>by
 rw[Sem.run_bind]at e⊢
 cases hs:s.run P w with
 |halt x w'=>rw[hs]at e;cases e
 |ok a w'=>
  rw[hs]at e
  have b:=c w a w' hs
  subst b
  rw[h _ _ _ _ hs hx]
  exact k a _ _ _ _ e hx
theorem ZoO(a:Addr):Gj P (load a):=fun w r g w2 e hx=>by
 unfold load at e⊢
 simp only[Sem.run]at e⊢
 cases d:w.cell? a with
 |some v=>rw[d]at e;rw[hx.cell d];cases e;rfl
 |none=>
  rw[d]at e
  cases b:w.farLoad P a (Mode.plain==Mode.atomic)with
  |error x=>rw[b]at e;cases e
  |ok q=>
   have f:w2.cell? a=none:=by
    unfold World.farLoad at b
    unfold World.cell?
    cases c:w.heap[a.block]? with
    |none=>rw[c]at b;cases b
    |some o=>
     rw[c]at b
     rw[hx _ _ c]
     grind
   rw[b]at e
   rw[f,hx.far b]
   grind
theorem yN(a:Addr):∀(n i:Nat) (b:Array Value),Gj P (loadCellsFrom a i n b)
 |0,i,b=>(Vp.pure _).sta
 |n+1,i,b=>by unfold loadCellsFrom;exact .bind (T2 _) (ZoO _) fun v=>yN a n (i+1) _
theorem ZmB(t:TypeId)(a:Addr):Gj P (loadVar t a):=by
 unfold loadVar
 refine .bind (MN t).rd (MN t).sta fun b=>?_
 cases b with
 |true=>exact .bind (E0 t).rd (E0 t).sta fun n=>.bind (Tm a n 0 _) (yN a n 0 _) fun _=>(Vp.pure _).sta
 |false=>exact ZoO a
theorem Zyi(h:Dl P o=true):Gj P (execOp ρ o):=by
 unfold Dl at h
 rw[YH]at h
 rcases h with h|h
 ·exact(T4 (ρ:=ρ) h).1.sta
 ·obtain⟨b,op,type,pos,after,guard⟩:=o
  cases op<;>simp only at h<;>first|(cases h;done)|skip
  have hs:∀v:Value,Rd P (Instr.sureAddr v)∧Gj P (Instr.sureAddr v):=fun v=>by
   unfold Instr.sureAddr
   split
   ·exact⟨(Vp.pure _).rd,(Vp.pure _).sta⟩
   ·exact⟨(Vp.halt _).rd,(Vp.halt _).sta⟩
  refine Gj.bind (s:=Instr.loadAt _ _) (Rd.bind (hs _).1 fun a=>dG _ _) (.bind (hs _).1 (hs _).2 fun a=>ZmB _ _) fun _=>(Vp.pure _).sta
def JX(o:Oper):Bool:=match o.op with|.buildSlice _ _ _=>true|.alloc _=>true|_=>false
theorem Zwu{w:World}{o:Obj}:GK w {w with heap:=w.heap.push o }:=fun k a h=>by
 grind
def Gr(P:Program)(s:Sem α):Prop:=∀w r a,s.run P w=.ok r a→GK w a
theorem Rd.gr{s:Sem α}(h:Rd P s):Gr P s:=fun w r a e=>by rw[h w r a e];exact .refl _
theorem Gr.bind{s:Sem α}{f:α→Sem β}(h:Gr P s)(k:∀a,Gr P (f a)):Gr P (s>>=f):=fun w r c e=>by
 rw[Sem.run_bind]at e
 cases hs:s.run P w with
 |halt x w'=>rw[hs]at e;cases e
 |ok a w'=>
  rw[hs]at e
  exact fun q o b=>k a _ _ _ e _ _ (h _ _ _ hs _ _ b)
theorem dV(t:TypeId)(cs:Array Value):Gr P (newRow t cs):=fun w r a e=>by
 unfold newRow newObj at e
 cases e
 exact Zwu
theorem ZjT(t:TypeId)(n:Nat)(ps:Array (Nat×Value)):Gr P (Instr.buildSlice t n ps):=by
 unfold Instr.buildSlice
 refine(Js t).rd.gr.bind fun d=>?_
 split
 ·refine(E0 _).rd.gr.bind fun size=>?_
  by_cases a:n*size>2^24
  ·rw[Yi a]
   intro w r c e
   cases e
  ·rw[Ym a]
   by_cases b:n*size=0
   ·rw[Yi b]
    refine Gr.bind (s:=Pure.pure _) (Vp.pure _).rd.gr fun z=>?_
    dsimp only
    split
    ·exact(dV _ _).bind fun _=>(Vp.pure _).rd.gr
    ·exact(Vp.halt _).rd.gr
   ·rw[Ym b]
    refine(dy _).rd.gr.bind fun z=>Gr.bind (s:=Pure.pure _) (Vp.pure _).rd.gr fun z=>?_
    dsimp only
    split
    ·exact(dV _ _).bind fun _=>(Vp.pure _).rd.gr
    ·exact(Vp.halt _).rd.gr
 ·exact(Vp.halt _).rd.gr
theorem ZE0(h:JX o=true):Gr P (execOp ρ o)∧VV P (execOp ρ o):=by
 obtain⟨a,op,type,pos,after,guard⟩:=o
 cases op<;>simp only[JX]at h<;>first|(cases h;done)|skip
 case buildSlice=>exact⟨(ZjT _ _ _).bind fun _=>(Vp.pure _).rd.gr,VV.val⟩
 case alloc t=>exact⟨Gr.bind (s:=Instr.alloc _ _ _) ((dy _).rd.gr.bind fun z=>Gr.bind (s:=newVar _ _) (dV _ _ |>.bind fun _=>(Vp.pure _).rd.gr) fun _=>(Vp.pure _).rd.gr) fun _=>(Vp.pure _).rd.gr,VV.val⟩
theorem ZrV(h:(Dl P o||JX o)=true):Gr P (execOp ρ o)∧VV P (execOp ρ o):=by
 rw[YH]at h
 rcases h with h|h
 ·exact⟨(PH h).1.gr,(PH h).2⟩
 ·exact ZE0 h
end
def OL(P:Program)(L:List Oper)(a:List Nat)(i:Nat)(b:Oper):Nat→List Oper→Bool
 |_,[]=>true
 |j,c::r=>(a.any (Nat.beq j)||Nat.beq j i||PO L i L.length j||(b.apart L.toArray c&&(D1 P b||(Dl P b&&(Dl P c||JX c)))))&&OL P L a i b (j+1) r
def QG(P:Program)(L:List Oper):List Nat→List Nat→Bool
 |a,[]=>(List.range L.length).all fun j=>a.any (Nat.beq j)
 |a,i::c=>(match Bk L i with
  |some b=>!(a.any (Nat.beq i))&&b.after.toList.all (fun e=>!Region.binds .any e||a.any (Nat.beq e.on))&&(match D1 P b with|true=>chkV P L a i b 0 L|false=>OL P L a i b 0 L)
  |none=>false)&&QG P L (i::a) c
where chkV (P:Program) (L:List Oper) (a:List Nat) (i:Nat) (b:Oper):Nat→List Oper→Bool
 |_,[]=>true
 |j,d::r=>(a.any (Nat.beq j)||Nat.beq j i||d.after.toList.any (fun e=>Region.binds .any e&&Nat.beq e.on i)||b.apart L.toArray d)&&chkV P L a i b (j+1) r
theorem Gt{l:List Nat}{j:Nat}:l.any (Nat.beq j)=true↔j∈l:=by
 rw[YR]
 exact⟨fun⟨x,hx,h⟩=>Yd h▸hx,fun h=>⟨j,h,Ru j⟩⟩
theorem Zux{P:Program}{L:List Oper}{a:List Nat}{i:Nat}{f:Oper}:∀{r:List Oper} {c k:Nat} {d:Oper},OL P L a i f c r=true→r[k]?=some d→
  (c+k)∈a∨c+k=i∨Waits L.toArray (c+k) i∨(f.apart L.toArray d=true∧(D1 P f=true∨Dl P f=true∧(Dl P d||JX d)=true))
 |[],c,k,d,_,h=>by simp at h
 |q::r,c,k,d,e,h=>by
  unfold OL at e
  rw[Yc]at e
  cases k with
  |zero=>
   simp only[Gl,Yk]at h
   subst h
   have b:=e.1
   simp only[YH,Yc]at b
   rcases b with((b|b)|b)|b
   ·exact .inl (Gt.1 b)
   ·exact .inr (.inl (Yd b))
   ·exact .inr (.inr (.inl (dw _ _ b)))
   grind
  |succ k=>
   have:=Zux (k:=k) e.2 (by simpa using h)
   grind
theorem ZqL{P:Program}{L:List Oper}{a:List Nat}{i:Nat}{j:Oper}:∀{r:List Oper} {c k:Nat} {d:Oper},QG.chkV P L a i j c r=true→r[k]?=some d→
  (c+k)∈a∨c+k=i∨(∃e∈d.after,Region.binds .any e=true∧e.on=i)∨j.apart L.toArray d=true
 |[],c,k,d,_,h=>by simp at h
 |q::r,c,k,d,f,h=>by
  unfold QG.chkV at f
  rw[Yc]at f
  cases k with
  |zero=>
   simp only[Gl,Yk]at h
   subst h
   have b:=f.1
   simp only[YH]at b
   rcases b with((b|b)|b)|b
   ·exact .inl (Gt.1 b)
   ·exact .inr (.inl (Yd b))
   ·obtain⟨e,he,g⟩:=YR.1 b
    rw[Yc]at g
    exact .inr (.inr (.inl ⟨e,by simpa using he,g.1,Yd g.2⟩))
   grind
  |succ k=>
   have:=ZqL (k:=k) f.2 (by simpa using h)
   grind
def perm(π:List Nat):Code→Code
 |.region id ops _=>.region id (π.filterMap (Bk ops.toList)).toArray false
 |c=>c
def WI(o:Oper):Bool:=(match o.guard with|none=>true|_=>false)&&(match o.op with|.select _ _=>false|_=>true)
def pb:Value→Option Nat
 |.pointer (some a)=>some a.block
 |_=>none
def ES(w:World)(b:Nat):Prop:=∃C e f,w.heap[b]?=some (.cells C e f)
section
variable {P:Program} {α β:Type}
theorem ZqU{v:Value}{a:Addr}{w b:World}(h:(Instr.sureAddr v).run P w=.ok a b):v=.pointer (some a)∧b=w:=by
 unfold Instr.sureAddr at h
 split at h
 ·cases h;exact⟨rfl,rfl⟩
 ·cases h
def Lo(b:Nat)(P:Program)(s:Sem α):Prop:=∀w r a w2,s.run P w=.ok r a→ES w b→w2.heap[b]?=w.heap[b]?→s.run P w2=.ok r w2
theorem Vp.lo{b:Nat}{s:Sem α}(h:Vp P s):Lo b P s:=fun w r a w2 e _ _=>(h w r a e).2 w2
theorem Lo.bind{b:Nat}{s:Sem α}{f:α→Sem β}(g:Rd P s)(h:Lo b P s)(k:∀a,Lo b P (f a)):Lo b P (s>>=f):=fun w r i w2 e c d=>by
 rw[Sem.run_bind]at e⊢
 cases hs:s.run P w with
 |halt x w'=>rw[hs]at e;cases e
 |ok a w'=>
  rw[hs]at e
  have:=g w a w' hs
  subst this
  rw[h _ _ _ _ hs c d]
  exact k a _ _ _ _ e c d
theorem ZqN(a:Addr):Lo a.block P (load a):=fun w r h w2 e ⟨C,t,f,d⟩ c=>by
 unfold load at e⊢
 simp only[Sem.run]at e⊢
 have g:w2.cell? a=w.cell? a:=World.cell?_of_block c
 rw[g]
 cases b:w.cell? a with
 |some v=>rw[b]at e;cases e;rfl
 |none=>
  rw[b]at e
  have:w.farLoad P a (Mode.plain==Mode.atomic)=.error (w.noCell a "load: no such cell"):=by unfold World.farLoad;rw[d]
  grind
theorem yL(a:Addr):∀(n i:Nat) (b:Array Value),Lo a.block P (loadCellsFrom a i n b)
 |0,i,b=>(Vp.pure _).lo
 |n+1,i,b=>by
  unfold loadCellsFrom
  refine .bind (T2 _) ?_ fun v=>yL a n (i+1) _
  have:=ZqN (P:=P) (a.add i)
  rwa [block_add]at this
theorem Zpi(t:TypeId)(a:Addr):Lo a.block P (loadVar t a):=by
 unfold loadVar
 refine .bind (MN t).rd (MN t).lo fun b=>?_
 cases b with
 |true=>exact .bind (E0 t).rd (E0 t).lo fun n=>.bind (Tm a n 0 _) (yL a n 0 _) fun _=>(Vp.pure _).lo
 |false=>exact ZqN a
theorem ZFl{ρ:Operand→Value}{o:Oper}{t:TypeId}{x:Operand}{w w2:World}{v:Value}(g:o.op=.load t x)(e:(execOp ρ o).run P w=.ok (.value v) w):
  ∃b,pb (ρ x)=some b∧(ES w b→w2.heap[b]?=w.heap[b]?→(execOp ρ o).run P w2=.ok (.value v) w2):=by
 obtain⟨c,op,type,pos,after,guard⟩:=o
 cases g
 change ((Instr.loadAt t (ρ x))>>=fun y=>(pure (Next.value y):Sem Next)).run P w=_ at e
 show∃b,pb (ρ x)=some b∧(_→_→((Instr.loadAt t (ρ x))>>=fun y=>(pure (Next.value y):Sem Next)).run P w2=_)
 generalize ρ x=q at e⊢
 have:∃a,q=.pointer (some a):=by
  cases hs:(Instr.sureAddr q).run P w with
  |halt _ _=>unfold Instr.loadAt at e;simp only[Sem.run_bind,hs]at e;cases e
  |ok a w'=>exact⟨a,(ZqU hs).1⟩
 obtain⟨a,rfl⟩:=this
 exact⟨a.block,rfl,fun d f=>Lo.bind (Rd.bind (Vp.pure a).rd fun a=>dG t a) (Zpi t a) (fun _=>(Vp.pure _).lo) _ _ _ _ e d f⟩
def So(b:Nat)(P:Program)(s:Sem α):Prop:=∀w r a,s.run P w=.ok r a→ES w b→ES a b∧∀k,k≠b→a.heap[k]?=w.heap[k]?
theorem Rd.so{b:Nat}{s:Sem α}(h:Rd P s):So b P s:=fun w r c e a=>by rw[h w r c e];exact⟨a,fun _ _=>rfl⟩
theorem So.bind{b:Nat}{s:Sem α}{f:α→Sem β}(h:So b P s)(k:∀a,So b P (f a)):So b P (s>>=f):=fun w r l e d=>by
 rw[Sem.run_bind]at e
 cases hs:s.run P w with
 |halt x w'=>rw[hs]at e;cases e
 |ok a w'=>
  rw[hs]at e
  obtain⟨c,g⟩:=h _ _ _ hs d
  obtain⟨i,j⟩:=k a _ _ _ e c
  grind
theorem Zx8(a:Addr)(v:Value):So a.block P (store a v):=fun w r b e ⟨C,t,f,c⟩=>by
 unfold store at e
 have key:∀b,b=w.setCell a v→ES b a.block∧∀k,k≠a.block→b.heap[k]?=w.heap[k]?:=fun b e=>by
  subst e
  unfold World.setCell
  constructor
  ·refine⟨(if a.spot.isSome then C else C.setIfInBounds a.off v),t,f,?_⟩
   show(w.heap.modify a.block _)[a.block]?=_
   rw[jK,c]
   simp
  ·intro k g
   show(w.heap.modify a.block _)[k]?=_
   rw[jK]
   simp[Ne.symm g]
 cases v<;>simp only[Sem.run]at e<;>first
  |(cases e;done)
  |(cases d:w.cell? a with
    |some x=>
     rw[d]at e
     simp only at e
     split at e
     ·cases e
     ·cases e;exact key _ rfl
    |none=>
     rw[d]at e
     unfold World.farStore at e
     rw[c]at e
     cases e)
theorem yM(a:Addr):∀(vs:List Value) (i:Nat),So a.block P (storeCells a vs i)
 |[],i=>(Vp.pure _).rd.so
 |v::r,i=>by
  unfold storeCells
  refine So.bind ?_ fun _=>yM a r (i+1)
  have:=Zx8 (P:=P) (a.add i) v
  rwa [block_add]at this
theorem Zmd(t:TypeId)(a:Addr)(v:Value):So a.block P (storeVar t a v):=by
 unfold storeVar
 refine(E0 t).rd.so.bind fun n=>?_
 by_cases h:v.cells.size≠n
 ·rw[Yi h]
  intro w r b e
  cases e
 ·rw[Ym h]
  exact yM a _ 0
theorem ZG2{ρ:Operand→Value}{o:Oper}{t:TypeId}{x y:Operand}{w c:World}{r:Next}(h:o.op=.store t x y)(e:(execOp ρ o).run P w=.ok r c):
  r=.skip∧∃b,pb (ρ x)=some b∧(ES w b→ES c b∧∀k,k≠b→c.heap[k]?=w.heap[k]?):=by
 obtain⟨d,op,type,pos,after,guard⟩:=o
 cases h
 change ((Instr.storeAt t (ρ x) (ρ y))>>=fun _=>(pure Next.skip:Sem Next)).run P w=_ at e
 generalize ρ x=q at e⊢
 generalize ρ y=v at e
 have f:r=.skip:=by
  rw[Sem.run_bind]at e
  cases hs:(Instr.storeAt t q v).run P w with
  |halt _ _=>rw[hs]at e;cases e
  |ok _ _=>rw[hs]at e;cases e;rfl
 refine⟨f,?_⟩
 have:∃a,q=.pointer (some a):=by
  cases hs:(Instr.sureAddr q).run P w with
  |halt _ _=>unfold Instr.storeAt at e;simp only[Sem.run_bind,hs]at e;cases e
  |ok a w'=>exact⟨a,(ZqU hs).1⟩
 obtain⟨a,rfl⟩:=this
 exact⟨a.block,rfl,fun g=>So.bind (Zmd t a v) (fun _=>(Vp.pure _).rd.so) _ _ _ e g⟩
end
def JN(z:Nat):List (Nat×Nat)→Option Nat
 |[]=>none
 |(d,r)::l=>match Nat.beq d z with|true=>some r|false=>JN z l
theorem K2{z r:Nat}:∀{l:List (Nat×Nat)},JN z l=some r→(z,r)∈l
 |(d,q)::l,h=>by
  unfold JN at h
  split at h
  ·rename_i e;cases h;rw[Yd e];exact Yz ..
  ·exact Yw _ (K2 h)
def Ln:Operand→Option Nat
 |.tmp z=>some z
 |_=>none
def Lm(P:Program)(o:Oper):Option Nat:=match D1 P o with
 |true=>(match o.op with
  |.fieldAddr _ x _=>Ln x
  |.move x=>Ln x
  |.nilCheck x=>Ln x
  |_=>none)
 |false=>none
def DQ(P:Program)(env:List (Nat×Nat))(o:Oper):List (Nat×Nat):=match o.dst with
 |none=>env
 |some d=>(match Lm P o with|some z=>(match JN z env with|some r=>[(d,r)]|none=>[])|none=>[])++env.filter fun p=>!Nat.beq p.1 d
def Wq(P:Program)(env:List (Nat×Nat))(o:Oper):Bool:=Dl P o||JX o||match o.op with
 |.store _ (.tmp y) _=>(JN y env).isSome
 |_=>false
def J(β:Nat→Nat)(env:List (Nat×Nat))(a:Act)(w:World):Prop:=∀p∈env,∀b,pb (a.eval (.tmp p.1))=some b→b=β p.2∧ES w b
def Zut:Next→Option Value
 |.value v=>some v
 |.skip=>some undef
 |_=>none
section
variable {P:Program} {β:Nat→Nat} {env:List (Nat×Nat)} {a:Act} {w w':World} {o:Oper} {n:Next}
theorem z1(h:Wq P env o=true)(l:J β env a w)(e:(execOp a.eval o).run P w=.ok n w'):(∃u,Zut n=some u)∧∀b,ES w b→ES w' b:=by
 unfold Wq at h
 rw[YH]at h
 rcases h with h|h
 ·obtain⟨c,d⟩:=ZrV (ρ:=a.eval) h
  obtain⟨v,rfl⟩:=d _ _ _ e
  exact⟨⟨v,rfl⟩,fun b ⟨C,t,f,g⟩=>⟨C,t,f,c _ _ _ e _ _ g⟩⟩
 ·split at h
  ·rename_i t y v p
   obtain⟨rfl,i,c,d⟩:=ZG2 p e
   obtain⟨r,q⟩:=Y5.1 h
   obtain⟨_,j⟩:=l _ (K2 q) _ c
   obtain⟨s,k⟩:=d j
   refine⟨⟨_,rfl⟩,fun b ⟨C,t,f,g⟩=>?_⟩
   by_cases m:b=i
   ·grind
   ·exact⟨C,t,f,(k b m).trans g⟩
  ·cases h
theorem TP{x:Operand}{z:Nat}(h:Ln x=some z):x=.tmp z:=by
 cases x<;>simp only[Ln]at h<;>first|(cases h;done)|skip
 grind
theorem nJ{z:Nat}{b:Nat}{v:Value}(hs:Lm P o=some z)(e:(execOp a.eval o).run P w=.ok (.value v) w')(c:pb v=some b):pb (a.eval (.tmp z))=some b:=by
 unfold Lm at hs
 cases d:D1 P o with
 |false=>rw[d]at hs;cases hs
 |true=>
  rw[d]at hs
  obtain⟨l,op,type,pos,after,guard⟩:=o
  cases op<;>simp only at hs<;>first|(cases hs;done)|skip
  case move x=>rw[←TP hs];cases e;exact c
  case nilCheck x=>
   rw[←TP hs]
   have s:∀w r k,(runtimePanic .nilDeref:Sem Next).run P w≠.ok r k:=fun w r k e=>by
    unfold runtimePanic at e
    simp only[Sem.run_bind,run_program,Result.andThen_ok]at e
    repeat(first|(cases e;done)|split at e|(simp[goPanic,stuck,unsupported,Sem.run]at e;done))
   simp only[execOp]at e
   split at e
   ·grind
   ·grind
   ·grind
   ·split at e
    ·grind
    ·simp only[Sem.run_bind,run_program,Result.andThen_ok]at e
     cases hs:(nilAhead _ _ _ _).run P w with
     |halt x w'=>rw[hs]at e;cases e
     |ok q w'=>
      rw[hs]at e
      simp only[Result.andThen_ok]at e
      split at e
      ·cases e
      ·cases e;first|exact c|cases c
    ·cases e;first|exact c|cases c
   ·cases e;first|exact c|cases c
  case fieldAddr t x i=>
   rw[←TP hs]
   simp only[D1]at d
   split at d
   ·rename_i p h
    split at d
    ·rename_i f g
     have j:P.cellsOf f.type≠0:=fun m=>by rw[m]at d;cases d
     have run:∀(ad:Addr) (w:World),(Instr.fieldAt t (.pointer (some ad)) i).run P w=.ok (.pointer (some (ad.add f.offset))) w:=fun ad w=>by
      simp[Instr.fieldAt,run_underlying h,g,Instr.sureAddr,fieldPlace,Ew j,j]
     change ((Instr.fieldAt t (a.eval x) i)>>=fun y=>(pure (Next.value y):Sem Next)).run P w=_ at e
     generalize a.eval x=q at e⊢
     by_cases n:∃ad,q=.pointer (some ad)
     ·obtain⟨ad,rfl⟩:=n
      rw[Sem.run_bind,run]at e
      cases e
      simp only[pb,block_add]at c
      exact c
     ·exfalso
      have hs:Instr.sureAddr q=.halt (.stuck "an address expected (no nilCheck in front?)"):=by
       unfold Instr.sureAddr
       split
       ·grind
       ·rfl
      simp only[Instr.fieldAt,Sem.run_bind,run_underlying h,Result.andThen_ok,g,hs]at e
      cases e
    grind
   ·cases d
theorem J.put(g:J β env a w)(y:Wq P env o=true)(e:(execOp a.eval o).run P w=.ok n w'){u:Value}(A:Zut n=some u):J β (DQ P env o) (a.put o.dst u) w':=by
 have l:=(z1 y g e).2
 unfold DQ
 have ev:∀z:Nat,(∀d,o.dst=some d→z≠d)→(a.put o.dst u).eval (.tmp z)=a.eval (.tmp z):=fun z j=>Act.eval_put fun d i hx=>j d i (by cases hx;rfl)
 cases i:o.dst with
 |none=>
  intro p c b f
  rw[←i,ev _ (fun d h=>by rw[i]at h;cases h)]at f
  exact⟨(g p c b f).1,l _ (g p c b f).2⟩
 |some d=>
  intro p c b f
  rw[D6]at c
  rcases c with c|c
  ·split at c
   ·rename_i z j
    split at c
    ·rename_i r x
     obtain rfl:=Y3.1 c
     simp only at f⊢
     have q:n=.value u:=by
      have:Dl P o=true:=by
       unfold Lm at j
       unfold Dl
       cases B:D1 P o with
       |true=>rfl
       |false=>rw[B]at j;cases j
      obtain⟨v,rfl⟩:=(PH (ρ:=a.eval) this).2 _ _ _ e
      cases A
      rfl
     subst q
     have k:pb u=some b:=by
      have:(a.put (some d) u).eval (.tmp d)=u∨(a.put (some d) u).eval (.tmp d)=undef:=by
       simp only[Act.eval,Act.put,YC,Rq]
       split
       ·rename_i h
        split<;>simp_all
       ·simp_all
      rcases this with h|h
      ·rw[h]at f;exact f
      ·rw[h]at f;cases f
     obtain⟨s,t⟩:=g _ (K2 x) _ (nJ j e k)
     exact⟨s,l _ t⟩
    ·cases c
   ·cases c
  ·rw[Du]at c
   have m:p.1≠d:=fun he=>by have:=c.2;rw[he,Ru]at this;cases this
   rw[←i,ev _ (fun d' h=>by rw[i]at h;cases h;exact m)]at f
   exact⟨(g p c.1 b f).1,l _ (g p c.1 b f).2⟩
def jU(env:List (Nat×Nat))(o:Oper):Bool:=match o.dst with
 |none=>true
 |some d=>env.all fun p=>!Nat.beq p.1 d
theorem J.keep(c:J β env a w)(k:Wq P env o=true)(g:jU env o=true)(e:(execOp a.eval o).run P w=.ok n w'){u:Value}:J β env (a.put o.dst u) w':=by
 have i:=(z1 k c e).2
 intro p h b f
 have:(a.put o.dst u).eval (.tmp p.1)=a.eval (.tmp p.1):=Act.eval_put fun d j hx=>by
  cases hx
  unfold jU at g
  rw[j]at g
  have:=Yu.1 g p h
  rw[Ru]at this
  cases this
 rw[this]at f
 exact⟨(c p h b f).1,i _ (c p h b f).2⟩
end
end Go.Eng
