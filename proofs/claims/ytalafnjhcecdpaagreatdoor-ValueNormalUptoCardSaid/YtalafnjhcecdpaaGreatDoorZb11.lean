import Derived.Test.YtalafnjhcecdpaaGreatDoorZb10
import Derived.Test.YtalafnjhcecdpaaGreatDoorZb00
namespace Go.Eng
set_option linter.all false
open Go Go.RowKit
def Dr:Nat→List Blk→List (Ad×Blk)
 |_,[]=>[]
 |i,b::bs=>((0,i),b)::Dr (i+1) bs
abbrev Cl:=(Ad→Prop)→Nat→Hp→(Nat→AV)→Prop
structure KO (P:Program) (f:FuncId) (os:Nat) (ys:List AV) (bi:List Blk) (Θ:Cl) {γ:Type} (M:Option γ) (e:γ→AV) (bs:γ→List Blk):Prop where
 k:∀l H (ks:List Ad) (gs:List Nat) (θ:Nat→AV),ks.length=os→Jx l ks→ks.Nodup→JM H (Cr l ks gs θ H) (Dr 0 bi) 0 ks→Θ (fun k=>k∈ks) l H θ→∀y,M=some y→
  ZcG P f l (Am (Cr l ks gs θ H) ys) H (fun z H'=>z=ren (Cr l ks gs θ H) (e y)∧H'=DB H ks (CR (Cr l ks gs θ H) 0 (bs y)))
mutual
def JE(os:Nat):AV→Bool
 |.ref k _ _ _=>Nat.beq k.1 0&&Nat.ble (k.2+1) os
 |.ptr k _ _=>Nat.beq k.1 0&&Nat.ble (k.2+1) os
 |.mp k _=>Nat.beq k.1 0&&Nat.ble (k.2+1) os
 |.fn f xs ys=>(match f with|.yield _=>false|_=>true)&&Jr os xs&&Jr os ys
 |.agg xs=>Jr os xs
 |.tup xs=>Jr os xs
 |.top=>true
 |.d _=>true
 |.e0=>true
 |.p _=>true
 |.iptr _ _=>true
 |.ifc _ _ _=>true
def Jr(os:Nat):List AV→Bool
 |[]=>true
 |x::xs=>JE os x&&Jr os xs
end
def Na(os:Nat)(r a:Ren):Prop:=∀q,q<os→r.κ (0,q)=a.κ (0,q)∧r.γ (0,q)=a.γ (0,q)
theorem cg{os:Nat}{r c:Ren}(hs:Na os r c){k:Ad}(h:(Nat.beq k.1 0&&Nat.ble (k.2+1) os)=true):r.κ k=c.κ k∧r.γ k=c.γ k:=by
 simp only[Yc]at h
 obtain⟨a,b⟩:=k
 have d:=Yb h.1
 have e:=Yg h.2
 simp only at d e
 subst d
 exact hs b e
mutual
theorem bS{os:Nat}{r c:Ren}(hs:Na os r c):∀x:AV,JE os x=true→ren r x=ren c x
 |.ref k g off n,h=>by obtain⟨a,b⟩:=cg hs h;simp only[ren,a,b]
 |.ptr k g off,h=>by obtain⟨a,b⟩:=cg hs h;simp only[ren,a,b]
 |.mp k g,h=>by obtain⟨a,b⟩:=cg hs h;simp only[ren,a,b]
 |.fn f xs ys,h=>by
  simp only[JE,Yc]at h
  have a:=MI hs xs h.1.2
  have b:=MI hs ys h.2
  cases f<;>first|(simp only[ren,a,b];done)|(simp at h)
 |.agg xs,h=>by simp only[JE]at h;simp only[ren,MI hs xs h]
 |.tup xs,h=>by simp only[JE]at h;simp only[ren,MI hs xs h]
 |.top,_=>by simp[ren]
 |.d _,_=>by simp[ren]
 |.e0,_=>by simp[ren]
 |.p _,_=>by simp[ren]
 |.iptr _ _,_=>by simp[ren]
 |.ifc _ _ _,_=>by simp[ren]
theorem MI{os:Nat}{r a:Ren}(hs:Na os r a):∀xs:List AV,Jr os xs=true→Am r xs=Am a xs
 |[],_=>by simp[Am]
 |x::xs,h=>by
  simp only[Jr,Yc]at h
  simp only[Am,bS hs x h.1,MI hs xs h.2]
end
def FO(os:Nat):List Blk→Prop
 |[]=>True
 |b::bs=>(HZ b.cells∨Jr os b.cells=true)∧b.live=true∧FO os bs
theorem FO.ren{os:Nat}{r a:Ren}(hs:Na os r a):∀(bs:List Blk) (i:Nat),i+bs.length≤os→FO os bs→CR r i bs=CR a i bs
 |[],_,_,_=>rfl
 |b::bs,i,hl,h=>by
  simp only[Eg]at hl
  have d:Am r b.cells=Am a b.cells:=by
   rcases h.1 with c|e
   ·rw[IS c,IS c]
   ·exact MI hs _ e
  simp only[CR,FO.ren hs bs (i+1) (by omega) h.2.2,AG,d,(hs i (by omega)).2]
theorem FO.live{os:Nat}:∀{bs:List Blk},FO os bs→∀b∈bs,b.live=true
 |c::bs,h,b,a=>by
  rcases Yu.1 a with rfl|a
  ·exact h.2.1
  ·exact FO.live h.2.2 b a
theorem I4:HZ []:=fun x hx=>by cases hx
theorem C8{P:Program}{T:Nat→Option TI}{n:Nat}{f:FuncId}{fn:Func}{ys:List AV}{bi:List Blk}{Θ:Cl}{γ:Type}{M:Option γ}{e:γ→AV}{bs:γ→List Blk}(I:P.funcs[f]?=some fn)(J:fn.ntmps=n)(F:A9 P T)(u:List ResultVar)(os:Nat)
  (h:∀C:Cx,CO C os→Θ C.no C.l C.H0 C.θ→∀y,M=some y→∀a:AV→List Blk→Prop,HL (fun y=>a (e y) (bs y)) y→LW P n C (pa [] (At fn)) (Ac (DG 0 ys) (Dr 0 bi)) (FQ T u os a))
  (he:∀y,JE os (e y)=true:=by intro y;kernel_rfl) (v:∀y,FO os (bs y):=by intro y;repeat(first|exact trivial|refine⟨.inl (EO _ _),rfl,?_⟩|refine⟨.inl I4,rfl,?_⟩|refine⟨.inr (by kernel_rfl),rfl,?_⟩)) (hl:∀y,(bs y).length=os:=by intro y;rfl) (o:In os (Dr 0 bi)=true:=by kernel_rfl)
  (G:fn.body=some (At fn):=by kernel_rfl) (c:(fn.name== "runtime.NumGoroutine")=false:=by kernel_rfl) (d:fn.results.toList=u:=by kernel_rfl) (hx:Nat.ble ys.length n=true:=by kernel_rfl):KO P f os ys bi Θ M e bs:=
 ⟨fun l H ks g θ p i t D hΘ y hy=>by
  have hN:∀r,IF l ks g r→Na os r (Cr l ks g θ H):=fun r d q K=>by
   obtain⟨w,x⟩:=d
   exact⟨congrFun w _,x q (by omega)⟩
  refine Zmu u (At fn) ks g os θ ys (Dr 0 bi) (e y) (bs y) (Y':=ren (Cr l ks g θ H) (e y)) (bs':=CR (Cr l ks g θ H) 0 (bs y)) I G c J d (by rw[CF];exact Yg hx) F p i t o D rfl (hl y) (v y).live
   (fun r d=>bS (hN r d) _ (he y)) (fun r d=>FO.ren (hN r d) _ _ (by rw[hl];omega) (v y)) (fun C A E B s m L N j=>?_) ⟨rfl,rfl⟩
  refine h C ⟨A,E,B,fun q K=>?_⟩ (by rw[j,s,m,L];exact hΘ) y hy (fun z b=>z=e y∧b=bs y) ⟨rfl,rfl⟩
  rw[j,N]
  show(match Bi ks q with|some k=>k|none=>(0,0))∈ks
  rw[Co,Ya (by omega)]
  exact IL _⟩
def E2(r:Ren):List (Ad×Blk)→List Nat
 |[]=>[]
 |(k,b)::a=>(r.γ k+b.g)::E2 r a
def BE(r a:Ren):Nat→List Blk→List (Ad×Blk)→Prop
 |i,b::bs,(k,c)::cs=>(b.live=true→c.live=true∧AG r (0,i) b=AG a k c)∧r.γ (0,i)+b.g=a.γ k+c.g∧BE r a (i+1) bs cs
 |_,[],[]=>True
 |_,_,_=>False
def GY:List Ad→Bool
 |[]=>true
 |k::ks=>!(ks.any (BA k))&&GY ks
theorem O3{κ:Ad→Ad}{os:Nat}(a:∀q k:Ad,BB os q=true→BB os k=true→q≠k→κ q≠κ k):∀(ks:List Ad),GY ks=true→ks.all (BB os)=true→(ks.map κ).Nodup
 |[],_,_=>List.nodup_nil
 |k::ks,h,b=>by
  simp only[GY,Yc,YU]at h
  simp only[II,Yc]at b
  rw[YV,List.nodup_cons]
  refine⟨fun hm=>?_,O3 a ks h.2 b.2⟩
  obtain⟨q,d,e⟩:=YR.1 hm
  have c:q≠k:=fun e'=>Tu h.1 (e'▸d)
  grind
section
variable {P:Program} {f:FuncId} {os os':Nat} {ys:List AV} {bi:List Blk} {Θ:Cl} {γ:Type} {M:Option γ} {e:γ→AV} {bs:γ→List Blk} {C:Cx} {r:Ren} {xs:List AV} {x:AV} {y:γ}
theorem TE{fx:List Nat}(co:COx C os' fx)(g:Gd C r):∀q k:Ad,BB os' q=true→BB os' k=true→q≠k→r.κ q≠r.κ k:=by
 intro q k m j l he
 rw[g.κ]at he
 rcases Gm m with e|⟨e,h⟩<;>rcases Gm j with f|⟨f,i⟩
 ·obtain⟨a,b⟩:=q
  obtain⟨c,d⟩:=k
  simp only at e f
  subst e;subst f
  rw[co.ok.own,co.ok.own]at he
  grind
 ·obtain⟨a,b⟩:=q
  obtain⟨c,d⟩:=k
  simp only at e f i
  subst e;subst f
  rw[co.ok.own]at he
  have:=co.ok.out d (by rw[co.O];exact i)
  grind
 ·obtain⟨a,b⟩:=q
  obtain⟨c,d⟩:=k
  simp only at e h f
  subst e;subst f
  rw[co.ok.own]at he
  have:=co.ok.out b (by rw[co.O];exact h)
  grind
 ·obtain⟨a,b⟩:=q
  obtain⟨c,d⟩:=k
  simp only at e h f i
  subst e;subst f
  have:=co.ok.inj b d (by rw[co.O];exact h) (by rw[co.O];exact i) he
  grind
theorem MU{fx:List Nat}(co:COx C os' fx)(g:Gd C r):∀(ks:List Ad),ks.all (BB os')=true→Jx (C.l+1) (ks.map r.κ)
 |[],_=>trivial
 |k::ks,h=>by
  simp only[II,Yc]at h
  refine⟨?_,MU co g ks h.2⟩
  rw[g.κ]
  obtain⟨a,b⟩:=k
  rcases Gm h.1 with c|⟨c,d⟩
  ·simp only at c;subst c;rw[co.ok.own];exact Yf _
  ·simp only at c d;subst c;exact QZ (co.ok.out b (by rw[co.O];exact d))
theorem Po:∀(bi:List Blk) (i j:Nat),AA (Dr i bi) (0,i+j)=(bi[j]?).getD EZ
 |[],i,j=>by simp[Dr,AA]
 |b::bi,i,0=>by simp[Dr,AA,BA]
 |b::bi,i,j+1=>by
  have a:=Po bi (i+1) j
  simp only[Dr,AA]
  have:BA (0,i) (0,i+(j+1))=false:=by
   simp only[BA,LG]
   right
   cases h:Nat.beq i (i+(j+1))with
   |false=>rfl
   |true=>have:=Yb h;omega
  grind
theorem Pv{l:Ren}{d:Hp}:∀(bi:List Blk) (a:List (Ad×Blk)) (i:Nat) (B:List Blk),(∀j,AA (Dr 0 B) (0,i+j)=(bi[j]?).getD EZ)→BE l r i bi a→
  (∀p∈a,(d (r.κ p.1)).g=r.γ p.1+p.2.g∧(p.2.live=true→d (r.κ p.1)=AG r p.1 p.2))→JM d l (Dr 0 B) i ((a.map (·.1)).map r.κ)
 |[],[],i,B,_,_,_=>trivial
 |b::bi,(k,c)::a,i,B,f,h,g=>by
  have e:=f 0
  simp only[FZ,YT,FY]at e
  obtain⟨o,q,m⟩:=h
  refine⟨?_,Pv bi a (i+1) B (fun j=>?_) m fun p n=>g p (Yw _ n)⟩
  ·rw[e]
   have s:=g _ (Yv ..)
   grind
  ·have:=f (j+1)
   grind
 |[],_::_,_,_,_,h,_=>h.elim
 |_::_,[],_,_,_,h,_=>h.elim
theorem ZsL{H:Hp}{k:Ad}:updH H k (H k)=H:=by
 funext q
 by_cases h:q=k
 ·subst h;exact AO ..
 ·exact AC _ _ h
theorem a6{g:Ren}{d:Hp}:∀(bi:List Blk) (a:List (Ad×Blk)) (i:Nat),BE g r i bi a→(∀b∈bi,b.live=true)→(∀p∈a,p.2.live=true→d (r.κ p.1)=AG r p.1 p.2)→DB d ((a.map (·.1)).map r.κ) (CR g i bi)=d
 |[],[],_,_,_,_=>rfl
 |b::bi,(k,c)::a,i,h,hl,f=>by
  obtain⟨l,q,m⟩:=h
  have e:=l (hl b (Yv ..))
  have j:=f _ (Yv ..) e.1
  simp only[YV,DB,CR]
  rw[e.2,←j,ZsL]
  exact a6 bi a (i+1) m (fun b n=>hl b (Yw _ n)) fun p o=>f p (Yw _ o)
 |[],_::_,_,h,_,_=>h.elim
 |_::_,[],_,h,_,_=>h.elim
theorem bf{j:Ren}:∀(d:List Blk) (f a:List (Ad×Blk)) (i:Nat) (g:Hp),BE j r i d a→(∀b∈d,b.live=true)→f.map (·.1)=a.map (·.1)→DB g ((f.map (·.1)).map r.κ) (CR j i d)=De r a g
 |[],[],[],_,_,_,_,_=>rfl
 |[],_::_,[],_,_,_,_,h=>by cases h
 |b::d,[],_::_,_,_,_,_,h=>by cases h
 |b::d,(k,c)::f,(q,o)::a,i,g,h,hl,he=>by
  obtain⟨l,p,m⟩:=h
  simp only[YV,List.cons.injEq]at he
  obtain⟨rfl,he⟩:=he
  have e:=l (hl b (Yv ..))
  simp only[YV,DB,CR,De]
  rw[e.2]
  exact bf d f a (i+1) _ m (fun b n=>hl b (Yw _ n)) he
 |_::_,_,[],_,_,h,_,_=>h.elim
 |[],_,_::_,_,_,h,_,_=>h.elim
def rC(C:Cx)(r:Ren)(a:List (Ad×Blk))(θ:Nat→AV)(H:Hp):Ren:=Cr (C.l+1) ((a.map (·.1)).map r.κ) (E2 r a) θ H
def Th(Θ:Cl)(C:Cx)(r:Ren)(b c:List (Ad×Blk))(θ:Nat→AV):Prop:=
 ∀a,(∀p∈c,(a (r.κ p.1)).g=r.γ p.1+p.2.g∧(p.2.live=true→a (r.κ p.1)=AG r p.1 p.2))→(∀k:Ad,k.1≤C.l→¬r.no k→a k=r.H0 k)→Θ (fun k=>k∈(b.map (·.1)).map r.κ) (C.l+1) a θ
theorem Dm(K:KO P f os ys bi Θ M e bs)(hy:M=some y){fx:List Nat}(co:COx C os' fx)(g:Gd C r)(a k:List (Ad×Blk))(θ:Nat→AV)(hΘ:Th Θ C r a (a++k) θ)(l:∀H,BE (rC C r a θ H) r 0 bi a)(t:bs y=bi:=by rfl)(n:bi.all Blk.live=true:=by kernel_rfl)(i:(a++k).all (fun p=>p.2.live)=true:=by kernel_rfl)(hx:∀H,Am (rC C r a θ H) ys=Am r xs:=by intro H;kernel_rfl)(u:∀H,ren (rC C r a θ H) (e y)=ren r x:=by intro H;kernel_rfl)
  (m:((a.map (·.1)).all (BB os')&&GY (a.map (·.1))&&Nat.beq a.length os)=true:=by kernel_rfl):G2 P C.l r f xs (a++k) x:=by
 intro d v D
 have s:∀b∈bi,b.live=true:=fun b E=>Yq.1 n b E
 have o:∀p∈a++k,p.2.live=true:=fun p c=>Yq.1 i p c
 have h:∀p∈a,p∈a++k:=fun p c=>Hy _ c
 simp only[Yc]at m
 have q:∀p∈a++k,(d (r.κ p.1)).g=r.γ p.1+p.2.g∧(p.2.live=true→d (r.κ p.1)=AG r p.1 p.2):=fun p c=>⟨by rw[v p c (o p c)];rfl,v p c⟩
 have:=K.k (C.l+1) d ((a.map (fun p:Ad×Blk=>p.1)).map r.κ) (E2 r a) θ (by rw[YC,YC];exact Yb m.2) (MU co g _ m.1.1) (O3 (TE co g) _ m.1.2 m.1.1)
  (Pv bi a 0 bi (fun j=>by have:=Po bi 0 j;rwa [YQ]at this⊢) (l d) fun p c=>q p (h p c)) (hΘ d q D) y hy
 rw[←hx d]
 refine this.mono fun z w ⟨A,B⟩=>⟨A.trans (u d),B.trans ?_⟩
 rw[t]
 exact a6 bi a 0 (l d) s fun p c hl=>(q p (h p c)).2 hl
theorem Zvl(K:KO P f os ys bi Θ M e bs)(hy:M=some y){fx:List Nat}(co:COx C os' fx)(g:Gd C r)(a m c:List (Ad×Blk))(θ:Nat→AV)(hΘ:Th Θ C r a (a++m) θ)
  (n:∀H,BE (rC C r a θ H) r 0 bi a) (h:∀H,BE (rC C r a θ H) r 0 (bs y) c) (k:(bs y).all Blk.live=true:=by kernel_rfl) (hx:∀H,Am (rC C r a θ H) ys=Am r xs:=by intro H;kernel_rfl) (s:∀H,ren (rC C r a θ H) (e y)=ren r x:=by intro H;kernel_rfl)
  (i:((a.map (·.1)).all (BB os')&&GY (a.map (·.1))&&Nat.beq a.length os)=true:=by kernel_rfl) (he:a.map (·.1)=c.map (·.1):=by rfl):HW P C.l r f xs (a++m) x c []:=by
 have o:∀b∈bs y,b.live=true:=fun b B=>Yq.1 k b B
 have l:∀p∈a,p∈a++m:=fun p q=>Hy _ q
 refine Zwn rfl rfl fun d t A=>?_
 simp only[Yc]at i
 have:=K.k (C.l+1) d ((a.map (fun p:Ad×Blk=>p.1)).map r.κ) (E2 r a) θ (by rw[YC,YC];exact Yb i.2) (MU co g _ i.1.1) (O3 (TE co g) _ i.1.2 i.1.1)
  (Pv bi a 0 bi (fun j=>by have:=Po bi 0 j;rwa [YQ]at this⊢) (n d) fun p q=>t p (l p q)) (hΘ d t A) y hy
 rw[←hx d]
 exact this.mono fun z u ⟨v,w⟩=>⟨v.trans (s d),w.trans (bf (bs y) a c 0 d (h d) o he)⟩
end
structure CloM (P:Program) (C:Cx) (i:Nat) (xs:List AV) {γ:Type} (M:Option γ) (e:γ→AV):Prop where
 k:∀y,M=some y→B3 P C.l C.no C.H0 (C.θ i) xs (e y)
 x:∀r,Am r xs=xs
 e:∀r y,ren r (e y)=e y
section
variable {os:Nat} {β γ:Type} [Inhabited γ]
theorem CloM.callF{P:Program}{i:Nat}{xs:List AV}{M:Option γ}{e:γ→AV}(E:Ev os β)(h:CloM P E.C i xs M e){y:γ}(hy:M=some y):Nd P E.E.l E.E.r i xs [] (e y):=
 Zv7 (congrFun E.g.θ i) (by rw[E.hl,E.g.no,E.g.H];exact h.k y hy) (h.x _) (h.e _ _)
@[reducible] def cf(P:Program)(i:Nat)(xs:List AV)(M:Option γ)(e:γ→AV)(k:γ→PT os β):PT os β:=
 ⟨.call (e (M.getD default)) [] (k (M.getD default)).a,fun E=>Nd P E.l E.r i xs [] (e (M.getD default))∧(k (M.getD default)).q E,M.bind fun y=>(k y).m,fun E=>CloM P E.C i xs M e∧∀y,(k y).n E,fun E b y hm f=>by
  obtain⟨x,a,c⟩:=bind_some hm
  have d:M.getD default=x:=by rw[a];rfl
  rw[d]
  exact⟨b.1.callF E a,(k x).ok E (b.2 x) y c f⟩⟩
@[reducible] def Hh(b:Bool)(P:Program)(i:Nat)(xs:List AV)(M:Option γ)(e:γ→AV)(k:γ→PT os β):PT os β:=
 ⟨.call (e (M.getD default)) [] (k (M.getD default)).a,fun E=>(b=true→Nd P E.l E.r i xs [] (e (M.getD default)))∧(k (M.getD default)).q E,if(b=true→M.isSome=true)then(k (M.getD default)).m else none,fun E=>CloM P E.C i xs M e∧∀y,(k y).n E,fun E c y hm g=>by
  obtain⟨d,hm⟩:=BJ hm
  refine⟨fun h=>?_,(k _).ok E (c.2 _) y hm g⟩
  obtain⟨x,a⟩:=Fk.1 (d h)
  have f:M.getD default=x:=by rw[a];rfl
  rw[f];exact c.1.callF E a⟩
@[reducible] def cs(P:Program)(f:FuncId)(xs:List AV)(ks:List Ad)(b:List (Ad×Blk))(M:Option γ)(e:γ→AV)(k:γ→PT os β):PT os β:=
 ⟨.call (e (M.getD default)) ks (k (M.getD default)).a,fun E=>G2 P E.l E.r f xs b (e (M.getD default))∧(k (M.getD default)).q E,M.bind fun y=>(k y).m,fun E=>(∀y,M=some y→G2 P E.C.l E.E.r f xs b (e y))∧∀y,(k y).n E,fun E c y hm h=>by
  obtain⟨x,a,d⟩:=bind_some hm
  have g:M.getD default=x:=by rw[a];rfl
  rw[g]
  exact⟨by rw[E.hl];exact c.1 x a,(k x).ok E (c.2 x) y d h⟩⟩
@[reducible] def Cy(b:Bool)(P:Program)(f:FuncId)(xs:List AV)(ks:List Ad)(a:List (Ad×Blk))(M:Option γ)(e:γ→AV)(k:γ→PT os β):PT os β:=
 ⟨.call (e (M.getD default)) ks (k (M.getD default)).a,fun E=>(b=true→G2 P E.l E.r f xs a (e (M.getD default)))∧(k (M.getD default)).q E,if(b=true→M.isSome=true)then(k (M.getD default)).m else none,fun E=>(∀y,M=some y→G2 P E.C.l E.E.r f xs a (e y))∧∀y,(k y).n E,fun E d y hm i=>by
  obtain⟨g,hm⟩:=BJ hm
  refine⟨fun a=>?_,(k _).ok E (d.2 _) y hm i⟩
  obtain⟨x,c⟩:=Fk.1 (g a)
  have h:M.getD default=x:=by rw[c];rfl
  rw[h,E.hl];exact d.1 x c⟩
@[reducible] def mv{α:Type}[Rw α](d q:Nat)(xs:List α)(k:PT os β)(a:Nat.ble (q+1) os=true:=by kernel_rfl):PT os β:=
 ⟨.mv d q k.a,fun E=>FC (Aa Rw.e xs)∧(q<os∧E.r.no (E.r.κ (0,q)))∧k.q E,k.m,k.n,fun E c y hm b=>
  ⟨m8 _ _,⟨Yg a,by rw[E.g.no,E.g.κ];exact E.co.W q (Yg a)⟩,k.ok E c y hm b⟩⟩
@[reducible] def mvc{α:Type}[Rw α](d q e i:Nat)(xs:List α)(k:PT os β)(a:Nat.ble (q+1) os=true:=by kernel_rfl):PT os β:=
 ⟨.mvc d q e i k.a,fun E=>FC (Aa Rw.e xs)∧(q<os∧E.r.no (E.r.κ (0,q)))∧k.q E,k.m,k.n,fun E c y hm b=>
  ⟨m8 _ _,⟨Yg a,by rw[E.g.no,E.g.κ];exact E.co.W q (Yg a)⟩,k.ok E c y hm b⟩⟩
end
section
variable {P:Program} {os os':Nat} {ys:List AV} {bi:List Blk} {Θ:Cl} {γ:Type} {M:Option γ} {e:γ→AV} {bs:γ→List Blk} {C:Cx} {r:Ren} {y:γ}
theorem HO{f:FuncId}(K:KO P f os ys bi Θ M e bs)(hy:M=some y){fx:List Nat}(co:COx C os' fx)(g:Gd C r)(c i:List (Ad×Blk)){w:List (Ad×Blk)}{v:Hp}(L:∀p∈w,(v (r.κ p.1)).g=r.γ p.1+p.2.g∧(p.2.live=true→v (r.κ p.1)=AG r p.1 p.2))(u:∀p∈c,p∈w)
  {G d:List AV} (θ:Nat→AV) (hΘ:∀l' a,Θ (fun k=>k∈(c.map (·.1)).map r.κ) l' a θ) (o:∀l H,BE (Cr l ((c.map (·.1)).map r.κ) (E2 r c) θ H) r 0 bi c) (B:bs y=bi:=by rfl) (t:bi.all Blk.live=true:=by kernel_rfl)
  (hx:∀l H,Am (Cr l ((c.map (·.1)).map r.κ) (E2 r c) θ H) ys=G++d:=by intro l H;kernel_rfl) (D:∀l H,ren (Cr l ((c.map (·.1)).map r.κ) (E2 r c) θ H) (e y)=e y:=by intro l H;kernel_rfl)
  (F:(((c++i).map (·.1)).all (BB os')&&GY ((c++i).map (·.1))&&Nat.beq c.length os)=true:=by kernel_rfl):B3 P (C.l+1) (fun k=>k∈(i.map (·.1)).map r.κ) v (.fn (.func f) [] d) G (e y):=by
 have A:∀b∈bi,b.live=true:=fun b w=>Yq.1 t b w
 refine⟨f,[],d,rfl,fun l' a hl N=>?_⟩
 simp only[Yc,EJ,List.all_append]at F
 obtain⟨⟨⟨E,Q⟩,R⟩,S⟩:=F
 have m:=O3 (TE co g) _ R (by rw[List.all_append,E,Q];rfl)
 rw[EJ,List.nodup_append]at m
 have x:∀p∈c,a (r.κ p.1)=v (r.κ p.1):=fun p n=>by
  have hm:r.κ p.1∈(c.map (·.1)).map r.κ:=V1 (V1 n)
  exact N _ (Tt (MU co g _ E) _ hm) fun h=>m.2.2 _ hm _ h rfl
 have q:∀p∈c,(a (r.κ p.1)).g=r.γ p.1+p.2.g∧(p.2.live=true→a (r.κ p.1)=AG r p.1 p.2):=fun p n=>by rw[x p n];exact L p (u p n)
 have s:Jx l' ((c.map (·.1)).map r.κ):=by
  have:=MU co g (c.map (·.1)) E
  generalize (c.map (·.1)).map r.κ=ks at this
  induction ks with
  |nil=>trivial
  |cons k ks O=>exact⟨CP this.1 hl,O this.2⟩
 have:=K.k l' a ((c.map (fun p:Ad×Blk=>p.1)).map r.κ) (E2 r c) θ (by rw[YC,YC];exact Yb S) s m.1
  (Pv bi c 0 bi (fun j=>by have:=Po bi 0 j;rwa [YQ]at this⊢) (o l' a) q) (hΘ l' a) y hy
 rw[F3,←hx l' a]
 refine this.mono fun z T ⟨I,J⟩=>⟨I.trans (D l' a),J.trans ?_⟩
 rw[B]
 exact a6 bi c 0 (o l' a) A fun p n hl=>(q p n).2 hl
theorem I3{f:FuncId}{xs:List AV}(K:KC P f xs M e)(hy:M=some y){l:Nat}{no:Ad→Prop}{H:Hp}:B3 P l no H (.fn (.func f) [] []) xs (e y):=Zvi fun l' a=>K.k l' a y hy
end
theorem Bt{C:Cx}{r:Ren}{os':Nat}{P:Program}{i:Nat}{xs:List AV}{y:AV}{fx:List Nat}(co:COx C os' fx)(g:Gd C r)(m:List (Ad×Blk)){l:Hp}(p:∀k:Ad,k.1≤C.l→¬r.no k→l k=r.H0 k)(h:B3 P C.l C.no C.H0 (C.θ i) xs y)
  (o:((m.map (·.1)).all (BB os'))=true:=by kernel_rfl):B3 P (C.l+1) (fun k=>k∈(m.map (·.1)).map r.κ) l (r.θ i) xs y:=by
 rw[g.θ]
 refine ZzP h (Nat.le_succ _) (fun q f d hm=>?_) fun q f d=>?_
 ·obtain⟨k,j,e⟩:=YR.1 hm
  rw[g.κ]at e
  obtain⟨a,b⟩:=k
  rcases Gm (Yq.1 o _ j)with c|⟨c,n⟩
  ·simp only at c;subst c;rw[co.ok.own]at e;rw[←e]at f;simp only at f;omega
  ·simp only at c n;subst c;rw[←e]at d;exact d (co.W b n)
 ·rw[←g.H];exact p q f (by rw[g.no];exact d)
theorem Gb{r b:Ren}{k k':Ad}{g a:Nat}{e:EK}{sz:Nat}{cs:List AV}(h:HZ cs)(c:r.γ k+g=b.γ k'+a):AG r k ⟨g,true,e,sz,cs⟩=AG b k' ⟨a,true,e,sz,cs⟩:=by
 simp only[AG,IS h,c]
section
variable {P:Program} {T:Nat→Option TI} {n:Nat} {C:Cx} {τ:St} {Q:Exit→St→Prop} {os k:Nat} {c:Code} {β:Type} {L:β→Prop} {y:β}
theorem yJ{fx:List Nat}(co:COx C os fx)(o:A9 P T)(m:Nat)(v:PT os β)(lf:Lf)(s:v.m=some y)(j:HL L y)(p:∀r (g:Gd C r),v.n ⟨⟨C.l,r,fun _ τ'=>LO P n C c (k+m) τ' Q,fun _ _=>False⟩,L,C,_,co,g,rfl⟩)
  (q:∀l r Q b,A8 r os v.a τ (fun τ a=>FU P T l n r ((B2 c).toList.map (·.dst)) (H3 m (G0 k (B2 c).toList)) [] a (fun τ' env d=>A8 r os d (DA env τ') (fun τ _=>D5 fx lf τ (Q .normal))) τ)=v.q ⟨l,r,Q,b⟩:=by intro l r Q P;kernel_rfl):LO P n C c k τ Q:=
 wu co.ok o co.O co.F m v.a lf (fun r Φ=>v.q ⟨C.l,r,fun _=>Φ,fun _ _=>False⟩) (fun r Φ=>q _ r (fun _=>Φ) _) fun r e f h i=>v.ok _ (p r ⟨e,f,h,i⟩) y s j
theorem yq{fx:List Nat}(co:COx C os fx)(m:A9 P T)(v:PT os β)(lf:Lf)(q:v.m=some y)(j:HL L y)(o:∀r (g:Gd C r),v.n ⟨⟨C.l,r,Q,fun _ _=>False⟩,L,C,_,co,g,rfl⟩)
  (p:∀l r Q b,A8 r os v.a τ (fun τ a=>FU P T l n r ((B2 c).toList.map (·.dst)) (G0 k (B2 c).toList) [] a (fun τ' env d=>A8 r os d (DA env τ') (fun τ _=>D5 fx lf τ (Q .normal))) τ)=v.q ⟨l,r,Q,b⟩:=by intro l r Q P;kernel_rfl):LO P n C c k τ Q:=
 wz co.ok m co.O co.F v.a lf (fun r Q=>v.q ⟨C.l,r,Q,fun _ _=>False⟩) (fun r Q=>p _ r Q _) fun r e f h i=>v.ok _ (o r ⟨e,f,h,i⟩) y q j
theorem wT{γ:Type}{M:Option γ}{kk:γ→Option β}{ss:List (Nat×AV)}{hs:List (Ad×Blk)}{fx:List Nat}(co:COx C os fx)(hm:M.bind kk=some y)(f:FuncId)(xs:List AV)(ks:List Ad)(b:List (Ad×Blk))(e:γ→AV)(Aq:γ→List (Ad×Blk))(fl:List Ad)
  (l:∀z,Fi C (Aq z)) (d:JA (AA hs) fl) (a:∀z,M=some z→∀r,Gd C r→HW P C.l r f xs b (e z) (Aq z) [])
  (h:∀z,kk z=some y→LO P n C c (k+1) (Ac (He (FF c k) (e z) (D4 [] ss)) (Aq z++C2 ((Aq z).map (·.1)) [] fl hs)) Q)
  (j:GX c k=some (FF c k,callF c k,G1 c k):=by kernel_rfl) (v:ev (Ax ss) (callF c k)=.fn (.func f) [] []:=by kernel_rfl) (m:[]++(G1 c k).map (ev (Ax ss))++[]=xs:=by kernel_rfl) (g:(ks.map fun k=>(k,AA hs k))=b:=by kernel_rfl)
  (i:∀z,(DF os (Aq z)&&LQ [] (Aq z)&&MY [] fx&&H2 hs&&Ni n (FF c k)&&ks.all (BB os))=true:=by intro z;kernel_rfl):LO P n C c k (Ac ss hs) Q:=by
 obtain⟨z,o,p⟩:=bind_some hm
 exact oh co.ok co.O co.F f [] [] xs j v m ks b g (e z) (Aq z) [] fl (i z) (l z) d (fun r q s t u=>a z o r ⟨q,s,t,u⟩) (h z p)
theorem s6 {f os os':Nat} {ys xs:List AV} {bi:List Blk} {γ:Type} {M:Option γ} {e:γ→AV} {bs:γ→List Blk} {z:γ} {x:AV} {r:Ren} (K:KO P f os ys bi (fun _ _ _ _=>True) M e bs) (hy:M=some z) {fx:List Nat} (co:COx C os' fx) (g:Gd C r) (a d:List (Ad×Blk)) (h:∀H,BE (rC C r a (Ax []) H) r 0 bi a:=by
   intro H
   repeat(first|exact trivial|refine⟨fun _=>⟨rfl,Gb (EO _ _) (by kernel_rfl)⟩,by kernel_rfl,?_⟩|refine⟨fun _=>⟨rfl,Gb I4 (by kernel_rfl)⟩,by kernel_rfl,?_⟩|refine⟨fun _=>⟨rfl,by kernel_rfl⟩,by kernel_rfl,?_⟩))
  (i:bs z=bi:=by rfl) (c:bi.all Blk.live=true:=by kernel_rfl) (b:(a++d).all (fun p=>p.2.live)=true:=by kernel_rfl) (hx:∀H,Am (rC C r a (Ax []) H) ys=Am r xs:=by intro H;kernel_rfl) (j:∀H,ren (rC C r a (Ax []) H) (e z)=ren r x:=by intro H;kernel_rfl)
  (k:((a.map (·.1)).all (BB os')&&GY (a.map (·.1))&&Nat.beq a.length os)=true:=by kernel_rfl):G2 P C.l r f xs (a++d) x:=
 Dm K hy co g a d (Ax []) (fun _ _ _=>trivial) h i c b hx j k
theorem c6{γ:Type}{M:Option γ}{kk:γ→Option β}{ss:List (Nat×AV)}{hs:List (Ad×Blk)}{f:FuncId}{os':Nat}{ys:List AV}{bi:List Blk}{Θ:Cl}{e0:γ→AV}{bs:γ→List Blk}{fx:List Nat}(co:COx C os fx)(hm:M.bind kk=some y)(K:KO P f os' ys bi Θ M e0 bs)
  (a b:List (Ad×Blk)) (e:γ→AV) (Aq:γ→List (Ad×Blk)) (fl:List Ad)
  (h:∀z,kk z=some y→LO P n C c (k+1) (Ac (He (FF c k) (e z) (D4 [] ss)) (Aq z++C2 ((Aq z).map (·.1)) [] fl hs)) Q)
  (θ:Ren→Nat→AV:=fun _=>Ax []) (hΘ:∀r,Gd C r→Th Θ C r a (a++b) (θ r):=by intro r g;exact fun _ _ _=>trivial) (xs:List AV:=[]++(G1 c k).map (ev (Ax ss))++[])
  (q:∀z,Fi C (Aq z):=by intro z;repeat(first|exact trivial|refine⟨COx.W ‹_› _ (by decide),?_⟩))
  (j:JA (AA hs) fl:=by repeat(first|exact trivial|refine⟨EO _ _,?_⟩))
  (i:∀r H,BE (rC C r a (θ r) H) r 0 bi a:=by
   intro r H
   repeat(first|exact trivial|refine⟨fun _=>⟨rfl,Gb (EO _ _) (by kernel_rfl)⟩,by kernel_rfl,?_⟩|refine⟨fun _=>⟨rfl,Gb I4 (by kernel_rfl)⟩,by kernel_rfl,?_⟩|refine⟨fun _=>⟨rfl,by kernel_rfl⟩,by kernel_rfl,?_⟩|refine⟨(fun h=>nomatch h),by kernel_rfl,?_⟩))
  (d:∀z r H,BE (rC C r a (θ r) H) r 0 (bs z) (Aq z):=by
   intro z r H
   repeat(first|exact trivial|refine⟨fun _=>⟨rfl,Gb (EO _ _) (by kernel_rfl)⟩,by kernel_rfl,?_⟩|refine⟨fun _=>⟨rfl,Gb I4 (by kernel_rfl)⟩,by kernel_rfl,?_⟩|refine⟨fun _=>⟨rfl,by kernel_rfl⟩,by kernel_rfl,?_⟩))
  (hx:∀r H,Am (rC C r a (θ r) H) ys=Am r xs:=by intro r H;kernel_rfl) (s:[]++(G1 c k).map (ev (Ax ss))++[]=xs:=by kernel_rfl) (t:∀z r H,ren (rC C r a (θ r) H) (e0 z)=ren r (e z):=by intro z r H;kernel_rfl)
  (p:GX c k=some (FF c k,callF c k,G1 c k):=by kernel_rfl) (u:ev (Ax ss) (callF c k)=.fn (.func f) [] []:=by kernel_rfl)
  (l:(((a++b).map (·.1)).map fun k=>(k,AA hs k))=a++b:=by kernel_rfl) (m:∀z,(bs z).all Blk.live=true:=by intro z;kernel_rfl) (he:∀z,a.map (·.1)=(Aq z).map (·.1):=by intro z;rfl)
  (v:((a.map (·.1)).all (BB os)&&GY (a.map (·.1))&&Nat.beq a.length os')=true:=by kernel_rfl)
  (o:∀z,(DF os (Aq z)&&LQ [] (Aq z)&&MY [] fx&&H2 hs&&Ni n (FF c k)&&((a++b).map (·.1)).all (BB os))=true:=by intro z;kernel_rfl):LO P n C c k (Ac ss hs) Q:=
 wT co hm f xs _ (a++b) e Aq fl q j (fun z w r g=>Zvl K w co g a b (Aq z) (θ r) (hΘ r g) (fun H=>i r H) (fun H=>d z r H) (m z) (fun H=>hx r H) (fun H=>t z r H) v (he z)) h p u s l o
theorem y2{fx:List Nat}(co:COx C os fx)(v:PT os β)(lf:Lf)(k:v.m=some y)(h:HL L y)(i:∀r (g:Gd C r),v.n ⟨⟨C.l,r,fun _ τ'=>LW P n C c τ' Q,fun _ _=>False⟩,L,C,_,co,g,rfl⟩)
  (j:∀l r Q a,A8 r os v.a τ (fun τ _=>D5 fx lf τ (Q .normal))=v.q ⟨l,r,Q,a⟩:=by intro l r Q P;kernel_rfl):LW P n C c τ Q:=
 tp co.ok co.O co.F v.a lf (fun r Φ=>v.q ⟨C.l,r,fun _=>Φ,fun _ _=>False⟩) (fun r Φ=>j _ r (fun _=>Φ) _) fun r b d e f=>v.ok _ (i r ⟨b,d,e,f⟩) y k h
theorem BN{q:Prop}[Decidable q]{m:Option β}{G:Prop}(hm:(if q then m else none)=some y)(h:q→m=some y→G):G:=h (BJ hm).1 (BJ hm).2
theorem rg{c:Code}(h:LO P n C c 0 τ Q)(hs:jc c=true:=by kernel_rfl):LW P n C c τ Q:=ZoX hs h
end
end Go.Eng
namespace Go.Eng
set_option linter.all false
open Go Go.RowKit
section
variable {α β:Type} (P:Program)
def Vp(s:Sem α):Prop:=∀w r a,s.run P w=.ok r a→a=w∧∀w2,s.run P w2=.ok r w2
def Rd(s:Sem α):Prop:=∀w r a,s.run P w=.ok r a→a=w
variable {P}
theorem Vp.rd{s:Sem α}(h:Vp P s):Rd P s:=fun w r a e=>(h w r a e).1
theorem Vp.pure(a:α):Vp P (Pure.pure a:Sem α):=fun w r b e=>by cases e;exact⟨rfl,fun _=>rfl⟩
theorem Vp.halt(h:Halt):Vp P (.halt h:Sem α):=fun w r a e=>by cases e
theorem Vp.program:Vp P Go.program:=fun w r a e=>by cases e;exact⟨rfl,fun _=>rfl⟩
theorem Vp.bind{s:Sem α}{f:α→Sem β}(h:Vp P s)(k:∀a,Vp P (f a)):Vp P (s>>=f):=fun w r g e=>by
 rw[Sem.run_bind]at e
 cases hs:s.run P w with
 |halt x w'=>rw[hs]at e;cases e
 |ok a w'=>
  rw[hs]at e
  obtain⟨rfl,b⟩:=h w a w' hs
  obtain⟨c,d⟩:=k a _ _ _ e
  exact⟨c,fun w2=>by rw[Sem.run_bind,b w2];exact d w2⟩
theorem Rd.bind{s:Sem α}{f:α→Sem β}(h:Rd P s)(k:∀a,Rd P (f a)):Rd P (s>>=f):=fun w r c e=>by
 rw[Sem.run_bind]at e
 cases hs:s.run P w with
 |halt x w'=>rw[hs]at e;cases e
 |ok a w'=>
  rw[hs]at e
  have b:=h w a w' hs
  subst b
  exact k a _ _ _ e
theorem aA(t:TypeId):Vp P (typeInfo t):=by
 unfold typeInfo
 refine Vp.program.bind fun p=>?_
 split
 ·exact .pure _
 ·exact .halt _
theorem IQ(t:TypeId):Vp P (underlying t):=by
 unfold underlying
 refine Vp.program.bind fun p=>?_
 split
 ·exact .pure _
 ·exact .halt _
theorem EP(t:TypeId):Vp P (sizeOf t):=by unfold sizeOf;exact(aA t).bind fun _=>.pure _
theorem MJ(t:TypeId):Vp P (isAgg t):=by
 unfold isAgg
 refine(IQ t).bind fun d=>?_
 split<;>exact .pure _
theorem tG(t:TypeId)(cs:Array Value)(o:Nat):Vp P (part t cs o):=by
 unfold part
 refine(MJ t).bind fun b=>?_
 cases b with
 |true=>exact(EP t).bind fun _=>.pure _
 |false=>
  show Vp P (match cs[o]? with|some v=>_|none=>_)
  split
  ·exact .pure _
  ·exact .halt _
theorem SK:∀(l:List FieldStep) (t:TypeId) (x:Option Value),Vp P (followBlind l t x)
 |[],t,x=>.pure _
 |s::a,t,x=>by
  unfold followBlind
  refine(IQ _).bind fun d=>?_
  split
  ·split
   ·split
    ·exact .pure _
    ·exact SK a _ _
    ·exact .halt _
    ·exact .pure _
    ·exact(tG _ _ _).bind fun _=>SK a _ _
    ·exact .halt _
    ·exact SK a _ _
   ·exact .halt _
  ·exact .halt _
theorem mM:∀(n:Nat) (t:TypeId) (v:Value) (s:String),Vp P (nilAhead n t v s)
 |0,t,v,s=>.pure _
 |n+1,t,v,s=>by
  unfold nilAhead
  refine(aA _).bind fun i=>?_
  split
  ·refine(SK _ _ _).bind fun r=>?_
   split
   ·exact .pure _
   ·split
    ·exact mM n _ _ _
    ·exact .pure _
    ·exact .halt _
    ·exact .pure _
    ·exact .pure _
    ·refine(IQ _).bind fun d=>?_
     split<;>exact .pure _
  ·exact .halt _
def VV(P:Program)(s:Sem Next):Prop:=∀w r a,s.run P w=.ok r a→∃v,r=.value v
theorem VV.val{s:Sem Value}:VV P (s>>=fun x=>Pure.pure (Next.value x):Sem Next):=fun w r b e=>by
 rw[Sem.run_bind]at e
 cases hs:s.run P w with
 |halt x w'=>rw[hs]at e;cases e
 |ok a w'=>rw[hs]at e;cases e;exact⟨a,rfl⟩
theorem Vp.val{s:Sem Value}(h:Vp P s):Vp P (s>>=fun x=>Pure.pure (Next.value x):Sem Next):=h.bind fun _=>.pure _
theorem Rd.val{s:Sem Value}(h:Rd P s):Rd P (s>>=fun x=>Pure.pure (Next.value x):Sem Next):=h.bind fun _=>(Vp.pure _).rd
end
theorem ah{P:Program}(t:TypeId):Vp P (zeroValue t):=by
 unfold zeroValue
 refine(aA t).bind fun i=>?_
 split
 ·exact .pure _
 ·exact .halt _
theorem pM{α β:Type}{P:Program}{f:α→Sem β}(h:∀x,Vp P (f x)):∀l:List α,Vp P (l.mapM f)
 |[]=>by rw[List.mapM_nil];exact .pure _
 |x::l=>by rw[QR];exact(h x).bind fun _=>(pM h l).bind fun _=>.pure _
theorem uY{α β:Type}{P:Program}{f:α→Sem β}(h:∀x,Vp P (f x))(l:Array α):Vp P (l.mapM f):=by
 rw[fs]
 exact(pM h _).bind fun _=>.pure _
theorem Zw7{P:Program}(t:TypeId)(ps:Array (Nat×Value)):Vp P (Instr.build t ps):=by
 unfold Instr.build
 refine(ah t).bind fun z=>(IQ t).bind fun d=>?_
 split
 ·refine(uY (fun f=>(EP _).bind fun _=>.pure _) _).bind fun a=>?_
  split
  ·exact .pure _
  ·exact .halt _
 ·refine(EP _).bind fun n=>?_
  split
  ·exact .pure _
  ·exact .halt _
 ·exact .halt _
def Nv{α:Type}(P:Program)(s:Sem α):Prop:=∀w r a,s.run P w≠.ok r a
theorem Nv.vp{α:Type}{P:Program}{s:Sem α}(h:Nv P s):Vp P s:=fun w r a e=>absurd e (h w r a)
theorem nM{α:Type}{P:Program}(k:IntKind)(x y:Int)(c:BoundsCode):Nv P (boundsPanic k x y c:Sem α):=fun w r b e=>by
 unfold boundsPanic at e
 dsimp only at e
 have d:∀(s:Bool) w r b,(runtimePanic (.bounds (IntKind.i64.wrap x) y s c):Sem α).run P w≠.ok r b:=fun s w r b e=>by
  unfold runtimePanic at e
  simp only[Sem.run_bind,run_program,Result.andThen_ok]at e
  repeat(first|(cases e;done)|split at e|(simp[goPanic,stuck,unsupported,Sem.run]at e;done))
 split at e
 all_goals
  rw[Sem.run_bind]at e
  generalize hs:Sem.run P _ w=q at e
  cases q with
  |halt x w'=>cases e
  |ok a w'=>exact d _ _ _ _ e
theorem wC{α:Type}{P:Program}:Nv P (runtimePanic .nilDeref:Sem α):=fun w r a e=>by
 unfold runtimePanic at e
 simp only[Sem.run_bind,run_program,Result.andThen_ok]at e
 repeat(first|(cases e;done)|split at e|(simp[goPanic,stuck,unsupported,Sem.run]at e;done))
theorem nb{P:Program}(v:Value):Vp P (asIntOf v):=by
 unfold asIntOf
 split
 ·exact .pure _
 ·exact .halt _
 ·exact .halt _
theorem po{P:Program}(v:Value):Vp P (Instr.sureAddr v):=by
 unfold Instr.sureAddr
 split
 ·exact .pure _
 ·exact .halt _
theorem ZqG{P:Program}(v:Value):Vp P (asAddr v):=by
 unfold asAddr
 split
 ·exact .pure _
 ·first|exact wC.vp|exact .halt _
 ·exact .halt _
theorem zZ{P:Program}(x:Value)(y:Nat)(c:BoundsCode):Vp P (Instr.sliceBound x y c):=by
 unfold Instr.sliceBound
 refine(nb _).bind fun p=>?_
 dsimp only
 split
 ·exact .pure _
 ·exact(nM _ _ _ _).vp
theorem mG{P:Program}(b:Bool)(n m:Nat)(lo hi a:Option Value):Vp P (Instr.sliceBounds b n m lo hi a):=by
 unfold Instr.sliceBounds
 dsimp only
 repeat' (first|exact Vp.pure _|exact zZ _ _ _|exact Vp.halt _|refine Vp.bind ?_ fun _=>?_|split)
theorem ZuC{P:Program}(t:TypeId)(x:Value)(lo hi a:Option Value):Vp P (Instr.slice t x lo hi a):=by
 unfold Instr.slice
 dsimp only
 repeat' (first|exact Vp.pure _|exact mG _ _ _ _ _ _|exact IQ _|exact EP _|exact ZqG _|exact Vp.halt _|refine Vp.bind ?_ fun _=>?_|split)
theorem ZpI{P:Program}(t:TypeId)(x:Value)(lo hi a:Option Value):Vp P (Instr.sliceAt t x lo hi a):=by
 unfold Instr.sliceAt
 repeat' (first|exact Vp.pure _|exact mG _ _ _ _ _ _|exact IQ _|exact EP _|exact po _|exact ZuC _ _ _ _ _|exact Vp.halt _|refine Vp.bind ?_ fun _=>?_|split)
theorem Zo5{P:Program}(t:TypeId)(x i:Value):Vp P (Instr.indexAt t x i):=by
 unfold Instr.indexAt
 dsimp only
 repeat' (first|exact Vp.pure _|exact nb _|exact IQ _|exact EP _|exact po _|exact(nM _ _ _ _).vp|exact Vp.halt _|refine Vp.bind ?_ fun _=>?_|split)
theorem Zpk{P:Program}(v:Value)(i:Nat):Vp P (Instr.extract v i):=by
 unfold Instr.extract
 split
 ·split
  ·exact .pure _
  ·exact .halt _
 ·exact .halt _
def kJ(P:Program)(c:Call):Bool:=match c.callee,c.args.toList,c.argTypes.toList with
 |.builtin .len,[_],[t]=>(match P.underlying t with|some (.slice _)=>true|some .string=>true|_=>false)
 |_,_,_=>false
theorem vC{P:Program}{t:TypeId}{ty:TypeId}(x:Value)(h:(match P.underlying t with|some (.slice _)=>true|some .string=>true|_=>false)=true):Vp P (Builtin.len_ #[t] ty #[x]):=by
 unfold Builtin.len_
 simp only[fN,FZ]
 intro w r c e
 have a:∃d,P.underlying t=some d∧((∃q,d=.slice q)∨d=.string):=by
  grind
 obtain⟨d,a,b⟩:=a
 simp only[Sem.run_bind,run_underlying a,Result.andThen_ok]at e⊢
 rcases b with⟨q,rfl⟩|rfl
 ·cases x<;>first|(cases e;exact⟨rfl,fun _=>rfl⟩)|(cases e;done)
 ·cases x<;>first|(cases e;exact⟨rfl,fun _=>rfl⟩)|(cases e;done)
def Dt(P:Program)(o:Oper):Bool:=match o.op with
 |.build _ _=>true
 |.extract _ _=>true
 |.indexAddr _ _ _=>true
 |.slice _ _ _ _ _=>true
 |.makeFunc _ _ _=>true
 |.call c=>kJ P c
 |.move _=>true
 |.assign _=>true
 |.nilCheck _=>true
 |.fieldAddr t _ i=>(match P.underlying t with|some (.struct a)=>(match a[i]? with|some f=>!(Nat.beq (P.cellsOf f.type) 0)|none=>false)|_=>false)
 |_=>false
def Dl(P:Program)(o:Oper):Bool:=Dt P o||match o.op with|.load _ _=>true|_=>false
section
variable {P:Program} {ρ:Operand→Value} {o:Oper}
theorem Tp(h:Dt P o=true):Vp P (execOp ρ o)∧VV P (execOp ρ o):=by
 obtain⟨j,op,type,pos,after,guard⟩:=o
 cases op<;>simp only[Dt]at h<;>first|(cases h;done)|skip
 case move x=>exact⟨.pure _,fun w r d e=>by cases e;exact⟨_,rfl⟩⟩
 case assign x=>exact⟨.pure _,fun w r d e=>by cases e;exact⟨_,rfl⟩⟩
 case build t ps=>exact⟨(Zw7 _ _).val,VV.val⟩
 case makeFunc f a b=>exact⟨(Vp.pure _).val,VV.val⟩
 case extract x i=>exact⟨(Zpk _ _).val,VV.val⟩
 case indexAddr t x i=>exact⟨(Zo5 _ _ _).val,VV.val⟩
 case slice t x a b c=>exact⟨(ZpI _ _ _ _ _).val,VV.val⟩
 case call c=>
  unfold kJ at h
  split at h
  ·rename_i x t l k n
   obtain⟨z,u,D⟩:=c
   simp only at l k n
   subst l
   have A:u=#[x]:=CY (by simpa using k)
   have B:D=#[t]:=CY (by simpa using n)
   subst A;subst B
   have:execOp ρ ⟨j,.call ⟨.builtin .len,#[x],#[t]⟩,type,pos,after,guard⟩=(Builtin.len_ #[t] type #[ρ x]>>=fun v=>(Pure.pure (Next.value v):Sem Next)):=by
    simp[execOp,resolve,invoke,Go.builtin]
   rw[this]
   exact⟨(vC _ h).val,VV.val⟩
  ·cases h
 case nilCheck x=>
  have F:∀v:Value,Vp P (pure (.value v):Sem Next)∧VV P (pure (.value v):Sem Next):=fun v=>⟨.pure _,fun w r d e=>by cases e;exact⟨_,rfl⟩⟩
  have g:Vp P (runtimePanic .nilDeref:Sem Next)∧VV P (runtimePanic .nilDeref:Sem Next):=by
   have:∀w r d,(runtimePanic .nilDeref:Sem Next).run P w≠.ok r d:=fun w r d e=>by
    unfold runtimePanic at e
    simp only[Sem.run_bind,run_program,Result.andThen_ok]at e
    repeat(first|(cases e;done)|split at e|(simp[goPanic,stuck,unsupported,Sem.run]at e;done))
   exact⟨fun w r d e=>absurd e (this w r d),fun w r d e=>absurd e (this w r d)⟩
  show Vp P (execOp ρ _)∧_
  simp only[execOp]
  split
  ·exact g
  ·exact g
  ·exact g
  ·split
   ·exact g
   ·refine⟨Vp.program.bind fun p=>(mM _ _ _ _).bind fun b=>?_,fun w r d e=>?_⟩
    ·split
     ·exact .halt _
     grind
    ·simp only[Sem.run_bind,run_program,Result.andThen_ok]at e
     cases hs:(nilAhead _ _ _ _).run P w with
     |halt x w'=>rw[hs]at e;cases e
     |ok a w'=>
      rw[hs]at e
      simp only[Result.andThen_ok]at e
      split at e
      ·cases e
      ·cases e;exact⟨_,rfl⟩
   grind
  ·grind
 case fieldAddr t x i=>
  refine⟨Vp.val ?_,VV.val⟩
  unfold Instr.fieldAt
  intro w r d e
  split at h
  ·rename_i E q
   split at h
   ·rename_i f m
    have s:P.cellsOf f.type≠0:=fun C=>by rw[C]at h;cases h
    have run:∀(ad:Addr) (w:World),(Instr.fieldAt t (.pointer (some ad)) i).run P w=.ok (.pointer (some (ad.add f.offset))) w:=fun ad w=>by
     simp[Instr.fieldAt,run_underlying q,m,Instr.sureAddr,fieldPlace,Ek s,s]
    have y:∀v:Value,(∀ad,v≠.pointer (some ad))→(Instr.fieldAt t v i).run P w≠.ok r d:=fun v G e=>by
     have hs:Instr.sureAddr v=.halt (.stuck "an address expected (no nilCheck in front?)"):=by
      unfold Instr.sureAddr
      split
      ·grind
      ·rfl
     simp only[Instr.fieldAt,Sem.run_bind,run_underlying q,Result.andThen_ok,m,hs]at e
     cases e
    change (Instr.fieldAt t (ρ x) i).run P w=.ok r d at e
    show d=w∧∀w2,(Instr.fieldAt t (ρ x) i).run P w2=.ok r w2
    grind
   ·cases h
  ·cases h
theorem Tv(a:Addr):Rd P (load a):=fun w r b e=>by
 unfold load at e
 simp only[Sem.run]at e
 grind
theorem SR(a:Addr):∀(n i:Nat) (b:Array Value),Rd P (loadCellsFrom a i n b)
 |0,i,b=>(Vp.pure _).rd
 |n+1,i,b=>by unfold loadCellsFrom;exact(Tv _).bind fun v=>SR a n (i+1) _
theorem aj(t:TypeId)(a:Addr):Rd P (loadVar t a):=by
 unfold loadVar
 refine(MJ t).rd.bind fun b=>?_
 cases b with
 |true=>exact(EP t).rd.bind fun n=>(SR a n 0 _).bind fun _=>(Vp.pure _).rd
 |false=>exact Tv a
theorem Pf(h:Dl P o=true):Rd P (execOp ρ o)∧VV P (execOp ρ o):=by
 unfold Dl at h
 rw[YG]at h
 rcases h with h|h
 ·obtain⟨c,d⟩:=Tp (ρ:=ρ) h
  exact⟨c.rd,d⟩
 ·obtain⟨b,op,type,pos,after,guard⟩:=o
  cases op<;>simp only at h<;>first|(cases h;done)|skip
  refine⟨Rd.val ?_,VV.val⟩
  unfold Instr.loadAt
  refine Rd.bind ?_ fun a=>aj _ _
  unfold Instr.sureAddr
  split
  ·exact(Vp.pure _).rd
  ·exact(Vp.halt _).rd
def Gx(w a:World):Prop:=∀(k:Nat) (o:Obj),w.heap[k]?=some o→a.heap[k]?=some o
theorem Gx.refl(w:World):Gx w w:=fun _ _ h=>h
theorem Gx.cell{w d:World}{a:Addr}{v:Value}(h:Gx w d)(b:w.cell? a=some v):d.cell? a=some v:=by
 unfold World.cell? at b⊢
 cases c:w.heap[a.block]? with
 |none=>rw[c]at b;cases b
 |some o=>rw[c]at b;rw[h _ _ c];exact b
theorem Gx.seen{w d:World}{p:Program}{at_:Addr}{u:TypeId}{k:Addr}{b:Bool}(h:Gx w d){r}(a:w.seen p at_ u k b=.ok r):d.seen p at_ u k b=.ok r:=by
 cases c:w.heap[at_.block]? with
 |none=>
  exfalso
  unfold World.seen at a
  rw[c]at a
  have T:∀(α:Type) (e:String),(MonadExcept.throw e:Except String α)=.error e:=fun _ _=>rfl
  simp only[bind,Except.bind,pure,Except.pure,throw,throwThe,T]at a
  grind
 |some o=>
  unfold World.seen at a⊢
  rw[h _ _ c]
  grind
theorem Gx.far{w i:World}{p:Program}{a:Addr}{b:Bool}(h:Gx w i){r}(c:w.farLoad p a b=.ok r):i.farLoad p a b=.ok r:=by
 unfold World.farLoad at c⊢
 cases g:w.heap[a.block]? with
 |none=>rw[g]at c;cases c
 |some o=>
  rw[g]at c
  rw[h _ _ g]
  cases o<;>simp only at c⊢<;>first|(cases c;done)|skip
  rename_i d u
  cases f:w.viewLoad p d u a b with
  |error e=>rw[f]at c;cases c
  |ok q=>
   rw[f]at c
   have:i.viewLoad p d u a b=.ok q:=by
    unfold World.viewLoad at f⊢
    cases hs:w.seen p d u a b with
    |error e=>rw[hs]at f;cases f
    |ok z=>rw[hs]at f;rw[h.seen hs];exact f
   grind
variable {α β:Type}
def FX(P:Program)(s:Sem α):Prop:=∀w r a w2,s.run P w=.ok r a→Gx w w2→s.run P w2=.ok r w2
theorem Vp.sta{s:Sem α}(h:Vp P s):FX P s:=fun w r a w2 e _=>(h w r a e).2 w2
theorem FX.bind{s:Sem α}{f:α→Sem β}(c:Rd P s)(h:FX P s)(k:∀a,FX P (f a)):FX P (s>>=f):=fun w r d w2 e hx=>by
 rw[Sem.run_bind]at e⊢
 cases hs:s.run P w with
 |halt x w'=>rw[hs]at e;cases e
 |ok a w'=>
  rw[hs]at e
  have b:=c w a w' hs
  subst b
  rw[h _ _ _ _ hs hx]
  exact k a _ _ _ _ e hx
theorem oo(a:Addr):FX P (load a):=fun w r g w2 e hx=>by
 unfold load at e⊢
 simp only[Sem.run]at e⊢
 cases d:w.cell? a with
 |some v=>rw[d]at e;rw[hx.cell d];cases e;rfl
 |none=>
  rw[d]at e
  cases b:w.farLoad P a (Mode.plain==Mode.atomic)with
  |error x=>rw[b]at e;cases e
  |ok q=>
   have f:w2.cell? a=none:=by
    unfold World.farLoad at b
    unfold World.cell?
    cases c:w.heap[a.block]? with
    |none=>rw[c]at b;cases b
    |some o=>
     rw[c]at b
     rw[hx _ _ c]
     grind
   rw[b]at e
   rw[f,hx.far b]
   grind
theorem mE(a:Addr):∀(n i:Nat) (b:Array Value),FX P (loadCellsFrom a i n b)
 |0,i,b=>(Vp.pure _).sta
 |n+1,i,b=>by unfold loadCellsFrom;exact .bind (Tv _) (oo _) fun v=>mE a n (i+1) _
theorem ZmK(t:TypeId)(a:Addr):FX P (loadVar t a):=by
 unfold loadVar
 refine .bind (MJ t).rd (MJ t).sta fun b=>?_
 cases b with
 |true=>exact .bind (EP t).rd (EP t).sta fun n=>.bind (SR a n 0 _) (mE a n 0 _) fun _=>(Vp.pure _).sta
 |false=>exact oo a
theorem ZtS(h:Dl P o=true):FX P (execOp ρ o):=by
 unfold Dl at h
 rw[YG]at h
 rcases h with h|h
 ·exact(Tp (ρ:=ρ) h).1.sta
 ·obtain⟨b,op,type,pos,after,guard⟩:=o
  cases op<;>simp only at h<;>first|(cases h;done)|skip
  have hs:∀v:Value,Rd P (Instr.sureAddr v)∧FX P (Instr.sureAddr v):=fun v=>by
   unfold Instr.sureAddr
   split
   ·exact⟨(Vp.pure _).rd,(Vp.pure _).sta⟩
   ·exact⟨(Vp.halt _).rd,(Vp.halt _).sta⟩
  refine FX.bind (s:=Instr.loadAt _ _) (Rd.bind (hs _).1 fun a=>aj _ _) (.bind (hs _).1 (hs _).2 fun a=>ZmK _ _) fun _=>(Vp.pure _).sta
def JB(o:Oper):Bool:=match o.op with|.buildSlice _ _ _=>true|.alloc _=>true|_=>false
theorem Zv5{w:World}{o:Obj}:Gx w {w with heap:=w.heap.push o }:=fun k a h=>by
 grind
def Gr(P:Program)(s:Sem α):Prop:=∀w r a,s.run P w=.ok r a→Gx w a
theorem Rd.gr{s:Sem α}(h:Rd P s):Gr P s:=fun w r a e=>by rw[h w r a e];exact .refl _
theorem Gr.bind{s:Sem α}{f:α→Sem β}(h:Gr P s)(k:∀a,Gr P (f a)):Gr P (s>>=f):=fun w r c e=>by
 rw[Sem.run_bind]at e
 cases hs:s.run P w with
 |halt x w'=>rw[hs]at e;cases e
 |ok a w'=>
  rw[hs]at e
  exact fun q o b=>k a _ _ _ e _ _ (h _ _ _ hs _ _ b)
theorem aJ(t:TypeId)(cs:Array Value):Gr P (newRow t cs):=fun w r a e=>by
 unfold newRow newObj at e
 cases e
 exact Zv5
theorem zY(t:TypeId)(n:Nat)(ps:Array (Nat×Value)):Gr P (Instr.buildSlice t n ps):=by
 unfold Instr.buildSlice
 refine(IQ t).rd.gr.bind fun d=>?_
 split
 ·refine(EP _).rd.gr.bind fun size=>?_
  by_cases a:n*size>2^24
  ·rw[Yj a]
   intro w r c e
   cases e
  ·rw[Yh a]
   by_cases b:n*size=0
   ·rw[Yj b]
    refine Gr.bind (s:=Pure.pure _) (Vp.pure _).rd.gr fun z=>?_
    dsimp only
    split
    ·exact(aJ _ _).bind fun _=>(Vp.pure _).rd.gr
    ·exact(Vp.halt _).rd.gr
   ·rw[Yh b]
    refine(ah _).rd.gr.bind fun z=>Gr.bind (s:=Pure.pure _) (Vp.pure _).rd.gr fun z=>?_
    dsimp only
    split
    ·exact(aJ _ _).bind fun _=>(Vp.pure _).rd.gr
    ·exact(Vp.halt _).rd.gr
 ·exact(Vp.halt _).rd.gr
theorem ZzS(h:JB o=true):Gr P (execOp ρ o)∧VV P (execOp ρ o):=by
 obtain⟨a,op,type,pos,after,guard⟩:=o
 cases op<;>simp only[JB]at h<;>first|(cases h;done)|skip
 case buildSlice=>exact⟨(zY _ _ _).bind fun _=>(Vp.pure _).rd.gr,VV.val⟩
 case alloc t=>exact⟨Gr.bind (s:=Instr.alloc _ _ _) ((ah _).rd.gr.bind fun z=>Gr.bind (s:=newVar _ _) (aJ _ _ |>.bind fun _=>(Vp.pure _).rd.gr) fun _=>(Vp.pure _).rd.gr) fun _=>(Vp.pure _).rd.gr,VV.val⟩
theorem pC(h:(Dl P o||JB o)=true):Gr P (execOp ρ o)∧VV P (execOp ρ o):=by
 rw[YG]at h
 rcases h with h|h
 ·exact⟨(Pf h).1.gr,(Pf h).2⟩
 ·exact ZzS h
end
def N8(P:Program)(L:List Oper)(listed:List Nat)(i:Nat)(a:Oper):Nat→List Oper→Bool
 |_,[]=>true
 |j,b::r=>(listed.any (Nat.beq j)||Nat.beq j i||Pu L i L.length j||(a.apart L.toArray b&&(Dt P a||(Dl P a&&(Dl P b||JB b)))))&&N8 P L listed i a (j+1) r
def Ql(P:Program)(L:List Oper):List Nat→List Nat→Bool
 |listed,[]=>(List.range L.length).all fun j=>listed.any (Nat.beq j)
 |listed,i::b=>(match Bi L i with
  |some a=>!(listed.any (Nat.beq i))&&a.after.toList.all (fun e=>!Region.binds .any e||listed.any (Nat.beq e.on))&&(match Dt P a with|true=>chkV P L listed i a 0 L|false=>N8 P L listed i a 0 L)
  |none=>false)&&Ql P L (i::listed) b
where chkV (P:Program) (L:List Oper) (listed:List Nat) (i:Nat) (a:Oper):Nat→List Oper→Bool
 |_,[]=>true
 |j,c::r=>(listed.any (Nat.beq j)||Nat.beq j i||c.after.toList.any (fun e=>Region.binds .any e&&Nat.beq e.on i)||a.apart L.toArray c)&&chkV P L listed i a (j+1) r
theorem F9{l:List Nat}{j:Nat}:l.any (Nat.beq j)=true↔j∈l:=by
 rw[YL]
 exact⟨fun⟨x,hx,h⟩=>Yb h▸hx,fun h=>⟨j,h,Q4 j⟩⟩
theorem px{P:Program}{L:List Oper}{listed:List Nat}{i:Nat}{e:Oper}:∀{r:List Oper} {b k:Nat} {c:Oper},N8 P L listed i e b r=true→r[k]?=some c→
  (b+k)∈listed∨b+k=i∨Waits L.toArray (b+k) i∨(e.apart L.toArray c=true∧(Dt P e=true∨Dl P e=true∧(Dl P c||JB c)=true))
 |[],b,k,c,_,h=>by simp at h
 |q::r,b,k,c,d,h=>by
  unfold N8 at d
  rw[Yc]at d
  cases k with
  |zero=>
   simp only[FZ,Yi]at h
   subst h
   have a:=d.1
   simp only[YG,Yc]at a
   rcases a with((a|a)|a)|a
   ·exact .inl (F9.1 a)
   ·exact .inr (.inl (Yb a))
   ·exact .inr (.inr (.inl (aB _ _ a)))
   grind
  |succ k=>
   have:=px (k:=k) d.2 (by simpa using h)
   grind
theorem o2{P:Program}{L:List Oper}{listed:List Nat}{i:Nat}{g:Oper}:∀{r:List Oper} {b k:Nat} {c:Oper},Ql.chkV P L listed i g b r=true→r[k]?=some c→
  (b+k)∈listed∨b+k=i∨(∃e∈c.after,Region.binds .any e=true∧e.on=i)∨g.apart L.toArray c=true
 |[],b,k,c,_,h=>by simp at h
 |q::r,b,k,c,d,h=>by
  unfold Ql.chkV at d
  rw[Yc]at d
  cases k with
  |zero=>
   simp only[FZ,Yi]at h
   subst h
   have a:=d.1
   simp only[YG]at a
   rcases a with((a|a)|a)|a
   ·exact .inl (F9.1 a)
   ·exact .inr (.inl (Yb a))
   ·obtain⟨e,he,f⟩:=YL.1 a
    rw[Yc]at f
    exact .inr (.inr (.inl ⟨e,by simpa using he,f.1,Yb f.2⟩))
   grind
  |succ k=>
   have:=o2 (k:=k) d.2 (by simpa using h)
   grind
def perm(π:List Nat):Code→Code
 |.region id ops _=>.region id (π.filterMap (Bi ops.toList)).toArray false
 |c=>c
def pb:Value→Option Nat
 |.pointer (some a)=>some a.block
 |_=>none
def EG(w:World)(b:Nat):Prop:=∃C e f,w.heap[b]?=some (.cells C e f)
section
variable {P:Program} {α β:Type}
theorem pQ{v:Value}{a:Addr}{w b:World}(h:(Instr.sureAddr v).run P w=.ok a b):v=.pointer (some a)∧b=w:=by
 unfold Instr.sureAddr at h
 split at h
 ·cases h;exact⟨rfl,rfl⟩
 ·cases h
def Lo(b:Nat)(P:Program)(s:Sem α):Prop:=∀w r a w2,s.run P w=.ok r a→EG w b→w2.heap[b]?=w.heap[b]?→s.run P w2=.ok r w2
theorem Vp.lo{b:Nat}{s:Sem α}(h:Vp P s):Lo b P s:=fun w r a w2 e _ _=>(h w r a e).2 w2
theorem Lo.bind{b:Nat}{s:Sem α}{f:α→Sem β}(g:Rd P s)(h:Lo b P s)(k:∀a,Lo b P (f a)):Lo b P (s>>=f):=fun w r i w2 e c d=>by
 rw[Sem.run_bind]at e⊢
 cases hs:s.run P w with
 |halt x w'=>rw[hs]at e;cases e
 |ok a w'=>
  rw[hs]at e
  have:=g w a w' hs
  subst this
  rw[h _ _ _ _ hs c d]
  exact k a _ _ _ _ e c d
theorem pt(a:Addr):Lo a.block P (load a):=fun w r h w2 e ⟨C,t,f,d⟩ c=>by
 unfold load at e⊢
 simp only[Sem.run]at e⊢
 have g:w2.cell? a=w.cell? a:=World.cell?_of_block c
 rw[g]
 cases b:w.cell? a with
 |some v=>rw[b]at e;cases e;rfl
 |none=>
  rw[b]at e
  have:w.farLoad P a (Mode.plain==Mode.atomic)=.error (w.noCell a "load: no such cell"):=by unfold World.farLoad;rw[d]
  grind
theorem mO(a:Addr):∀(n i:Nat) (b:Array Value),Lo a.block P (loadCellsFrom a i n b)
 |0,i,b=>(Vp.pure _).lo
 |n+1,i,b=>by
  unfold loadCellsFrom
  refine .bind (Tv _) ?_ fun v=>mO a n (i+1) _
  have:=pt (P:=P) (a.add i)
  rwa [block_add]at this
theorem ZpO(t:TypeId)(a:Addr):Lo a.block P (loadVar t a):=by
 unfold loadVar
 refine .bind (MJ t).rd (MJ t).lo fun b=>?_
 cases b with
 |true=>exact .bind (EP t).rd (EP t).lo fun n=>.bind (SR a n 0 _) (mO a n 0 _) fun _=>(Vp.pure _).lo
 |false=>exact pt a
theorem tu{ρ:Operand→Value}{o:Oper}{t:TypeId}{x:Operand}{w w2:World}{v:Value}(g:o.op=.load t x)(e:(execOp ρ o).run P w=.ok (.value v) w):
  ∃b,pb (ρ x)=some b∧(EG w b→w2.heap[b]?=w.heap[b]?→(execOp ρ o).run P w2=.ok (.value v) w2):=by
 obtain⟨c,op,type,pos,after,guard⟩:=o
 cases g
 change ((Instr.loadAt t (ρ x))>>=fun y=>(pure (Next.value y):Sem Next)).run P w=_ at e
 show∃b,pb (ρ x)=some b∧(_→_→((Instr.loadAt t (ρ x))>>=fun y=>(pure (Next.value y):Sem Next)).run P w2=_)
 generalize ρ x=q at e⊢
 have:∃a,q=.pointer (some a):=by
  cases hs:(Instr.sureAddr q).run P w with
  |halt _ _=>unfold Instr.loadAt at e;simp only[Sem.run_bind,hs]at e;cases e
  |ok a w'=>exact⟨a,(pQ hs).1⟩
 obtain⟨a,rfl⟩:=this
 exact⟨a.block,rfl,fun d f=>Lo.bind (Rd.bind (Vp.pure a).rd fun a=>aj t a) (ZpO t a) (fun _=>(Vp.pure _).lo) _ _ _ _ e d f⟩
def So(b:Nat)(P:Program)(s:Sem α):Prop:=∀w r a,s.run P w=.ok r a→EG w b→EG a b∧∀k,k≠b→a.heap[k]?=w.heap[k]?
theorem Rd.so{b:Nat}{s:Sem α}(h:Rd P s):So b P s:=fun w r c e a=>by rw[h w r c e];exact⟨a,fun _ _=>rfl⟩
theorem So.bind{b:Nat}{s:Sem α}{f:α→Sem β}(h:So b P s)(k:∀a,So b P (f a)):So b P (s>>=f):=fun w r l e d=>by
 rw[Sem.run_bind]at e
 cases hs:s.run P w with
 |halt x w'=>rw[hs]at e;cases e
 |ok a w'=>
  rw[hs]at e
  obtain⟨c,g⟩:=h _ _ _ hs d
  obtain⟨i,j⟩:=k a _ _ _ e c
  grind
theorem Zwu(a:Addr)(v:Value):So a.block P (store a v):=fun w r b e ⟨C,t,f,c⟩=>by
 unfold store at e
 have key:∀b,b=w.setCell a v→EG b a.block∧∀k,k≠a.block→b.heap[k]?=w.heap[k]?:=fun b e=>by
  subst e
  unfold World.setCell
  constructor
  ·refine⟨(if a.spot.isSome then C else C.setIfInBounds a.off v),t,f,?_⟩
   show(w.heap.modify a.block _)[a.block]?=_
   rw[fC,c]
   simp
  ·intro k g
   show(w.heap.modify a.block _)[k]?=_
   rw[fC]
   simp[Ne.symm g]
 cases v<;>simp only[Sem.run]at e<;>first
  |(cases e;done)
  |(cases d:w.cell? a with
    |some x=>
     rw[d]at e
     simp only at e
     split at e
     ·cases e
     ·cases e;exact key _ rfl
    |none=>
     rw[d]at e
     unfold World.farStore at e
     rw[c]at e
     cases e)
theorem mD(a:Addr):∀(vs:List Value) (i:Nat),So a.block P (storeCells a vs i)
 |[],i=>(Vp.pure _).rd.so
 |v::r,i=>by
  unfold storeCells
  refine So.bind ?_ fun _=>mD a r (i+1)
  have:=Zwu (P:=P) (a.add i) v
  rwa [block_add]at this
theorem Zmc(t:TypeId)(a:Addr)(v:Value):So a.block P (storeVar t a v):=by
 unfold storeVar
 refine(EP t).rd.so.bind fun n=>?_
 by_cases h:v.cells.size≠n
 ·rw[Yj h]
  intro w r b e
  cases e
 ·rw[Yh h]
  exact mD a _ 0
theorem tz{ρ:Operand→Value}{o:Oper}{t:TypeId}{x y:Operand}{w c:World}{r:Next}(h:o.op=.store t x y)(e:(execOp ρ o).run P w=.ok r c):
  r=.skip∧∃b,pb (ρ x)=some b∧(EG w b→EG c b∧∀k,k≠b→c.heap[k]?=w.heap[k]?):=by
 obtain⟨d,op,type,pos,after,guard⟩:=o
 cases h
 change ((Instr.storeAt t (ρ x) (ρ y))>>=fun _=>(pure Next.skip:Sem Next)).run P w=_ at e
 generalize ρ x=q at e⊢
 generalize ρ y=v at e
 have f:r=.skip:=by
  rw[Sem.run_bind]at e
  cases hs:(Instr.storeAt t q v).run P w with
  |halt _ _=>rw[hs]at e;cases e
  |ok _ _=>rw[hs]at e;cases e;rfl
 refine⟨f,?_⟩
 have:∃a,q=.pointer (some a):=by
  cases hs:(Instr.sureAddr q).run P w with
  |halt _ _=>unfold Instr.storeAt at e;simp only[Sem.run_bind,hs]at e;cases e
  |ok a w'=>exact⟨a,(pQ hs).1⟩
 obtain⟨a,rfl⟩:=this
 exact⟨a.block,rfl,fun g=>So.bind (Zmc t a v) (fun _=>(Vp.pure _).rd.so) _ _ _ e g⟩
end
def I6(z:Nat):List (Nat×Nat)→Option Nat
 |[]=>none
 |(d,r)::l=>match Nat.beq d z with|true=>some r|false=>I6 z l
theorem Ks{z r:Nat}:∀{l:List (Nat×Nat)},I6 z l=some r→(z,r)∈l
 |(d,q)::l,h=>by
  unfold I6 at h
  split at h
  ·rename_i e;cases h;rw[Yb e];exact Yv ..
  ·exact Yw _ (Ks h)
def KX:Operand→Option Nat
 |.tmp z=>some z
 |_=>none
def Ja(P:Program)(o:Oper):Option Nat:=match Dt P o with
 |true=>(match o.op with
  |.fieldAddr _ x _=>KX x
  |.move x=>KX x
  |.nilCheck x=>KX x
  |_=>none)
 |false=>none
def Dd(P:Program)(env:List (Nat×Nat))(o:Oper):List (Nat×Nat):=match o.dst with
 |none=>env
 |some d=>(match Ja P o with|some z=>(match I6 z env with|some r=>[(d,r)]|none=>[])|none=>[])++env.filter fun p=>!Nat.beq p.1 d
def Ux(P:Program)(env:List (Nat×Nat))(o:Oper):Bool:=Dl P o||JB o||match o.op with
 |.store _ (.tmp y) _=>(I6 y env).isSome
 |_=>false
def J(β:Nat→Nat)(env:List (Nat×Nat))(a:Act)(w:World):Prop:=∀p∈env,∀b,pb (a.eval (.tmp p.1))=some b→b=β p.2∧EG w b
def pH:Next→Option Value
 |.value v=>some v
 |.skip=>some undef
 |_=>none
section
variable {P:Program} {β:Nat→Nat} {env:List (Nat×Nat)} {a:Act} {w w':World} {o:Oper} {n:Next}
theorem oM(h:Ux P env o=true)(l:J β env a w)(e:(execOp a.eval o).run P w=.ok n w'):(∃u,pH n=some u)∧∀b,EG w b→EG w' b:=by
 unfold Ux at h
 rw[YG]at h
 rcases h with h|h
 ·obtain⟨c,d⟩:=pC (ρ:=a.eval) h
  obtain⟨v,rfl⟩:=d _ _ _ e
  exact⟨⟨v,rfl⟩,fun b ⟨C,t,f,g⟩=>⟨C,t,f,c _ _ _ e _ _ g⟩⟩
 ·split at h
  ·rename_i t y v p
   obtain⟨rfl,i,c,d⟩:=tz p e
   obtain⟨r,q⟩:=Fk.1 h
   obtain⟨_,j⟩:=l _ (Ks q) _ c
   obtain⟨s,k⟩:=d j
   refine⟨⟨_,rfl⟩,fun b ⟨C,t,f,g⟩=>?_⟩
   by_cases m:b=i
   ·grind
   ·exact⟨C,t,f,(k b m).trans g⟩
  ·cases h
theorem S7{x:Operand}{z:Nat}(h:KX x=some z):x=.tmp z:=by
 cases x<;>simp only[KX]at h<;>first|(cases h;done)|skip
 grind
theorem qh{z:Nat}{b:Nat}{v:Value}(hs:Ja P o=some z)(e:(execOp a.eval o).run P w=.ok (.value v) w')(c:pb v=some b):pb (a.eval (.tmp z))=some b:=by
 unfold Ja at hs
 cases d:Dt P o with
 |false=>rw[d]at hs;cases hs
 |true=>
  rw[d]at hs
  obtain⟨l,op,type,pos,after,guard⟩:=o
  cases op<;>simp only at hs<;>first|(cases hs;done)|skip
  case move x=>rw[←S7 hs];cases e;exact c
  case nilCheck x=>
   rw[←S7 hs]
   have s:∀w r k,(runtimePanic .nilDeref:Sem Next).run P w≠.ok r k:=fun w r k e=>by
    unfold runtimePanic at e
    simp only[Sem.run_bind,run_program,Result.andThen_ok]at e
    repeat(first|(cases e;done)|split at e|(simp[goPanic,stuck,unsupported,Sem.run]at e;done))
   simp only[execOp]at e
   split at e
   ·grind
   ·grind
   ·grind
   ·split at e
    ·grind
    ·simp only[Sem.run_bind,run_program,Result.andThen_ok]at e
     cases hs:(nilAhead _ _ _ _).run P w with
     |halt x w'=>rw[hs]at e;cases e
     |ok q w'=>
      rw[hs]at e
      simp only[Result.andThen_ok]at e
      split at e
      ·cases e
      ·cases e;first|exact c|cases c
    ·cases e;first|exact c|cases c
   ·cases e;first|exact c|cases c
  case fieldAddr t x i=>
   rw[←S7 hs]
   simp only[Dt]at d
   split at d
   ·rename_i p h
    split at d
    ·rename_i f g
     have j:P.cellsOf f.type≠0:=fun m=>by rw[m]at d;cases d
     have run:∀(ad:Addr) (w:World),(Instr.fieldAt t (.pointer (some ad)) i).run P w=.ok (.pointer (some (ad.add f.offset))) w:=fun ad w=>by
      simp[Instr.fieldAt,run_underlying h,g,Instr.sureAddr,fieldPlace,Ek j,j]
     change ((Instr.fieldAt t (a.eval x) i)>>=fun y=>(pure (Next.value y):Sem Next)).run P w=_ at e
     generalize a.eval x=q at e⊢
     by_cases n:∃ad,q=.pointer (some ad)
     ·obtain⟨ad,rfl⟩:=n
      rw[Sem.run_bind,run]at e
      cases e
      simp only[pb,block_add]at c
      exact c
     ·exfalso
      have hs:Instr.sureAddr q=.halt (.stuck "an address expected (no nilCheck in front?)"):=by
       unfold Instr.sureAddr
       split
       ·grind
       ·rfl
      simp only[Instr.fieldAt,Sem.run_bind,run_underlying h,Result.andThen_ok,g,hs]at e
      cases e
    grind
   ·cases d
theorem J.put(g:J β env a w)(y:Ux P env o=true)(e:(execOp a.eval o).run P w=.ok n w'){u:Value}(A:pH n=some u):J β (Dd P env o) (a.put o.dst u) w':=by
 have l:=(oM y g e).2
 unfold Dd
 have ev:∀z:Nat,(∀d,o.dst=some d→z≠d)→(a.put o.dst u).eval (.tmp z)=a.eval (.tmp z):=fun z j=>Act.eval_put fun d i hx=>j d i (by cases hx;rfl)
 cases i:o.dst with
 |none=>
  intro p c b f
  rw[←i,ev _ (fun d h=>by rw[i]at h;cases h)]at f
  exact⟨(g p c b f).1,l _ (g p c b f).2⟩
 |some d=>
  intro p c b f
  rw[IM]at c
  rcases c with c|c
  ·split at c
   ·rename_i z j
    split at c
    ·rename_i r x
     obtain rfl:=Hz.1 c
     simp only at f⊢
     have q:n=.value u:=by
      have:Dl P o=true:=by
       unfold Ja at j
       unfold Dl
       cases B:Dt P o with
       |true=>rfl
       |false=>rw[B]at j;cases j
      obtain⟨v,rfl⟩:=(Pf (ρ:=a.eval) this).2 _ _ _ e
      cases A
      rfl
     subst q
     have k:pb u=some b:=by
      have:(a.put (some d) u).eval (.tmp d)=u∨(a.put (some d) u).eval (.tmp d)=undef:=by
       simp only[Act.eval,Act.put,Yz,NO]
       split
       ·rename_i h
        split<;>simp_all
       ·simp_all
      rcases this with h|h
      ·rw[h]at f;exact f
      ·rw[h]at f;cases f
     obtain⟨s,t⟩:=g _ (Ks x) _ (qh j e k)
     exact⟨s,l _ t⟩
    ·cases c
   ·cases c
  ·rw[DY]at c
   have m:p.1≠d:=fun he=>by have:=c.2;rw[he,Q4]at this;cases this
   rw[←i,ev _ (fun d' h=>by rw[i]at h;cases h;exact m)]at f
   exact⟨(g p c.1 b f).1,l _ (g p c.1 b f).2⟩
def qy(env:List (Nat×Nat))(o:Oper):Bool:=match o.dst with
 |none=>true
 |some d=>env.all fun p=>!Nat.beq p.1 d
theorem J.keep(c:J β env a w)(k:Ux P env o=true)(g:qy env o=true)(e:(execOp a.eval o).run P w=.ok n w'){u:Value}:J β env (a.put o.dst u) w':=by
 have i:=(oM k c e).2
 intro p h b f
 have:(a.put o.dst u).eval (.tmp p.1)=a.eval (.tmp p.1):=Act.eval_put fun d j hx=>by
  cases hx
  unfold qy at g
  rw[j]at g
  have:=Yq.1 g p h
  rw[Q4]at this
  cases this
 rw[this]at f
 exact⟨(c p h b f).1,i _ (c p h b f).2⟩
end
end Go.Eng
