import Derived.Test.YtopncadjpnkjhaaGreatDoorZk09
import Derived.Test.YtopncadjpnkjhaaGreatDoorZk00
namespace Go.Eng
set_option linter.all false
open Go Go.RowKit
def CK:Nat→List Blk→List (Aa×Blk)
 |_,[]=>[]
 |i,b::bs=>((0,i),b)::CK (i+1) bs
abbrev Cl:=(Aa→Prop)→Nat→Hp→(Nat→AV)→Prop
structure KO (P:Program) (f:FuncId) (os:Nat) (ys:List AV) (bi:List Blk) (Θ:Cl) {γ:Type} (M:Option γ) (e:γ→AV) (bs:γ→List Blk):Prop where
 k:∀l H (ks:List Aa) (gs:List Nat) (θ:Nat→AV),ks.length=os→G3 l ks→ks.Nodup→HD H (BQ l ks gs θ H) (CK 0 bi) 0 ks→Θ (fun k=>k∈ks) l H θ→∀y,M=some y→
  ZbW P f l (Af (BQ l ks gs θ H) ys) H (fun z H'=>z=ren (BQ l ks gs θ H) (e y)∧H'=CR H ks (Ca (BQ l ks gs θ H) 0 (bs y)))
mutual
def Ht(os:Nat):AV→Bool
 |.ref k _ _ _=>Nat.beq k.1 0&&Nat.ble (k.2+1) os
 |.ptr k _ _=>Nat.beq k.1 0&&Nat.ble (k.2+1) os
 |.mp k _=>Nat.beq k.1 0&&Nat.ble (k.2+1) os
 |.fn f xs ys=>(match f with|.yield _=>false|_=>true)&&Hb os xs&&Hb os ys
 |.agg xs=>Hb os xs
 |.tup xs=>Hb os xs
 |.top=>true
 |.d _=>true
 |.e0=>true
 |.p _=>true
 |.iptr _ _=>true
 |.ifc _ _ _=>true
def Hb(os:Nat):List AV→Bool
 |[]=>true
 |x::xs=>Ht os x&&Hb os xs
end
def JB(os:Nat)(r a:Ren):Prop:=∀q,q<os→r.κ (0,q)=a.κ (0,q)∧r.γ (0,q)=a.γ (0,q)
theorem Vd{os:Nat}{r c:Ren}(hs:JB os r c){k:Aa}(h:(Nat.beq k.1 0&&Nat.ble (k.2+1) os)=true):r.κ k=c.κ k∧r.γ k=c.γ k:=by
 simp only[Yb]at h
 obtain⟨a,b⟩:=k
 have d:=Ya h.1
 have e:=Yd h.2
 simp only at d e
 subst d
 exact hs b e
mutual
theorem Vc{os:Nat}{r c:Ren}(hs:JB os r c):∀x:AV,Ht os x=true→ren r x=ren c x
 |.ref k g off n,h=>by obtain⟨a,b⟩:=Vd hs h;simp only[ren,a,b]
 |.ptr k g off,h=>by obtain⟨a,b⟩:=Vd hs h;simp only[ren,a,b]
 |.mp k g,h=>by obtain⟨a,b⟩:=Vd hs h;simp only[ren,a,b]
 |.fn f xs ys,h=>by
  simp only[Ht,Yb]at h
  have a:=I9 hs xs h.1.2
  have b:=I9 hs ys h.2
  cases f<;>first|(simp only[ren,a,b];done)|(simp at h)
 |.agg xs,h=>by simp only[Ht]at h;simp only[ren,I9 hs xs h]
 |.tup xs,h=>by simp only[Ht]at h;simp only[ren,I9 hs xs h]
 |.top,_=>by simp[ren]
 |.d _,_=>by simp[ren]
 |.e0,_=>by simp[ren]
 |.p _,_=>by simp[ren]
 |.iptr _ _,_=>by simp[ren]
 |.ifc _ _ _,_=>by simp[ren]
theorem I9{os:Nat}{r a:Ren}(hs:JB os r a):∀xs:List AV,Hb os xs=true→Af r xs=Af a xs
 |[],_=>by simp[Af]
 |x::xs,h=>by
  simp only[Hb,Yb]at h
  simp only[Af,Vc hs x h.1,I9 hs xs h.2]
end
def Er(os:Nat):List Blk→Prop
 |[]=>True
 |b::bs=>(F1 b.cells∨Hb os b.cells=true)∧b.live=true∧Er os bs
theorem Er.ren{os:Nat}{r a:Ren}(hs:JB os r a):∀(bs:List Blk) (i:Nat),i+bs.length≤os→Er os bs→Ca r i bs=Ca a i bs
 |[],_,_,_=>rfl
 |b::bs,i,hl,h=>by
  simp only[Ew]at hl
  have d:Af r b.cells=Af a b.cells:=by
   rcases h.1 with c|e
   ·rw[GN c,GN c]
   ·exact I9 hs _ e
  simp only[Ca,Er.ren hs bs (i+1) (by omega) h.2.2,Ax,d,(hs i (by omega)).2]
theorem Er.live{os:Nat}:∀{bs:List Blk},Er os bs→∀b∈bs,b.live=true
 |c::bs,h,b,a=>by
  rcases YF.1 a with rfl|a
  ·exact h.2.1
  ·exact Er.live h.2.2 b a
theorem GV:F1 []:=fun x a=>by cases a
theorem C1{P:Program}{T:Nat→Option TI}{n:Nat}{f:FuncId}{fn:Func}{ys:List AV}{bi:List Blk}{Θ:Cl}{γ:Type}{M:Option γ}{e:γ→AV}{bs:γ→List Blk}(I:P.funcs[f]?=some fn)(J:fn.ntmps=n)(F:AS P T)(u:List ResultVar)(os:Nat)
  (h:∀C:Cx,CO C os→Θ C.no C.l C.H0 C.θ→∀y,M=some y→∀a:AV→List Blk→Prop,HL (fun y=>a (e y) (bs y)) y→LW P n C (pa [] (As fn)) (Ab (CN 0 ys) (CK 0 bi)) (FQ T u os a))
  (he:∀y,Ht os (e y)=true:=by intro y;kernel_rfl) (v:∀y,Er os (bs y):=by intro y;repeat(first|exact trivial|refine⟨.inl (DT _ _),rfl,?_⟩|refine⟨.inl GV,rfl,?_⟩|refine⟨.inr (by kernel_rfl),rfl,?_⟩)) (hl:∀y,(bs y).length=os:=by intro y;rfl) (o:Gk os (CK 0 bi)=true:=by kernel_rfl)
  (G:fn.body=some (As fn):=by kernel_rfl) (c:(fn.name== "runtime.NumGoroutine")=false:=by kernel_rfl) (d:fn.results.toList=u:=by kernel_rfl) (L:Nat.ble ys.length n=true:=by kernel_rfl):KO P f os ys bi Θ M e bs:=
 ⟨fun l H ks g θ p i t D hΘ y hy=>by
  have hN:∀r,GC l ks g r→JB os r (BQ l ks g θ H):=fun r d q K=>by
   obtain⟨w,x⟩:=d
   exact⟨congrFun w _,x q (by omega)⟩
  refine o6 u (As fn) ks g os θ ys (CK 0 bi) (e y) (bs y) (Y':=ren (BQ l ks g θ H) (e y)) (bs':=Ca (BQ l ks g θ H) 0 (bs y)) I G c J d (by rw[B0];exact Yd L) F p i t o D rfl (hl y) (v y).live
   (fun r d=>Vc (hN r d) _ (he y)) (fun r d=>Er.ren (hN r d) _ _ (by rw[hl];omega) (v y)) (fun C A E B s m N O j=>?_) ⟨rfl,rfl⟩
  refine h C ⟨A,E,B,fun q K=>?_⟩ (by rw[j,s,m,N];exact hΘ) y hy (fun z b=>z=e y∧b=bs y) ⟨rfl,rfl⟩
  rw[j,O]
  show(match A2 ks q with|some k=>k|none=>(0,0))∈ks
  rw[BM,Yc (by omega)]
  exact KJ _⟩
def D1(r:Ren):List (Aa×Blk)→List Nat
 |[]=>[]
 |(k,b)::a=>(r.γ k+b.g)::D1 r a
def BE(r a:Ren):Nat→List Blk→List (Aa×Blk)→Prop
 |i,b::bs,(k,c)::cs=>(b.live=true→c.live=true∧Ax r (0,i) b=Ax a k c)∧r.γ (0,i)+b.g=a.γ k+c.g∧BE r a (i+1) bs cs
 |_,[],[]=>True
 |_,_,_=>False
def Ff:List Aa→Bool
 |[]=>true
 |k::ks=>!(ks.any (Ba k))&&Ff ks
theorem Lk{κ:Aa→Aa}{os:Nat}(a:∀q k:Aa,Bb os q=true→Bb os k=true→q≠k→κ q≠κ k):∀(ks:List Aa),Ff ks=true→ks.all (Bb os)=true→(ks.map κ).Nodup
 |[],_,_=>List.nodup_nil
 |k::ks,h,b=>by
  simp only[Ff,Yb,YN]at h
  simp only[GG,Yb]at b
  rw[Y1,List.nodup_cons]
  refine⟨fun hm=>?_,Lk a ks h.2 b.2⟩
  obtain⟨q,d,e⟩:=YQ.1 hm
  have c:q≠k:=fun e'=>O9 h.1 (e'▸d)
  grind
section
variable {P:Program} {f:FuncId} {os os':Nat} {ys:List AV} {bi:List Blk} {Θ:Cl} {γ:Type} {M:Option γ} {e:γ→AV} {bs:γ→List Blk} {C:Cx} {r:Ren} {xs:List AV} {x:AV} {y:γ}
theorem PM{fx:List Nat}(co:COx C os' fx)(g:Gd C r):∀q k:Aa,Bb os' q=true→Bb os' k=true→q≠k→r.κ q≠r.κ k:=by
 intro q k m j l he
 rw[g.κ]at he
 rcases EE m with e|⟨e,h⟩<;>rcases EE j with f|⟨f,i⟩
 ·obtain⟨a,b⟩:=q
  obtain⟨c,d⟩:=k
  simp only at e f
  subst e;subst f
  rw[co.ok.own,co.ok.own]at he
  grind
 ·obtain⟨a,b⟩:=q
  obtain⟨c,d⟩:=k
  simp only at e f i
  subst e;subst f
  rw[co.ok.own]at he
  have:=co.ok.out d (by rw[co.O];exact i)
  grind
 ·obtain⟨a,b⟩:=q
  obtain⟨c,d⟩:=k
  simp only at e h f
  subst e;subst f
  rw[co.ok.own]at he
  have:=co.ok.out b (by rw[co.O];exact h)
  grind
 ·obtain⟨a,b⟩:=q
  obtain⟨c,d⟩:=k
  simp only at e h f i
  subst e;subst f
  have:=co.ok.inj b d (by rw[co.O];exact h) (by rw[co.O];exact i) he
  grind
theorem Jj{fx:List Nat}(co:COx C os' fx)(g:Gd C r):∀(ks:List Aa),ks.all (Bb os')=true→G3 (C.l+1) (ks.map r.κ)
 |[],_=>trivial
 |k::ks,h=>by
  simp only[GG,Yb]at h
  refine⟨?_,Jj co g ks h.2⟩
  rw[g.κ]
  obtain⟨a,b⟩:=k
  rcases EE h.1 with c|⟨c,d⟩
  ·simp only at c;subst c;rw[co.ok.own];exact Yg _
  ·simp only at c d;subst c;exact Rp (co.ok.out b (by rw[co.O];exact d))
theorem LC:∀(bi:List Blk) (i j:Nat),At (CK i bi) (0,i+j)=(bi[j]?).getD D0
 |[],i,j=>by simp[CK,At]
 |b::bi,i,0=>by simp[CK,At,Ba]
 |b::bi,i,j+1=>by
  have a:=LC bi (i+1) j
  simp only[CK,At]
  have:Ba (0,i) (0,i+(j+1))=false:=by
   simp only[Ba,KM]
   right
   cases h:Nat.beq i (i+(j+1))with
   |false=>rfl
   |true=>have:=Ya h;omega
  grind
theorem LK{l:Ren}{d:Hp}:∀(bi:List Blk) (a:List (Aa×Blk)) (i:Nat) (B:List Blk),(∀j,At (CK 0 B) (0,i+j)=(bi[j]?).getD D0)→BE l r i bi a→
  (∀p∈a,(d (r.κ p.1)).g=r.γ p.1+p.2.g∧(p.2.live=true→d (r.κ p.1)=Ax r p.1 p.2))→HD d l (CK 0 B) i ((a.map (·.1)).map r.κ)
 |[],[],i,B,_,_,_=>trivial
 |b::bi,(k,c)::a,i,B,f,h,g=>by
  have e:=f 0
  simp only[Y2,YR,Ey]at e
  obtain⟨o,q,m⟩:=h
  refine⟨?_,LK bi a (i+1) B (fun j=>?_) m fun p n=>g p (YC _ n)⟩
  ·rw[e]
   have s:=g _ (YJ ..)
   grind
  ·have:=f (j+1)
   grind
 |[],_::_,_,_,_,h,_=>h.elim
 |_::_,[],_,_,_,h,_=>h.elim
theorem qw{H:Hp}{k:Aa}:updH H k (H k)=H:=by
 funext q
 by_cases h:q=k
 ·subst h;exact AF ..
 ·exact Au _ _ h
theorem UJ{g:Ren}{d:Hp}:∀(bi:List Blk) (a:List (Aa×Blk)) (i:Nat),BE g r i bi a→(∀b∈bi,b.live=true)→(∀p∈a,p.2.live=true→d (r.κ p.1)=Ax r p.1 p.2)→CR d ((a.map (·.1)).map r.κ) (Ca g i bi)=d
 |[],[],_,_,_,_=>rfl
 |b::bi,(k,c)::a,i,h,hl,f=>by
  obtain⟨l,q,m⟩:=h
  have e:=l (hl b (YJ ..))
  have j:=f _ (YJ ..) e.1
  simp only[Y1,CR,Ca]
  rw[e.2,←j,qw]
  exact UJ bi a (i+1) m (fun b n=>hl b (YC _ n)) fun p o=>f p (YC _ o)
 |[],_::_,_,h,_,_=>h.elim
 |_::_,[],_,h,_,_=>h.elim
theorem U6{j:Ren}:∀(d:List Blk) (f a:List (Aa×Blk)) (i:Nat) (g:Hp),BE j r i d a→(∀b∈d,b.live=true)→f.map (·.1)=a.map (·.1)→CR g ((f.map (·.1)).map r.κ) (Ca j i d)=Ct r a g
 |[],[],[],_,_,_,_,_=>rfl
 |[],_::_,[],_,_,_,_,h=>by cases h
 |b::d,[],_::_,_,_,_,_,h=>by cases h
 |b::d,(k,c)::f,(q,o)::a,i,g,h,hl,he=>by
  obtain⟨l,p,m⟩:=h
  simp only[Y1,List.cons.injEq]at he
  obtain⟨rfl,he⟩:=he
  have e:=l (hl b (YJ ..))
  simp only[Y1,CR,Ca,Ct]
  rw[e.2]
  exact U6 d f a (i+1) _ m (fun b n=>hl b (YC _ n)) he
 |_::_,_,[],_,_,h,_,_=>h.elim
 |[],_,_::_,_,_,h,_,_=>h.elim
def rC(C:Cx)(r:Ren)(a:List (Aa×Blk))(θ:Nat→AV)(H:Hp):Ren:=BQ (C.l+1) ((a.map (·.1)).map r.κ) (D1 r a) θ H
def Th(Θ:Cl)(C:Cx)(r:Ren)(b c:List (Aa×Blk))(θ:Nat→AV):Prop:=
 ∀a,(∀p∈c,(a (r.κ p.1)).g=r.γ p.1+p.2.g∧(p.2.live=true→a (r.κ p.1)=Ax r p.1 p.2))→(∀k:Aa,k.1≤C.l→¬r.no k→a k=r.H0 k)→Θ (fun k=>k∈(b.map (·.1)).map r.κ) (C.l+1) a θ
theorem CF(K:KO P f os ys bi Θ M e bs)(hy:M=some y){fx:List Nat}(co:COx C os' fx)(g:Gd C r)(a k:List (Aa×Blk))(θ:Nat→AV)(hΘ:Th Θ C r a (a++k) θ)(l:∀H,BE (rC C r a θ H) r 0 bi a)(t:bs y=bi:=by rfl)(n:bi.all Blk.live=true:=by kernel_rfl)(i:(a++k).all (fun p=>p.2.live)=true:=by kernel_rfl)(F:∀H,Af (rC C r a θ H) ys=Af r xs:=by intro H;kernel_rfl)(u:∀H,ren (rC C r a θ H) (e y)=ren r x:=by intro H;kernel_rfl)
  (m:((a.map (·.1)).all (Bb os')&&Ff (a.map (·.1))&&Nat.beq a.length os)=true:=by kernel_rfl):Fh P C.l r f xs (a++k) x:=by
 intro d v D
 have s:∀b∈bi,b.live=true:=fun b E=>Ym.1 n b E
 have o:∀p∈a++k,p.2.live=true:=fun p c=>Ym.1 i p c
 have h:∀p∈a,p∈a++k:=fun p c=>HO _ c
 simp only[Yb]at m
 have q:∀p∈a++k,(d (r.κ p.1)).g=r.γ p.1+p.2.g∧(p.2.live=true→d (r.κ p.1)=Ax r p.1 p.2):=fun p c=>⟨by rw[v p c (o p c)];rfl,v p c⟩
 have:=K.k (C.l+1) d ((a.map (fun p:Aa×Blk=>p.1)).map r.κ) (D1 r a) θ (by rw[Yz,Yz];exact Ya m.2) (Jj co g _ m.1.1) (Lk (PM co g) _ m.1.2 m.1.1)
  (LK bi a 0 bi (fun j=>by have:=LC bi 0 j;rwa [YH]at this⊢) (l d) fun p c=>q p (h p c)) (hΘ d q D) y hy
 rw[←F d]
 refine this.mono fun z w ⟨A,B⟩=>⟨A.trans (u d),B.trans ?_⟩
 rw[t]
 exact UJ bi a 0 (l d) s fun p c hl=>(q p (h p c)).2 hl
theorem rx(K:KO P f os ys bi Θ M e bs)(hy:M=some y){fx:List Nat}(co:COx C os' fx)(g:Gd C r)(a m c:List (Aa×Blk))(θ:Nat→AV)(hΘ:Th Θ C r a (a++m) θ)
  (n:∀H,BE (rC C r a θ H) r 0 bi a) (h:∀H,BE (rC C r a θ H) r 0 (bs y) c) (k:(bs y).all Blk.live=true:=by kernel_rfl) (D:∀H,Af (rC C r a θ H) ys=Af r xs:=by intro H;kernel_rfl) (s:∀H,ren (rC C r a θ H) (e y)=ren r x:=by intro H;kernel_rfl)
  (i:((a.map (·.1)).all (Bb os')&&Ff (a.map (·.1))&&Nat.beq a.length os)=true:=by kernel_rfl) (he:a.map (·.1)=c.map (·.1):=by rfl):F4 P C.l r f xs (a++m) x c []:=by
 have o:∀b∈bs y,b.live=true:=fun b B=>Ym.1 k b B
 have l:∀p∈a,p∈a++m:=fun p q=>HO _ q
 refine rv rfl rfl fun d t A=>?_
 simp only[Yb]at i
 have:=K.k (C.l+1) d ((a.map (fun p:Aa×Blk=>p.1)).map r.κ) (D1 r a) θ (by rw[Yz,Yz];exact Ya i.2) (Jj co g _ i.1.1) (Lk (PM co g) _ i.1.2 i.1.1)
  (LK bi a 0 bi (fun j=>by have:=LC bi 0 j;rwa [YH]at this⊢) (n d) fun p q=>t p (l p q)) (hΘ d t A) y hy
 rw[←D d]
 exact this.mono fun z u ⟨v,w⟩=>⟨v.trans (s d),w.trans (U6 (bs y) a c 0 d (h d) o he)⟩
end
structure CloM (P:Program) (C:Cx) (i:Nat) (xs:List AV) {γ:Type} (M:Option γ) (e:γ→AV):Prop where
 k:∀y,M=some y→BA P C.l C.no C.H0 (C.θ i) xs (e y)
 x:∀r,Af r xs=xs
 e:∀r y,ren r (e y)=e y
section
variable {os:Nat} {β γ:Type} [Inhabited γ]
theorem CloM.callF{P:Program}{i:Nat}{xs:List AV}{M:Option γ}{e:γ→AV}(E:Ev os β)(h:CloM P E.C i xs M e){y:γ}(hy:M=some y):Jx P E.E.l E.E.r i xs [] (e y):=
 rl (congrFun E.g.θ i) (by rw[E.hl,E.g.no,E.g.H];exact h.k y hy) (h.x _) (h.e _ _)
@[reducible] def cf(P:Program)(i:Nat)(xs:List AV)(M:Option γ)(e:γ→AV)(k:γ→PT os β):PT os β:=
 ⟨.call (e (M.getD default)) [] (k (M.getD default)).a,fun E=>Jx P E.l E.r i xs [] (e (M.getD default))∧(k (M.getD default)).q E,M.bind fun y=>(k y).m,fun E=>CloM P E.C i xs M e∧∀y,(k y).n E,fun E b y hm f=>by
  obtain⟨x,a,c⟩:=bind_some hm
  have d:M.getD default=x:=by rw[a];rfl
  rw[d]
  exact⟨b.1.callF E a,(k x).ok E (b.2 x) y c f⟩⟩
@[reducible] def wx(b:Bool)(P:Program)(i:Nat)(xs:List AV)(M:Option γ)(e:γ→AV)(k:γ→PT os β):PT os β:=
 ⟨.call (e (M.getD default)) [] (k (M.getD default)).a,fun E=>(b=true→Jx P E.l E.r i xs [] (e (M.getD default)))∧(k (M.getD default)).q E,if(b=true→M.isSome=true)then(k (M.getD default)).m else none,fun E=>CloM P E.C i xs M e∧∀y,(k y).n E,fun E c y hm g=>by
  obtain⟨d,hm⟩:=Bo hm
  refine⟨fun h=>?_,(k _).ok E (c.2 _) y hm g⟩
  obtain⟨x,a⟩:=YX.1 (d h)
  have f:M.getD default=x:=by rw[a];rfl
  rw[f];exact c.1.callF E a⟩
@[reducible] def cs(P:Program)(f:FuncId)(xs:List AV)(ks:List Aa)(b:List (Aa×Blk))(M:Option γ)(e:γ→AV)(k:γ→PT os β):PT os β:=
 ⟨.call (e (M.getD default)) ks (k (M.getD default)).a,fun E=>Fh P E.l E.r f xs b (e (M.getD default))∧(k (M.getD default)).q E,M.bind fun y=>(k y).m,fun E=>(∀y,M=some y→Fh P E.C.l E.E.r f xs b (e y))∧∀y,(k y).n E,fun E c y hm h=>by
  obtain⟨x,a,d⟩:=bind_some hm
  have g:M.getD default=x:=by rw[a];rfl
  rw[g]
  exact⟨by rw[E.hl];exact c.1 x a,(k x).ok E (c.2 x) y d h⟩⟩
@[reducible] def DH(b:Bool)(P:Program)(f:FuncId)(xs:List AV)(ks:List Aa)(a:List (Aa×Blk))(M:Option γ)(e:γ→AV)(k:γ→PT os β):PT os β:=
 ⟨.call (e (M.getD default)) ks (k (M.getD default)).a,fun E=>(b=true→Fh P E.l E.r f xs a (e (M.getD default)))∧(k (M.getD default)).q E,if(b=true→M.isSome=true)then(k (M.getD default)).m else none,fun E=>(∀y,M=some y→Fh P E.C.l E.E.r f xs a (e y))∧∀y,(k y).n E,fun E d y hm i=>by
  obtain⟨g,hm⟩:=Bo hm
  refine⟨fun a=>?_,(k _).ok E (d.2 _) y hm i⟩
  obtain⟨x,c⟩:=YX.1 (g a)
  have h:M.getD default=x:=by rw[c];rfl
  rw[h,E.hl];exact d.1 x c⟩
@[reducible] def mv{α:Type}[Rw α](d q:Nat)(xs:List α)(k:PT os β)(a:Nat.ble (q+1) os=true:=by kernel_rfl):PT os β:=
 ⟨.mv d q k.a,fun E=>Ea (Ac Rw.e xs)∧(q<os∧E.r.no (E.r.κ (0,q)))∧k.q E,k.m,k.n,fun E c y hm b=>
  ⟨db _ _,⟨Yd a,by rw[E.g.no,E.g.κ];exact E.co.W q (Yd a)⟩,k.ok E c y hm b⟩⟩
@[reducible] def mvc{α:Type}[Rw α](d q e i:Nat)(xs:List α)(k:PT os β)(a:Nat.ble (q+1) os=true:=by kernel_rfl):PT os β:=
 ⟨.mvc d q e i k.a,fun E=>Ea (Ac Rw.e xs)∧(q<os∧E.r.no (E.r.κ (0,q)))∧k.q E,k.m,k.n,fun E c y hm b=>
  ⟨db _ _,⟨Yd a,by rw[E.g.no,E.g.κ];exact E.co.W q (Yd a)⟩,k.ok E c y hm b⟩⟩
end
section
variable {P:Program} {os os':Nat} {ys:List AV} {bi:List Blk} {Θ:Cl} {γ:Type} {M:Option γ} {e:γ→AV} {bs:γ→List Blk} {C:Cx} {r:Ren} {y:γ}
theorem FZ{f:FuncId}(K:KO P f os ys bi Θ M e bs)(hy:M=some y){fx:List Nat}(co:COx C os' fx)(g:Gd C r)(c i:List (Aa×Blk)){w:List (Aa×Blk)}{v:Hp}(L:∀p∈w,(v (r.κ p.1)).g=r.γ p.1+p.2.g∧(p.2.live=true→v (r.κ p.1)=Ax r p.1 p.2))(u:∀p∈c,p∈w)
  {G d:List AV} (θ:Nat→AV) (hΘ:∀l' a,Θ (fun k=>k∈(c.map (·.1)).map r.κ) l' a θ) (o:∀l H,BE (BQ l ((c.map (·.1)).map r.κ) (D1 r c) θ H) r 0 bi c) (B:bs y=bi:=by rfl) (t:bi.all Blk.live=true:=by kernel_rfl)
  (O:∀l H,Af (BQ l ((c.map (·.1)).map r.κ) (D1 r c) θ H) ys=G++d:=by intro l H;kernel_rfl) (D:∀l H,ren (BQ l ((c.map (·.1)).map r.κ) (D1 r c) θ H) (e y)=e y:=by intro l H;kernel_rfl)
  (F:(((c++i).map (·.1)).all (Bb os')&&Ff ((c++i).map (·.1))&&Nat.beq c.length os)=true:=by kernel_rfl):BA P (C.l+1) (fun k=>k∈(i.map (·.1)).map r.κ) v (.fn (.func f) [] d) G (e y):=by
 have A:∀b∈bi,b.live=true:=fun b w=>Ym.1 t b w
 refine⟨f,[],d,rfl,fun l' a hl N=>?_⟩
 simp only[Yb,IT,List.all_append]at F
 obtain⟨⟨⟨E,R⟩,S⟩,T⟩:=F
 have m:=Lk (PM co g) _ S (by rw[List.all_append,E,R];rfl)
 rw[IT,List.nodup_append]at m
 have x:∀p∈c,a (r.κ p.1)=v (r.κ p.1):=fun p n=>by
  have hm:r.κ p.1∈(c.map (·.1)).map r.κ:=Rz (Rz n)
  exact N _ (Pc (Jj co g _ E) _ hm) fun h=>m.2.2 _ hm _ h rfl
 have q:∀p∈c,(a (r.κ p.1)).g=r.γ p.1+p.2.g∧(p.2.live=true→a (r.κ p.1)=Ax r p.1 p.2):=fun p n=>by rw[x p n];exact L p (u p n)
 have s:G3 l' ((c.map (·.1)).map r.κ):=by
  have:=Jj co g (c.map (·.1)) E
  generalize (c.map (·.1)).map r.κ=ks at this
  induction ks with
  |nil=>trivial
  |cons k ks Q=>exact⟨Do this.1 hl,Q this.2⟩
 have:=K.k l' a ((c.map (fun p:Aa×Blk=>p.1)).map r.κ) (D1 r c) θ (by rw[Yz,Yz];exact Ya T) s m.1
  (LK bi c 0 bi (fun j=>by have:=LC bi 0 j;rwa [YH]at this⊢) (o l' a) q) (hΘ l' a) y hy
 rw[FL,←O l' a]
 refine this.mono fun z U ⟨I,J⟩=>⟨I.trans (D l' a),J.trans ?_⟩
 rw[B]
 exact UJ bi c 0 (o l' a) A fun p n hl=>(q p n).2 hl
theorem GR{f:FuncId}{xs:List AV}(K:KC P f xs M e)(hy:M=some y){l:Nat}{no:Aa→Prop}{H:Hp}:BA P l no H (.fn (.func f) [] []) xs (e y):=qZ fun l' a=>K.k l' a y hy
end
theorem Fb{C:Cx}{r:Ren}{os':Nat}{P:Program}{i:Nat}{xs:List AV}{y:AV}{fx:List Nat}(co:COx C os' fx)(g:Gd C r)(m:List (Aa×Blk)){l:Hp}(p:∀k:Aa,k.1≤C.l→¬r.no k→l k=r.H0 k)(h:BA P C.l C.no C.H0 (C.θ i) xs y)
  (o:((m.map (·.1)).all (Bb os'))=true:=by kernel_rfl):BA P (C.l+1) (fun k=>k∈(m.map (·.1)).map r.κ) l (r.θ i) xs y:=by
 rw[g.θ]
 refine to h (Nat.le_succ _) (fun q f d hm=>?_) fun q f d=>?_
 ·obtain⟨k,j,e⟩:=YQ.1 hm
  rw[g.κ]at e
  obtain⟨a,b⟩:=k
  rcases EE (Ym.1 o _ j)with c|⟨c,n⟩
  ·simp only at c;subst c;rw[co.ok.own]at e;rw[←e]at f;simp only at f;omega
  ·simp only at c n;subst c;rw[←e]at d;exact d (co.W b n)
 ·rw[←g.H];exact p q f (by rw[g.no];exact d)
theorem EB{r b:Ren}{k k':Aa}{g a:Nat}{e:EK}{sz:Nat}{cs:List AV}(h:F1 cs)(c:r.γ k+g=b.γ k'+a):Ax r k ⟨g,true,e,sz,cs⟩=Ax b k' ⟨a,true,e,sz,cs⟩:=by
 simp only[Ax,GN h,c]
section
variable {P:Program} {T:Nat→Option TI} {n:Nat} {C:Cx} {τ:St} {Q:Exit→St→Prop} {os k:Nat} {c:Code} {β:Type} {L:β→Prop} {y:β}
theorem nP{fx:List Nat}(co:COx C os fx)(o:AS P T)(m:Nat)(v:PT os β)(lf:Lf)(s:v.m=some y)(j:HL L y)(p:∀r (g:Gd C r),v.n ⟨⟨C.l,r,fun _ τ'=>LO P n C c (k+m) τ' Q,fun _ _=>False⟩,L,C,_,co,g,rfl⟩)
  (q:∀l r Q b,AR r os v.a τ (fun τ a=>Et P T l n r ((Bx c).toList.map (·.dst)) (F3 m (Fj k (Bx c).toList)) [] a (fun τ' env d=>AR r os d (CT env τ') (fun τ _=>Dc fx lf τ (Q .normal))) τ)=v.q ⟨l,r,Q,b⟩:=by intro l r Q P;kernel_rfl):LO P n C c k τ Q:=
 ws co.ok o co.O co.F m v.a lf (fun r Φ=>v.q ⟨C.l,r,fun _=>Φ,fun _ _=>False⟩) (fun r Φ=>q _ r (fun _=>Φ) _) fun r e f h i=>v.ok _ (p r ⟨e,f,h,i⟩) y s j
theorem nA{fx:List Nat}(co:COx C os fx)(m:AS P T)(v:PT os β)(lf:Lf)(q:v.m=some y)(j:HL L y)(o:∀r (g:Gd C r),v.n ⟨⟨C.l,r,Q,fun _ _=>False⟩,L,C,_,co,g,rfl⟩)
  (p:∀l r Q b,AR r os v.a τ (fun τ a=>Et P T l n r ((Bx c).toList.map (·.dst)) (Fj k (Bx c).toList) [] a (fun τ' env d=>AR r os d (CT env τ') (fun τ _=>Dc fx lf τ (Q .normal))) τ)=v.q ⟨l,r,Q,b⟩:=by intro l r Q P;kernel_rfl):LO P n C c k τ Q:=
 vq co.ok m co.O co.F v.a lf (fun r Q=>v.q ⟨C.l,r,Q,fun _ _=>False⟩) (fun r Q=>p _ r Q _) fun r e f h i=>v.ok _ (o r ⟨e,f,h,i⟩) y q j
theorem mn{γ:Type}{M:Option γ}{kk:γ→Option β}{ss:List (Nat×AV)}{hs:List (Aa×Blk)}{fx:List Nat}(co:COx C os fx)(hm:M.bind kk=some y)(f:FuncId)(xs:List AV)(ks:List Aa)(b:List (Aa×Blk))(e:γ→AV)(Al:γ→List (Aa×Blk))(fl:List Aa)
  (l:∀z,D6 C (Al z)) (d:Hn (At hs) fl) (a:∀z,M=some z→∀r,Gd C r→F4 P C.l r f xs b (e z) (Al z) [])
  (h:∀z,kk z=some y→LO P n C c (k+1) (Ab (Fv (Ec c k) (e z) (Db [] ss)) (Al z++Ch ((Al z).map (·.1)) [] fl hs)) Q)
  (j:Fc c k=some (Ec c k,callF c k,Fg c k):=by kernel_rfl) (v:ev (AH ss) (callF c k)=.fn (.func f) [] []:=by kernel_rfl) (m:[]++(Fg c k).map (ev (AH ss))++[]=xs:=by kernel_rfl) (g:(ks.map fun k=>(k,At hs k))=b:=by kernel_rfl)
  (i:∀z,(CU os (Al z)&&JX [] (Al z)&&Jn [] fx&&F2 hs&&Jv n (Ec c k)&&ks.all (Bb os))=true:=by intro z;kernel_rfl):LO P n C c k (Ab ss hs) Q:=by
 obtain⟨z,o,p⟩:=bind_some hm
 exact dN co.ok co.O co.F f [] [] xs j v m ks b g (e z) (Al z) [] fl (i z) (l z) d (fun r q s t u=>a z o r ⟨q,s,t,u⟩) (h z p)
theorem s6 {f os os':Nat} {ys xs:List AV} {bi:List Blk} {γ:Type} {M:Option γ} {e:γ→AV} {bs:γ→List Blk} {z:γ} {x:AV} {r:Ren} (K:KO P f os ys bi (fun _ _ _ _=>True) M e bs) (hy:M=some z) {fx:List Nat} (co:COx C os' fx) (g:Gd C r) (a d:List (Aa×Blk)) (h:∀H,BE (rC C r a (AH []) H) r 0 bi a:=by
   intro H
   repeat(first|exact trivial|refine⟨fun _=>⟨rfl,EB (DT _ _) (by kernel_rfl)⟩,by kernel_rfl,?_⟩|refine⟨fun _=>⟨rfl,EB GV (by kernel_rfl)⟩,by kernel_rfl,?_⟩|refine⟨fun _=>⟨rfl,by kernel_rfl⟩,by kernel_rfl,?_⟩))
  (i:bs z=bi:=by rfl) (c:bi.all Blk.live=true:=by kernel_rfl) (b:(a++d).all (fun p=>p.2.live)=true:=by kernel_rfl) (l:∀H,Af (rC C r a (AH []) H) ys=Af r xs:=by intro H;kernel_rfl) (j:∀H,ren (rC C r a (AH []) H) (e z)=ren r x:=by intro H;kernel_rfl)
  (k:((a.map (·.1)).all (Bb os')&&Ff (a.map (·.1))&&Nat.beq a.length os)=true:=by kernel_rfl):Fh P C.l r f xs (a++d) x:=
 CF K hy co g a d (AH []) (fun _ _ _=>trivial) h i c b l j k
theorem c6{γ:Type}{M:Option γ}{kk:γ→Option β}{ss:List (Nat×AV)}{hs:List (Aa×Blk)}{f:FuncId}{os':Nat}{ys:List AV}{bi:List Blk}{Θ:Cl}{e0:γ→AV}{bs:γ→List Blk}{fx:List Nat}(co:COx C os fx)(hm:M.bind kk=some y)(K:KO P f os' ys bi Θ M e0 bs)
  (a b:List (Aa×Blk)) (e:γ→AV) (Al:γ→List (Aa×Blk)) (fl:List Aa)
  (h:∀z,kk z=some y→LO P n C c (k+1) (Ab (Fv (Ec c k) (e z) (Db [] ss)) (Al z++Ch ((Al z).map (·.1)) [] fl hs)) Q)
  (θ:Ren→Nat→AV:=fun _=>AH []) (hΘ:∀r,Gd C r→Th Θ C r a (a++b) (θ r):=by intro r g;exact fun _ _ _=>trivial) (xs:List AV:=[]++(Fg c k).map (ev (AH ss))++[])
  (q:∀z,D6 C (Al z):=by intro z;repeat(first|exact trivial|refine⟨COx.W ‹_› _ (by decide),?_⟩))
  (j:Hn (At hs) fl:=by repeat(first|exact trivial|refine⟨DT _ _,?_⟩))
  (i:∀r H,BE (rC C r a (θ r) H) r 0 bi a:=by
   intro r H
   repeat(first|exact trivial|refine⟨fun _=>⟨rfl,EB (DT _ _) (by kernel_rfl)⟩,by kernel_rfl,?_⟩|refine⟨fun _=>⟨rfl,EB GV (by kernel_rfl)⟩,by kernel_rfl,?_⟩|refine⟨fun _=>⟨rfl,by kernel_rfl⟩,by kernel_rfl,?_⟩|refine⟨(fun h=>nomatch h),by kernel_rfl,?_⟩))
  (d:∀z r H,BE (rC C r a (θ r) H) r 0 (bs z) (Al z):=by
   intro z r H
   repeat(first|exact trivial|refine⟨fun _=>⟨rfl,EB (DT _ _) (by kernel_rfl)⟩,by kernel_rfl,?_⟩|refine⟨fun _=>⟨rfl,EB GV (by kernel_rfl)⟩,by kernel_rfl,?_⟩|refine⟨fun _=>⟨rfl,by kernel_rfl⟩,by kernel_rfl,?_⟩))
  (w:∀r H,Af (rC C r a (θ r) H) ys=Af r xs:=by intro r H;kernel_rfl) (s:[]++(Fg c k).map (ev (AH ss))++[]=xs:=by kernel_rfl) (t:∀z r H,ren (rC C r a (θ r) H) (e0 z)=ren r (e z):=by intro z r H;kernel_rfl)
  (p:Fc c k=some (Ec c k,callF c k,Fg c k):=by kernel_rfl) (u:ev (AH ss) (callF c k)=.fn (.func f) [] []:=by kernel_rfl)
  (l:(((a++b).map (·.1)).map fun k=>(k,At hs k))=a++b:=by kernel_rfl) (m:∀z,(bs z).all Blk.live=true:=by intro z;kernel_rfl) (he:∀z,a.map (·.1)=(Al z).map (·.1):=by intro z;rfl)
  (v:((a.map (·.1)).all (Bb os)&&Ff (a.map (·.1))&&Nat.beq a.length os')=true:=by kernel_rfl)
  (o:∀z,(CU os (Al z)&&JX [] (Al z)&&Jn [] fx&&F2 hs&&Jv n (Ec c k)&&((a++b).map (·.1)).all (Bb os))=true:=by intro z;kernel_rfl):LO P n C c k (Ab ss hs) Q:=
 mn co hm f xs _ (a++b) e Al fl q j (fun z x r g=>rx K x co g a b (Al z) (θ r) (hΘ r g) (fun H=>i r H) (fun H=>d z r H) (m z) (fun H=>w r H) (fun H=>t z r H) v (he z)) h p u s l o
theorem m5{fx:List Nat}(co:COx C os fx)(v:PT os β)(lf:Lf)(k:v.m=some y)(h:HL L y)(i:∀r (g:Gd C r),v.n ⟨⟨C.l,r,fun _ τ'=>LW P n C c τ' Q,fun _ _=>False⟩,L,C,_,co,g,rfl⟩)
  (j:∀l r Q a,AR r os v.a τ (fun τ _=>Dc fx lf τ (Q .normal))=v.q ⟨l,r,Q,a⟩:=by intro l r Q P;kernel_rfl):LW P n C c τ Q:=
 s7 co.ok co.O co.F v.a lf (fun r Φ=>v.q ⟨C.l,r,fun _=>Φ,fun _ _=>False⟩) (fun r Φ=>j _ r (fun _=>Φ) _) fun r b d e f=>v.ok _ (i r ⟨b,d,e,f⟩) y k h
theorem rg{c:Code}(h:LO P n C c 0 τ Q)(hs:iS c=true:=by kernel_rfl):LW P n C c τ Q:=pW hs h
end
end Go.Eng
namespace Go.Eng
set_option linter.all false
open Go Go.RowKit
section
variable {α β:Type} (P:Program)
def Vp(s:Sem α):Prop:=∀w r a,s.run P w=.ok r a→a=w∧∀w2,s.run P w2=.ok r w2
def Rd(s:Sem α):Prop:=∀w r a,s.run P w=.ok r a→a=w
variable {P}
theorem Vp.rd{s:Sem α}(h:Vp P s):Rd P s:=fun w r a e=>(h w r a e).1
theorem Vp.pure(a:α):Vp P (Pure.pure a:Sem α):=fun w r b e=>by cases e;exact⟨rfl,fun _=>rfl⟩
theorem Vp.halt(h:Halt):Vp P (.halt h:Sem α):=fun w r a e=>by cases e
theorem Vp.program:Vp P Go.program:=fun w r a e=>by cases e;exact⟨rfl,fun _=>rfl⟩
theorem Vp.bind{s:Sem α}{f:α→Sem β}(h:Vp P s)(k:∀a,Vp P (f a)):Vp P (s>>=f):=fun w r g e=>by
 rw[Sem.run_bind]at e
 cases hs:s.run P w with
 |halt x w'=>rw[hs]at e;cases e
 |ok a w'=>
  rw[hs]at e
  obtain⟨rfl,b⟩:=h w a w' hs
  obtain⟨c,d⟩:=k a _ _ _ e
  exact⟨c,fun w2=>by rw[Sem.run_bind,b w2];exact d w2⟩
theorem Rd.bind{s:Sem α}{f:α→Sem β}(h:Rd P s)(k:∀a,Rd P (f a)):Rd P (s>>=f):=fun w r c e=>by
 rw[Sem.run_bind]at e
 cases hs:s.run P w with
 |halt x w'=>rw[hs]at e;cases e
 |ok a w'=>
  rw[hs]at e
  have b:=h w a w' hs
  subst b
  exact k a _ _ _ e
theorem Us(t:TypeId):Vp P (typeInfo t):=by
 unfold typeInfo
 refine Vp.program.bind fun p=>?_
 split
 ·exact .pure _
 ·exact .halt _
theorem GL(t:TypeId):Vp P (underlying t):=by
 unfold underlying
 refine Vp.program.bind fun p=>?_
 split
 ·exact .pure _
 ·exact .halt _
theorem DS(t:TypeId):Vp P (sizeOf t):=by unfold sizeOf;exact(Us t).bind fun _=>.pure _
theorem Jb(t:TypeId):Vp P (isAgg t):=by
 unfold isAgg
 refine(GL t).bind fun d=>?_
 split<;>exact .pure _
theorem tW(t:TypeId)(cs:Array Value)(o:Nat):Vp P (part t cs o):=by
 unfold part
 refine(Jb t).bind fun b=>?_
 cases b with
 |true=>exact(DS t).bind fun _=>.pure _
 |false=>
  show Vp P (match cs[o]? with|some v=>_|none=>_)
  split
  ·exact .pure _
  ·exact .halt _
theorem Ot:∀(l:List FieldStep) (t:TypeId) (x:Option Value),Vp P (followBlind l t x)
 |[],t,x=>.pure _
 |s::a,t,x=>by
  unfold followBlind
  refine(GL _).bind fun d=>?_
  split
  ·split
   ·split
    ·exact .pure _
    ·exact Ot a _ _
    ·exact .halt _
    ·exact .pure _
    ·exact(tW _ _ _).bind fun _=>Ot a _ _
    ·exact .halt _
    ·exact Ot a _ _
   ·exact .halt _
  ·exact .halt _
theorem cE:∀(n:Nat) (t:TypeId) (v:Value) (s:String),Vp P (nilAhead n t v s)
 |0,t,v,s=>.pure _
 |n+1,t,v,s=>by
  unfold nilAhead
  refine(Us _).bind fun i=>?_
  split
  ·refine(Ot _ _ _).bind fun r=>?_
   split
   ·exact .pure _
   ·split
    ·exact cE n _ _ _
    ·exact .pure _
    ·exact .halt _
    ·exact .pure _
    ·exact .pure _
    ·refine(GL _).bind fun d=>?_
     split<;>exact .pure _
  ·exact .halt _
def VV(P:Program)(s:Sem Next):Prop:=∀w r a,s.run P w=.ok r a→∃v,r=.value v
theorem VV.val{s:Sem Value}:VV P (s>>=fun x=>Pure.pure (Next.value x):Sem Next):=fun w r b e=>by
 rw[Sem.run_bind]at e
 cases hs:s.run P w with
 |halt x w'=>rw[hs]at e;cases e
 |ok a w'=>rw[hs]at e;cases e;exact⟨a,rfl⟩
theorem Vp.val{s:Sem Value}(h:Vp P s):Vp P (s>>=fun x=>Pure.pure (Next.value x):Sem Next):=h.bind fun _=>.pure _
theorem Rd.val{s:Sem Value}(h:Rd P s):Rd P (s>>=fun x=>Pure.pure (Next.value x):Sem Next):=h.bind fun _=>(Vp.pure _).rd
end
theorem Uj{P:Program}(t:TypeId):Vp P (zeroValue t):=by
 unfold zeroValue
 refine(Us t).bind fun i=>?_
 split
 ·exact .pure _
 ·exact .halt _
theorem eW{α β:Type}{P:Program}{f:α→Sem β}(h:∀x,Vp P (f x)):∀l:List α,Vp P (l.mapM f)
 |[]=>by rw[List.mapM_nil];exact .pure _
 |x::l=>by rw[Ng];exact(h x).bind fun _=>(eW h l).bind fun _=>.pure _
theorem u5{α β:Type}{P:Program}{f:α→Sem β}(h:∀x,Vp P (f x))(l:Array α):Vp P (l.mapM f):=by
 rw[XN]
 exact(eW h _).bind fun _=>.pure _
theorem sx{P:Program}(t:TypeId)(ps:Array (Nat×Value)):Vp P (Instr.build t ps):=by
 unfold Instr.build
 refine(Uj t).bind fun z=>(GL t).bind fun d=>?_
 split
 ·refine(u5 (fun f=>(DS _).bind fun _=>.pure _) _).bind fun a=>?_
  split
  ·exact .pure _
  ·exact .halt _
 ·refine(DS _).bind fun n=>?_
  split
  ·exact .pure _
  ·exact .halt _
 ·exact .halt _
def Nv{α:Type}(P:Program)(s:Sem α):Prop:=∀w r a,s.run P w≠.ok r a
theorem Nv.vp{α:Type}{P:Program}{s:Sem α}(h:Nv P s):Vp P s:=fun w r a e=>absurd e (h w r a)
theorem dD{α:Type}{P:Program}(k:IntKind)(x y:Int)(c:BoundsCode):Nv P (boundsPanic k x y c:Sem α):=fun w r b e=>by
 unfold boundsPanic at e
 dsimp only at e
 have d:∀(s:Bool) w r b,(runtimePanic (.bounds (IntKind.i64.wrap x) y s c):Sem α).run P w≠.ok r b:=fun s w r b e=>by
  unfold runtimePanic at e
  simp only[Sem.run_bind,run_program,Result.andThen_ok]at e
  repeat(first|(cases e;done)|split at e|(simp[goPanic,stuck,unsupported,Sem.run]at e;done))
 split at e
 all_goals
  rw[Sem.run_bind]at e
  generalize hs:Sem.run P _ w=q at e
  cases q with
  |halt x w'=>cases e
  |ok a w'=>exact d _ _ _ _ e
theorem ve{α:Type}{P:Program}:Nv P (runtimePanic .nilDeref:Sem α):=fun w r a e=>by
 unfold runtimePanic at e
 simp only[Sem.run_bind,run_program,Result.andThen_ok]at e
 repeat(first|(cases e;done)|split at e|(simp[goPanic,stuck,unsupported,Sem.run]at e;done))
theorem cX{P:Program}(v:Value):Vp P (asIntOf v):=by
 unfold asIntOf
 split
 ·exact .pure _
 ·exact .halt _
 ·exact .halt _
theorem fq{P:Program}(v:Value):Vp P (Instr.sureAddr v):=by
 unfold Instr.sureAddr
 split
 ·exact .pure _
 ·exact .halt _
theorem qv{P:Program}(v:Value):Vp P (asAddr v):=by
 unfold asAddr
 split
 ·exact .pure _
 ·first|exact ve.vp|exact .halt _
 ·exact .halt _
theorem oG{P:Program}(x:Value)(y:Nat)(c:BoundsCode):Vp P (Instr.sliceBound x y c):=by
 unfold Instr.sliceBound
 refine(cX _).bind fun p=>?_
 dsimp only
 split
 ·exact .pure _
 ·exact(dD _ _ _ _).vp
theorem bW{P:Program}(b:Bool)(n m:Nat)(lo hi a:Option Value):Vp P (Instr.sliceBounds b n m lo hi a):=by
 unfold Instr.sliceBounds
 dsimp only
 repeat' (first|exact Vp.pure _|exact oG _ _ _|exact Vp.halt _|refine Vp.bind ?_ fun _=>?_|split)
theorem r9{P:Program}(t:TypeId)(x:Value)(lo hi a:Option Value):Vp P (Instr.slice t x lo hi a):=by
 unfold Instr.slice
 dsimp only
 repeat' (first|exact Vp.pure _|exact bW _ _ _ _ _ _|exact GL _|exact DS _|exact qv _|exact Vp.halt _|refine Vp.bind ?_ fun _=>?_|split)
theorem pl{P:Program}(t:TypeId)(x:Value)(lo hi a:Option Value):Vp P (Instr.sliceAt t x lo hi a):=by
 unfold Instr.sliceAt
 repeat' (first|exact Vp.pure _|exact bW _ _ _ _ _ _|exact GL _|exact DS _|exact fq _|exact r9 _ _ _ _ _|exact Vp.halt _|refine Vp.bind ?_ fun _=>?_|split)
theorem pD{P:Program}(t:TypeId)(x i:Value):Vp P (Instr.indexAt t x i):=by
 unfold Instr.indexAt
 dsimp only
 repeat' (first|exact Vp.pure _|exact cX _|exact GL _|exact DS _|exact fq _|exact(dD _ _ _ _).vp|exact Vp.halt _|refine Vp.bind ?_ fun _=>?_|split)
theorem pC{P:Program}(v:Value)(i:Nat):Vp P (Instr.extract v i):=by
 unfold Instr.extract
 split
 ·split
  ·exact .pure _
  ·exact .halt _
 ·exact .halt _
def bu(P:Program)(c:Call):Bool:=match c.callee,c.args.toList,c.argTypes.toList with
 |.builtin .len,[_],[t]=>(match P.underlying t with|some (.slice _)=>true|some .string=>true|_=>false)
 |_,_,_=>false
theorem kX{P:Program}{t:TypeId}{ty:TypeId}(x:Value)(h:(match P.underlying t with|some (.slice _)=>true|some .string=>true|_=>false)=true):Vp P (Builtin.len_ #[t] ty #[x]):=by
 unfold Builtin.len_
 simp only[XY,Y2]
 intro w r c e
 have a:∃d,P.underlying t=some d∧((∃q,d=.slice q)∨d=.string):=by
  grind
 obtain⟨d,a,b⟩:=a
 simp only[Sem.run_bind,run_underlying a,Result.andThen_ok]at e⊢
 rcases b with⟨q,rfl⟩|rfl
 ·cases x<;>first|(cases e;exact⟨rfl,fun _=>rfl⟩)|(cases e;done)
 ·cases x<;>first|(cases e;exact⟨rfl,fun _=>rfl⟩)|(cases e;done)
def CL(P:Program)(o:Oper):Bool:=match o.op with
 |.build _ _=>true
 |.extract _ _=>true
 |.indexAddr _ _ _=>true
 |.slice _ _ _ _ _=>true
 |.makeFunc _ _ _=>true
 |.call c=>bu P c
 |.move _=>true
 |.assign _=>true
 |.nilCheck _=>true
 |.fieldAddr t _ i=>(match P.underlying t with|some (.struct a)=>(match a[i]? with|some f=>!(Nat.beq (P.cellsOf f.type) 0)|none=>false)|_=>false)
 |_=>false
def CE(P:Program)(o:Oper):Bool:=CL P o||match o.op with|.load _ _=>true|_=>false
section
variable {P:Program} {ρ:Operand→Value} {o:Oper}
theorem Pg(h:CL P o=true):Vp P (execOp ρ o)∧VV P (execOp ρ o):=by
 obtain⟨j,op,type,pos,after,guard⟩:=o
 cases op<;>simp only[CL]at h<;>first|(cases h;done)|skip
 case move x=>exact⟨.pure _,fun w r d e=>by cases e;exact⟨_,rfl⟩⟩
 case assign x=>exact⟨.pure _,fun w r d e=>by cases e;exact⟨_,rfl⟩⟩
 case build t ps=>exact⟨(sx _ _).val,VV.val⟩
 case makeFunc f a b=>exact⟨(Vp.pure _).val,VV.val⟩
 case extract x i=>exact⟨(pC _ _).val,VV.val⟩
 case indexAddr t x i=>exact⟨(pD _ _ _).val,VV.val⟩
 case slice t x a b c=>exact⟨(pl _ _ _ _ _).val,VV.val⟩
 case call c=>
  unfold bu at h
  split at h
  ·rename_i x t l k n
   obtain⟨z,u,D⟩:=c
   simp only at l k n
   subst l
   have A:u=#[x]:=Cq (by simpa using k)
   have B:D=#[t]:=Cq (by simpa using n)
   subst A;subst B
   have:execOp ρ ⟨j,.call ⟨.builtin .len,#[x],#[t]⟩,type,pos,after,guard⟩=(Builtin.len_ #[t] type #[ρ x]>>=fun v=>(Pure.pure (Next.value v):Sem Next)):=by
    simp[execOp,resolve,invoke,Go.builtin]
   rw[this]
   exact⟨(kX _ h).val,VV.val⟩
  ·cases h
 case nilCheck x=>
  have F:∀v:Value,Vp P (pure (.value v):Sem Next)∧VV P (pure (.value v):Sem Next):=fun v=>⟨.pure _,fun w r d e=>by cases e;exact⟨_,rfl⟩⟩
  have g:Vp P (runtimePanic .nilDeref:Sem Next)∧VV P (runtimePanic .nilDeref:Sem Next):=by
   have:∀w r d,(runtimePanic .nilDeref:Sem Next).run P w≠.ok r d:=fun w r d e=>by
    unfold runtimePanic at e
    simp only[Sem.run_bind,run_program,Result.andThen_ok]at e
    repeat(first|(cases e;done)|split at e|(simp[goPanic,stuck,unsupported,Sem.run]at e;done))
   exact⟨fun w r d e=>absurd e (this w r d),fun w r d e=>absurd e (this w r d)⟩
  show Vp P (execOp ρ _)∧_
  simp only[execOp]
  split
  ·exact g
  ·exact g
  ·exact g
  ·split
   ·exact g
   ·refine⟨Vp.program.bind fun p=>(cE _ _ _ _).bind fun b=>?_,fun w r d e=>?_⟩
    ·split
     ·exact .halt _
     grind
    ·simp only[Sem.run_bind,run_program,Result.andThen_ok]at e
     cases hs:(nilAhead _ _ _ _).run P w with
     |halt x w'=>rw[hs]at e;cases e
     |ok a w'=>
      rw[hs]at e
      simp only[Result.andThen_ok]at e
      split at e
      ·cases e
      ·cases e;exact⟨_,rfl⟩
   grind
  ·grind
 case fieldAddr t x i=>
  refine⟨Vp.val ?_,VV.val⟩
  unfold Instr.fieldAt
  intro w r d e
  split at h
  ·rename_i E q
   split at h
   ·rename_i f m
    have s:P.cellsOf f.type≠0:=fun C=>by rw[C]at h;cases h
    have run:∀(ad:Addr) (w:World),(Instr.fieldAt t (.pointer (some ad)) i).run P w=.ok (.pointer (some (ad.add f.offset))) w:=fun ad w=>by
     simp[Instr.fieldAt,run_underlying q,m,Instr.sureAddr,fieldPlace,Dr s,s]
    have y:∀v:Value,(∀ad,v≠.pointer (some ad))→(Instr.fieldAt t v i).run P w≠.ok r d:=fun v G e=>by
     have hs:Instr.sureAddr v=.halt (.stuck "an address expected (no nilCheck in front?)"):=by
      unfold Instr.sureAddr
      split
      ·grind
      ·rfl
     simp only[Instr.fieldAt,Sem.run_bind,run_underlying q,Result.andThen_ok,m,hs]at e
     cases e
    change (Instr.fieldAt t (ρ x) i).run P w=.ok r d at e
    show d=w∧∀w2,(Instr.fieldAt t (ρ x) i).run P w2=.ok r w2
    grind
   ·cases h
  ·cases h
theorem Pe(a:Addr):Rd P (load a):=fun w r b e=>by
 unfold load at e
 simp only[Sem.run]at e
 grind
theorem OI(a:Addr):∀(n i:Nat) (b:Array Value),Rd P (loadCellsFrom a i n b)
 |0,i,b=>(Vp.pure _).rd
 |n+1,i,b=>by unfold loadCellsFrom;exact(Pe _).bind fun v=>OI a n (i+1) _
theorem Uv(t:TypeId)(a:Addr):Rd P (loadVar t a):=by
 unfold loadVar
 refine(Jb t).rd.bind fun b=>?_
 cases b with
 |true=>exact(DS t).rd.bind fun n=>(OI a n 0 _).bind fun _=>(Vp.pure _).rd
 |false=>exact Pe a
theorem Lx(h:CE P o=true):Rd P (execOp ρ o)∧VV P (execOp ρ o):=by
 unfold CE at h
 rw[Yu]at h
 rcases h with h|h
 ·obtain⟨c,d⟩:=Pg (ρ:=ρ) h
  exact⟨c.rd,d⟩
 ·obtain⟨b,op,type,pos,after,guard⟩:=o
  cases op<;>simp only at h<;>first|(cases h;done)|skip
  refine⟨Rd.val ?_,VV.val⟩
  unfold Instr.loadAt
  refine Rd.bind ?_ fun a=>Uv _ _
  unfold Instr.sureAddr
  split
  ·exact(Vp.pure _).rd
  ·exact(Vp.halt _).rd
def EN(w a:World):Prop:=∀(k:Nat) (o:Obj),w.heap[k]?=some o→a.heap[k]?=some o
theorem EN.refl(w:World):EN w w:=fun _ _ h=>h
theorem EN.cell{w d:World}{a:Addr}{v:Value}(h:EN w d)(b:w.cell? a=some v):d.cell? a=some v:=by
 unfold World.cell? at b⊢
 cases c:w.heap[a.block]? with
 |none=>rw[c]at b;cases b
 |some o=>rw[c]at b;rw[h _ _ c];exact b
theorem EN.seen{w d:World}{p:Program}{at_:Addr}{u:TypeId}{k:Addr}{b:Bool}(h:EN w d){r}(a:w.seen p at_ u k b=.ok r):d.seen p at_ u k b=.ok r:=by
 cases c:w.heap[at_.block]? with
 |none=>
  exfalso
  unfold World.seen at a
  rw[c]at a
  have T:∀(α:Type) (e:String),(MonadExcept.throw e:Except String α)=.error e:=fun _ _=>rfl
  simp only[bind,Except.bind,pure,Except.pure,throw,throwThe,T]at a
  grind
 |some o=>
  unfold World.seen at a⊢
  rw[h _ _ c]
  grind
theorem EN.far{w i:World}{p:Program}{a:Addr}{b:Bool}(h:EN w i){r}(c:w.farLoad p a b=.ok r):i.farLoad p a b=.ok r:=by
 unfold World.farLoad at c⊢
 cases g:w.heap[a.block]? with
 |none=>rw[g]at c;cases c
 |some o=>
  rw[g]at c
  rw[h _ _ g]
  cases o<;>simp only at c⊢<;>first|(cases c;done)|skip
  rename_i d u
  cases f:w.viewLoad p d u a b with
  |error e=>rw[f]at c;cases c
  |ok q=>
   rw[f]at c
   have:i.viewLoad p d u a b=.ok q:=by
    unfold World.viewLoad at f⊢
    cases hs:w.seen p d u a b with
    |error e=>rw[hs]at f;cases f
    |ok z=>rw[hs]at f;rw[h.seen hs];exact f
   grind
variable {α β:Type}
def Eu(P:Program)(s:Sem α):Prop:=∀w r a w2,s.run P w=.ok r a→EN w w2→s.run P w2=.ok r w2
theorem Vp.sta{s:Sem α}(h:Vp P s):Eu P s:=fun w r a w2 e _=>(h w r a e).2 w2
theorem Eu.bind{s:Sem α}{f:α→Sem β}(d:Rd P s)(h:Eu P s)(k:∀a,Eu P (f a)):Eu P (s>>=f):=fun w r g w2 e b=>by
 rw[Sem.run_bind]at e⊢
 cases hs:s.run P w with
 |halt x w'=>rw[hs]at e;cases e
 |ok a w'=>
  rw[hs]at e
  have c:=d w a w' hs
  subst c
  rw[h _ _ _ _ hs b]
  exact k a _ _ _ _ e b
theorem eB(a:Addr):Eu P (load a):=fun w r h w2 e f=>by
 unfold load at e⊢
 simp only[Sem.run]at e⊢
 cases d:w.cell? a with
 |some v=>rw[d]at e;rw[f.cell d];cases e;rfl
 |none=>
  rw[d]at e
  cases b:w.farLoad P a (Mode.plain==Mode.atomic)with
  |error x=>rw[b]at e;cases e
  |ok q=>
   have g:w2.cell? a=none:=by
    unfold World.farLoad at b
    unfold World.cell?
    cases c:w.heap[a.block]? with
    |none=>rw[c]at b;cases b
    |some o=>
     rw[c]at b
     rw[f _ _ c]
     grind
   rw[b]at e
   rw[g,f.far b]
   grind
theorem cA(a:Addr):∀(n i:Nat) (b:Array Value),Eu P (loadCellsFrom a i n b)
 |0,i,b=>(Vp.pure _).sta
 |n+1,i,b=>by unfold loadCellsFrom;exact .bind (Pe _) (eB _) fun v=>cA a n (i+1) _
theorem oZ(t:TypeId)(a:Addr):Eu P (loadVar t a):=by
 unfold loadVar
 refine .bind (Jb t).rd (Jb t).sta fun b=>?_
 cases b with
 |true=>exact .bind (DS t).rd (DS t).sta fun n=>.bind (OI a n 0 _) (cA a n 0 _) fun _=>(Vp.pure _).sta
 |false=>exact eB a
theorem qO(h:CE P o=true):Eu P (execOp ρ o):=by
 unfold CE at h
 rw[Yu]at h
 rcases h with h|h
 ·exact(Pg (ρ:=ρ) h).1.sta
 ·obtain⟨b,op,type,pos,after,guard⟩:=o
  cases op<;>simp only at h<;>first|(cases h;done)|skip
  have hs:∀v:Value,Rd P (Instr.sureAddr v)∧Eu P (Instr.sureAddr v):=fun v=>by
   unfold Instr.sureAddr
   split
   ·exact⟨(Vp.pure _).rd,(Vp.pure _).sta⟩
   ·exact⟨(Vp.halt _).rd,(Vp.halt _).sta⟩
  refine Eu.bind (s:=Instr.loadAt _ _) (Rd.bind (hs _).1 fun a=>Uv _ _) (.bind (hs _).1 (hs _).2 fun a=>oZ _ _) fun _=>(Vp.pure _).sta
def Hq(o:Oper):Bool:=match o.op with|.buildSlice _ _ _=>true|.alloc _=>true|_=>false
theorem sN{w:World}{o:Obj}:EN w {w with heap:=w.heap.push o }:=fun k a h=>by
 grind
def Gr(P:Program)(s:Sem α):Prop:=∀w r a,s.run P w=.ok r a→EN w a
theorem Rd.gr{s:Sem α}(h:Rd P s):Gr P s:=fun w r a e=>by rw[h w r a e];exact .refl _
theorem Gr.bind{s:Sem α}{f:α→Sem β}(h:Gr P s)(k:∀a,Gr P (f a)):Gr P (s>>=f):=fun w r c e=>by
 rw[Sem.run_bind]at e
 cases hs:s.run P w with
 |halt x w'=>rw[hs]at e;cases e
 |ok a w'=>
  rw[hs]at e
  exact fun q o b=>k a _ _ _ e _ _ (h _ _ _ hs _ _ b)
theorem UE(t:TypeId)(cs:Array Value):Gr P (newRow t cs):=fun w r a e=>by
 unfold newRow newObj at e
 cases e
 exact sN
theorem oF(t:TypeId)(n:Nat)(ps:Array (Nat×Value)):Gr P (Instr.buildSlice t n ps):=by
 unfold Instr.buildSlice
 refine(GL t).rd.gr.bind fun d=>?_
 split
 ·refine(DS _).rd.gr.bind fun size=>?_
  by_cases a:n*size>2^24
  ·rw[Yj a]
   intro w r c e
   cases e
  ·rw[Yi a]
   by_cases b:n*size=0
   ·rw[Yj b]
    refine Gr.bind (s:=Pure.pure _) (Vp.pure _).rd.gr fun z=>?_
    dsimp only
    split
    ·exact(UE _ _).bind fun _=>(Vp.pure _).rd.gr
    ·exact(Vp.halt _).rd.gr
   ·rw[Yi b]
    refine(Uj _).rd.gr.bind fun z=>Gr.bind (s:=Pure.pure _) (Vp.pure _).rd.gr fun z=>?_
    dsimp only
    split
    ·exact(UE _ _).bind fun _=>(Vp.pure _).rd.gr
    ·exact(Vp.halt _).rd.gr
 ·exact(Vp.halt _).rd.gr
theorem ui(h:Hq o=true):Gr P (execOp ρ o)∧VV P (execOp ρ o):=by
 obtain⟨a,op,type,pos,after,guard⟩:=o
 cases op<;>simp only[Hq]at h<;>first|(cases h;done)|skip
 case buildSlice=>exact⟨(oF _ _ _).bind fun _=>(Vp.pure _).rd.gr,VV.val⟩
 case alloc t=>exact⟨Gr.bind (s:=Instr.alloc _ _ _) ((Uj _).rd.gr.bind fun z=>Gr.bind (s:=newVar _ _) (UE _ _ |>.bind fun _=>(Vp.pure _).rd.gr) fun _=>(Vp.pure _).rd.gr) fun _=>(Vp.pure _).rd.gr,VV.val⟩
theorem fp(h:(CE P o||Hq o)=true):Gr P (execOp ρ o)∧VV P (execOp ρ o):=by
 rw[Yu]at h
 rcases h with h|h
 ·exact⟨(Lx h).1.gr,(Lx h).2⟩
 ·exact ui h
end
def Mk(P:Program)(L:List Oper)(listed:List Nat)(i:Nat)(a:Oper):Nat→List Oper→Bool
 |_,[]=>true
 |j,b::r=>(listed.any (Nat.beq j)||Nat.beq j i||LI L i L.length j||(a.apart L.toArray b&&(CL P a||(CE P a&&(CE P b||Hq b)))))&&Mk P L listed i a (j+1) r
def L6(P:Program)(L:List Oper):List Nat→List Nat→Bool
 |listed,[]=>(List.range L.length).all fun j=>listed.any (Nat.beq j)
 |listed,i::b=>(match A2 L i with
  |some a=>!(listed.any (Nat.beq i))&&a.after.toList.all (fun e=>!Region.binds .any e||listed.any (Nat.beq e.on))&&(match CL P a with|true=>chkV P L listed i a 0 L|false=>Mk P L listed i a 0 L)
  |none=>false)&&L6 P L (i::listed) b
where chkV (P:Program) (L:List Oper) (listed:List Nat) (i:Nat) (a:Oper):Nat→List Oper→Bool
 |_,[]=>true
 |j,c::r=>(listed.any (Nat.beq j)||Nat.beq j i||c.after.toList.any (fun e=>Region.binds .any e&&Nat.beq e.on i)||a.apart L.toArray c)&&chkV P L listed i a (j+1) r
theorem EA{l:List Nat}{j:Nat}:l.any (Nat.beq j)=true↔j∈l:=by
 rw[YG]
 exact⟨fun⟨x,a,h⟩=>Ya h▸a,fun h=>⟨j,h,M8 j⟩⟩
theorem fy{P:Program}{L:List Oper}{listed:List Nat}{i:Nat}{e:Oper}:∀{r:List Oper} {b k:Nat} {c:Oper},Mk P L listed i e b r=true→r[k]?=some c→
  (b+k)∈listed∨b+k=i∨Waits L.toArray (b+k) i∨(e.apart L.toArray c=true∧(CL P e=true∨CE P e=true∧(CE P c||Hq c)=true))
 |[],b,k,c,_,h=>by simp at h
 |q::r,b,k,c,d,h=>by
  unfold Mk at d
  rw[Yb]at d
  cases k with
  |zero=>
   simp only[Y2,Yf]at h
   subst h
   have a:=d.1
   simp only[Yu,Yb]at a
   rcases a with((a|a)|a)|a
   ·exact .inl (EA.1 a)
   ·exact .inr (.inl (Ya a))
   ·exact .inr (.inr (.inl (Ue _ _ a)))
   grind
  |succ k=>
   have:=fy (k:=k) d.2 (by simpa using h)
   grind
theorem fC{P:Program}{L:List Oper}{listed:List Nat}{i:Nat}{g:Oper}:∀{r:List Oper} {b k:Nat} {c:Oper},L6.chkV P L listed i g b r=true→r[k]?=some c→
  (b+k)∈listed∨b+k=i∨(∃e∈c.after,Region.binds .any e=true∧e.on=i)∨g.apart L.toArray c=true
 |[],b,k,c,_,h=>by simp at h
 |q::r,b,k,c,d,h=>by
  unfold L6.chkV at d
  rw[Yb]at d
  cases k with
  |zero=>
   simp only[Y2,Yf]at h
   subst h
   have a:=d.1
   simp only[Yu]at a
   rcases a with((a|a)|a)|a
   ·exact .inl (EA.1 a)
   ·exact .inr (.inl (Ya a))
   ·obtain⟨e,he,f⟩:=YG.1 a
    rw[Yb]at f
    exact .inr (.inr (.inl ⟨e,by simpa using he,f.1,Ya f.2⟩))
   grind
  |succ k=>
   have:=fC (k:=k) d.2 (by simpa using h)
   grind
def pb:Value→Option Nat
 |.pointer (some a)=>some a.block
 |_=>none
def DK(w:World)(b:Nat):Prop:=∃C e f,w.heap[b]?=some (.cells C e f)
section
variable {P:Program} {α β:Type}
theorem fE{v:Value}{a:Addr}{w b:World}(h:(Instr.sureAddr v).run P w=.ok a b):v=.pointer (some a)∧b=w:=by
 unfold Instr.sureAddr at h
 split at h
 ·cases h;exact⟨rfl,rfl⟩
 ·cases h
def Lo(b:Nat)(P:Program)(s:Sem α):Prop:=∀w r a w2,s.run P w=.ok r a→DK w b→w2.heap[b]?=w.heap[b]?→s.run P w2=.ok r w2
theorem Vp.lo{b:Nat}{s:Sem α}(h:Vp P s):Lo b P s:=fun w r a w2 e _ _=>(h w r a e).2 w2
theorem Lo.bind{b:Nat}{s:Sem α}{f:α→Sem β}(g:Rd P s)(h:Lo b P s)(k:∀a,Lo b P (f a)):Lo b P (s>>=f):=fun w r i w2 e c d=>by
 rw[Sem.run_bind]at e⊢
 cases hs:s.run P w with
 |halt x w'=>rw[hs]at e;cases e
 |ok a w'=>
  rw[hs]at e
  have:=g w a w' hs
  subst this
  rw[h _ _ _ _ hs c d]
  exact k a _ _ _ _ e c d
theorem eX(a:Addr):Lo a.block P (load a):=fun w r h w2 e ⟨C,t,f,d⟩ c=>by
 unfold load at e⊢
 simp only[Sem.run]at e⊢
 have g:w2.cell? a=w.cell? a:=World.cell?_of_block c
 rw[g]
 cases b:w.cell? a with
 |some v=>rw[b]at e;cases e;rfl
 |none=>
  rw[b]at e
  have:w.farLoad P a (Mode.plain==Mode.atomic)=.error (w.noCell a "load: no such cell"):=by unfold World.farLoad;rw[d]
  grind
theorem cu(a:Addr):∀(n i:Nat) (b:Array Value),Lo a.block P (loadCellsFrom a i n b)
 |0,i,b=>(Vp.pure _).lo
 |n+1,i,b=>by
  unfold loadCellsFrom
  refine .bind (Pe _) ?_ fun v=>cu a n (i+1) _
  have:=eX (P:=P) (a.add i)
  rwa [block_add]at this
theorem pO(t:TypeId)(a:Addr):Lo a.block P (loadVar t a):=by
 unfold loadVar
 refine .bind (Jb t).rd (Jb t).lo fun b=>?_
 cases b with
 |true=>exact .bind (DS t).rd (DS t).lo fun n=>.bind (OI a n 0 _) (cu a n 0 _) fun _=>(Vp.pure _).lo
 |false=>exact eX a
theorem th{ρ:Operand→Value}{o:Oper}{t:TypeId}{x:Operand}{w w2:World}{v:Value}(g:o.op=.load t x)(e:(execOp ρ o).run P w=.ok (.value v) w):
  ∃b,pb (ρ x)=some b∧(DK w b→w2.heap[b]?=w.heap[b]?→(execOp ρ o).run P w2=.ok (.value v) w2):=by
 obtain⟨c,op,type,pos,after,guard⟩:=o
 cases g
 change ((Instr.loadAt t (ρ x))>>=fun y=>(pure (Next.value y):Sem Next)).run P w=_ at e
 show∃b,pb (ρ x)=some b∧(_→_→((Instr.loadAt t (ρ x))>>=fun y=>(pure (Next.value y):Sem Next)).run P w2=_)
 generalize ρ x=q at e⊢
 have:∃a,q=.pointer (some a):=by
  cases hs:(Instr.sureAddr q).run P w with
  |halt _ _=>unfold Instr.loadAt at e;simp only[Sem.run_bind,hs]at e;cases e
  |ok a w'=>exact⟨a,(fE hs).1⟩
 obtain⟨a,rfl⟩:=this
 exact⟨a.block,rfl,fun d f=>Lo.bind (Rd.bind (Vp.pure a).rd fun a=>Uv t a) (pO t a) (fun _=>(Vp.pure _).lo) _ _ _ _ e d f⟩
def So(b:Nat)(P:Program)(s:Sem α):Prop:=∀w r a,s.run P w=.ok r a→DK w b→DK a b∧∀k,k≠b→a.heap[k]?=w.heap[k]?
theorem Rd.so{b:Nat}{s:Sem α}(h:Rd P s):So b P s:=fun w r c e a=>by rw[h w r c e];exact⟨a,fun _ _=>rfl⟩
theorem So.bind{b:Nat}{s:Sem α}{f:α→Sem β}(h:So b P s)(k:∀a,So b P (f a)):So b P (s>>=f):=fun w r l e d=>by
 rw[Sem.run_bind]at e
 cases hs:s.run P w with
 |halt x w'=>rw[hs]at e;cases e
 |ok a w'=>
  rw[hs]at e
  obtain⟨c,g⟩:=h _ _ _ hs d
  obtain⟨i,j⟩:=k a _ _ _ e c
  grind
theorem sM(a:Addr)(v:Value):So a.block P (store a v):=fun w r b e ⟨C,t,f,c⟩=>by
 unfold store at e
 have key:∀b,b=w.setCell a v→DK b a.block∧∀k,k≠a.block→b.heap[k]?=w.heap[k]?:=fun b e=>by
  subst e
  unfold World.setCell
  constructor
  ·refine⟨(if a.spot.isSome then C else C.setIfInBounds a.off v),t,f,?_⟩
   show(w.heap.modify a.block _)[a.block]?=_
   rw[X1,c]
   simp
  ·intro k g
   show(w.heap.modify a.block _)[k]?=_
   rw[X1]
   simp[Ne.symm g]
 cases v<;>simp only[Sem.run]at e<;>first
  |(cases e;done)
  |(cases d:w.cell? a with
    |some x=>
     rw[d]at e
     simp only at e
     split at e
     ·cases e
     ·cases e;exact key _ rfl
    |none=>
     rw[d]at e
     unfold World.farStore at e
     rw[c]at e
     cases e)
theorem cw(a:Addr):∀(vs:List Value) (i:Nat),So a.block P (storeCells a vs i)
 |[],i=>(Vp.pure _).rd.so
 |v::r,i=>by
  unfold storeCells
  refine So.bind ?_ fun _=>cw a r (i+1)
  have:=sM (P:=P) (a.add i) v
  rwa [block_add]at this
theorem pe(t:TypeId)(a:Addr)(v:Value):So a.block P (storeVar t a v):=by
 unfold storeVar
 refine(DS t).rd.so.bind fun n=>?_
 by_cases h:v.cells.size≠n
 ·rw[Yj h]
  intro w r b e
  cases e
 ·rw[Yi h]
  exact cw a _ 0
theorem uD{ρ:Operand→Value}{o:Oper}{t:TypeId}{x y:Operand}{w c:World}{r:Next}(h:o.op=.store t x y)(e:(execOp ρ o).run P w=.ok r c):
  r=.skip∧∃b,pb (ρ x)=some b∧(DK w b→DK c b∧∀k,k≠b→c.heap[k]?=w.heap[k]?):=by
 obtain⟨d,op,type,pos,after,guard⟩:=o
 cases h
 change ((Instr.storeAt t (ρ x) (ρ y))>>=fun _=>(pure Next.skip:Sem Next)).run P w=_ at e
 generalize ρ x=q at e⊢
 generalize ρ y=v at e
 have f:r=.skip:=by
  rw[Sem.run_bind]at e
  cases hs:(Instr.storeAt t q v).run P w with
  |halt _ _=>rw[hs]at e;cases e
  |ok _ _=>rw[hs]at e;cases e;rfl
 refine⟨f,?_⟩
 have:∃a,q=.pointer (some a):=by
  cases hs:(Instr.sureAddr q).run P w with
  |halt _ _=>unfold Instr.storeAt at e;simp only[Sem.run_bind,hs]at e;cases e
  |ok a w'=>exact⟨a,(fE hs).1⟩
 obtain⟨a,rfl⟩:=this
 exact⟨a.block,rfl,fun g=>So.bind (pe t a v) (fun _=>(Vp.pure _).rd.so) _ _ _ e g⟩
end
def GW(z:Nat):List (Nat×Nat)→Option Nat
 |[]=>none
 |(d,r)::l=>match Nat.beq d z with|true=>some r|false=>GW z l
theorem HR{z r:Nat}:∀{l:List (Nat×Nat)},GW z l=some r→(z,r)∈l
 |(d,q)::l,h=>by
  unfold GW at h
  split at h
  ·rename_i e;cases h;rw[Ya e];exact YJ ..
  ·exact YC _ (HR h)
def H3:Operand→Option Nat
 |.tmp z=>some z
 |_=>none
def GX(P:Program)(o:Oper):Option Nat:=match CL P o with
 |true=>(match o.op with
  |.fieldAddr _ x _=>H3 x
  |.move x=>H3 x
  |.nilCheck x=>H3 x
  |_=>none)
 |false=>none
def Cs(P:Program)(env:List (Nat×Nat))(o:Oper):List (Nat×Nat):=match o.dst with
 |none=>env
 |some d=>(match GX P o with|some z=>(match GW z env with|some r=>[(d,r)]|none=>[])|none=>[])++env.filter fun p=>!Nat.beq p.1 d
def Qy(P:Program)(env:List (Nat×Nat))(o:Oper):Bool:=CE P o||Hq o||match o.op with
 |.store _ (.tmp y) _=>(GW y env).isSome
 |_=>false
def J(β:Nat→Nat)(env:List (Nat×Nat))(a:Act)(w:World):Prop:=∀p∈env,∀b,pb (a.eval (.tmp p.1))=some b→b=β p.2∧DK w b
def fk:Next→Option Value
 |.value v=>some v
 |.skip=>some undef
 |_=>none
section
variable {P:Program} {β:Nat→Nat} {env:List (Nat×Nat)} {a:Act} {w w':World} {o:Oper} {n:Next}
theorem ee(h:Qy P env o=true)(l:J β env a w)(e:(execOp a.eval o).run P w=.ok n w'):(∃u,fk n=some u)∧∀b,DK w b→DK w' b:=by
 unfold Qy at h
 rw[Yu]at h
 rcases h with h|h
 ·obtain⟨c,d⟩:=fp (ρ:=a.eval) h
  obtain⟨v,rfl⟩:=d _ _ _ e
  exact⟨⟨v,rfl⟩,fun b ⟨C,t,f,g⟩=>⟨C,t,f,c _ _ _ e _ _ g⟩⟩
 ·split at h
  ·rename_i t y v p
   obtain⟨rfl,i,c,d⟩:=uD p e
   obtain⟨r,q⟩:=YX.1 h
   obtain⟨_,j⟩:=l _ (HR q) _ c
   obtain⟨s,k⟩:=d j
   refine⟨⟨_,rfl⟩,fun b ⟨C,t,f,g⟩=>?_⟩
   by_cases m:b=i
   ·grind
   ·exact⟨C,t,f,(k b m).trans g⟩
  ·cases h
theorem OX{x:Operand}{z:Nat}(h:H3 x=some z):x=.tmp z:=by
 cases x<;>simp only[H3]at h<;>first|(cases h;done)|skip
 grind
theorem gv{z:Nat}{b:Nat}{v:Value}(hs:GX P o=some z)(e:(execOp a.eval o).run P w=.ok (.value v) w')(c:pb v=some b):pb (a.eval (.tmp z))=some b:=by
 unfold GX at hs
 cases d:CL P o with
 |false=>rw[d]at hs;cases hs
 |true=>
  rw[d]at hs
  obtain⟨l,op,type,pos,after,guard⟩:=o
  cases op<;>simp only at hs<;>first|(cases hs;done)|skip
  case move x=>rw[←OX hs];cases e;exact c
  case nilCheck x=>
   rw[←OX hs]
   have s:∀w r k,(runtimePanic .nilDeref:Sem Next).run P w≠.ok r k:=fun w r k e=>by
    unfold runtimePanic at e
    simp only[Sem.run_bind,run_program,Result.andThen_ok]at e
    repeat(first|(cases e;done)|split at e|(simp[goPanic,stuck,unsupported,Sem.run]at e;done))
   simp only[execOp]at e
   split at e
   ·grind
   ·grind
   ·grind
   ·split at e
    ·grind
    ·simp only[Sem.run_bind,run_program,Result.andThen_ok]at e
     cases hs:(nilAhead _ _ _ _).run P w with
     |halt x w'=>rw[hs]at e;cases e
     |ok q w'=>
      rw[hs]at e
      simp only[Result.andThen_ok]at e
      split at e
      ·cases e
      ·cases e;first|exact c|cases c
    ·cases e;first|exact c|cases c
   ·cases e;first|exact c|cases c
  case fieldAddr t x i=>
   rw[←OX hs]
   simp only[CL]at d
   split at d
   ·rename_i p h
    split at d
    ·rename_i f g
     have j:P.cellsOf f.type≠0:=fun m=>by rw[m]at d;cases d
     have run:∀(ad:Addr) (w:World),(Instr.fieldAt t (.pointer (some ad)) i).run P w=.ok (.pointer (some (ad.add f.offset))) w:=fun ad w=>by
      simp[Instr.fieldAt,run_underlying h,g,Instr.sureAddr,fieldPlace,Dr j,j]
     change ((Instr.fieldAt t (a.eval x) i)>>=fun y=>(pure (Next.value y):Sem Next)).run P w=_ at e
     generalize a.eval x=q at e⊢
     by_cases n:∃ad,q=.pointer (some ad)
     ·obtain⟨ad,rfl⟩:=n
      rw[Sem.run_bind,run]at e
      cases e
      simp only[pb,block_add]at c
      exact c
     ·exfalso
      have hs:Instr.sureAddr q=.halt (.stuck "an address expected (no nilCheck in front?)"):=by
       unfold Instr.sureAddr
       split
       ·grind
       ·rfl
      simp only[Instr.fieldAt,Sem.run_bind,run_underlying h,Result.andThen_ok,g,hs]at e
      cases e
    grind
   ·cases d
theorem J.put(g:J β env a w)(y:Qy P env o=true)(e:(execOp a.eval o).run P w=.ok n w'){u:Value}(A:fk n=some u):J β (Cs P env o) (a.put o.dst u) w':=by
 have l:=(ee y g e).2
 unfold Cs
 have ev:∀z:Nat,(∀d,o.dst=some d→z≠d)→(a.put o.dst u).eval (.tmp z)=a.eval (.tmp z):=fun z j=>Act.eval_put fun d i C=>j d i (by cases C;rfl)
 cases i:o.dst with
 |none=>
  intro p c b f
  rw[←i,ev _ (fun d h=>by rw[i]at h;cases h)]at f
  exact⟨(g p c b f).1,l _ (g p c b f).2⟩
 |some d=>
  intro p c b f
  rw[IS]at c
  rcases c with c|c
  ·split at c
   ·rename_i z j
    split at c
    ·rename_i r x
     obtain rfl:=KN.1 c
     simp only at f⊢
     have q:n=.value u:=by
      have:CE P o=true:=by
       unfold GX at j
       unfold CE
       cases B:CL P o with
       |true=>rfl
       |false=>rw[B]at j;cases j
      obtain⟨v,rfl⟩:=(Lx (ρ:=a.eval) this).2 _ _ _ e
      cases A
      rfl
     subst q
     have k:pb u=some b:=by
      have:(a.put (some d) u).eval (.tmp d)=u∨(a.put (some d) u).eval (.tmp d)=undef:=by
       simp only[Act.eval,Act.put,Yp,KT]
       split
       ·rename_i h
        split<;>simp_all
       ·simp_all
      rcases this with h|h
      ·rw[h]at f;exact f
      ·rw[h]at f;cases f
     obtain⟨s,t⟩:=g _ (HR x) _ (gv j e k)
     exact⟨s,l _ t⟩
    ·cases c
   ·cases c
  ·rw[IQ]at c
   have m:p.1≠d:=fun he=>by have:=c.2;rw[he,M8]at this;cases this
   rw[←i,ev _ (fun d' h=>by rw[i]at h;cases h;exact m)]at f
   exact⟨(g p c.1 b f).1,l _ (g p c.1 b f).2⟩
def gP(env:List (Nat×Nat))(o:Oper):Bool:=match o.dst with
 |none=>true
 |some d=>env.all fun p=>!Nat.beq p.1 d
theorem J.keep(c:J β env a w)(k:Qy P env o=true)(g:gP env o=true)(e:(execOp a.eval o).run P w=.ok n w'){u:Value}:J β env (a.put o.dst u) w':=by
 have i:=(ee k c e).2
 intro p h b f
 have:(a.put o.dst u).eval (.tmp p.1)=a.eval (.tmp p.1):=Act.eval_put fun d j l=>by
  cases l
  unfold gP at g
  rw[j]at g
  have:=Ym.1 g p h
  rw[M8]at this
  cases this
 rw[this]at f
 exact⟨(c p h b f).1,i _ (c p h b f).2⟩
end
end Go.Eng
