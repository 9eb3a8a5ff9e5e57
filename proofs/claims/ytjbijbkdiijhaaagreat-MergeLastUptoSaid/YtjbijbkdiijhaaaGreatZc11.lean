import Derived.Test.YtjbijbkdiijhaaaGreatZc10
import Derived.Test.YtjbijbkdiijhaaaGreatZc00
namespace Go.Eng
set_option linter.all false
open Go Go.RowKit
def DU:Nat→List Blk→List (Af×Blk)
 |_,[]=>[]
 |i,b::bs=>((0,i),b)::DU (i+1) bs
abbrev Cl:=(Af→Prop)→Nat→Hp→(Nat→AV)→Prop
structure KO (P:Program) (f:FuncId) (os:Nat) (ys:List AV) (bi:List Blk) (Θ:Cl) {γ:Type} (M:Option γ) (e:γ→AV) (bs:γ→List Blk):Prop where
 k:∀l H (ks:List Af) (gs:List Nat) (θ:Nat→AV),ks.length=os→Jj l ks→ks.Nodup→Ka H (Cu l ks gs θ H) (DU 0 bi) 0 ks→Θ (fun k=>k∈ks) l H θ→∀y,M=some y→
  Zc1 P f l (Ar (Cu l ks gs θ H) ys) H (fun z H'=>z=ren (Cu l ks gs θ H) (e y)∧H'=DA H ks (CV (Cu l ks gs θ H) 0 (bs y)))
mutual
def LN(os:Nat):AV→Bool
 |.ref k _ _ _=>Nat.beq k.1 0&&Nat.ble (k.2+1) os
 |.ptr k _ _=>Nat.beq k.1 0&&Nat.ble (k.2+1) os
 |.mp k _=>Nat.beq k.1 0&&Nat.ble (k.2+1) os
 |.fn f xs ys=>(match f with|.yield _=>false|_=>true)&&Jr os xs&&Jr os ys
 |.agg xs=>Jr os xs
 |.tup xs=>Jr os xs
 |.top=>true
 |.d _=>true
 |.e0=>true
 |.p _=>true
 |.iptr _ _=>true
 |.ifc _ _ _=>true
def Jr(os:Nat):List AV→Bool
 |[]=>true
 |x::xs=>LN os x&&Jr os xs
end
def NN(os:Nat)(r a:Ren):Prop:=∀q,q<os→r.κ (0,q)=a.κ (0,q)∧r.γ (0,q)=a.γ (0,q)
theorem lO{os:Nat}{r c:Ren}(hs:NN os r c){k:Af}(h:(Nat.beq k.1 0&&Nat.ble (k.2+1) os)=true):r.κ k=c.κ k∧r.γ k=c.γ k:=by
 simp only[Yc]at h
 obtain⟨a,b⟩:=k
 have d:=Yd h.1
 have e:=Yh h.2
 simp only at d e
 subst d
 exact hs b e
mutual
theorem lh{os:Nat}{r c:Ren}(hs:NN os r c):∀x:AV,LN os x=true→ren r x=ren c x
 |.ref k g off n,h=>by obtain⟨a,b⟩:=lO hs h;simp only[ren,a,b]
 |.ptr k g off,h=>by obtain⟨a,b⟩:=lO hs h;simp only[ren,a,b]
 |.mp k g,h=>by obtain⟨a,b⟩:=lO hs h;simp only[ren,a,b]
 |.fn f xs ys,h=>by
  simp only[LN,Yc]at h
  have a:=MS hs xs h.1.2
  have b:=MS hs ys h.2
  cases f<;>first|(simp only[ren,a,b];done)|(simp at h)
 |.agg xs,h=>by simp only[LN]at h;simp only[ren,MS hs xs h]
 |.tup xs,h=>by simp only[LN]at h;simp only[ren,MS hs xs h]
 |.top,_=>by simp[ren]
 |.d _,_=>by simp[ren]
 |.e0,_=>by simp[ren]
 |.p _,_=>by simp[ren]
 |.iptr _ _,_=>by simp[ren]
 |.ifc _ _ _,_=>by simp[ren]
theorem MS{os:Nat}{r a:Ren}(hs:NN os r a):∀xs:List AV,Jr os xs=true→Ar r xs=Ar a xs
 |[],_=>by simp[Ar]
 |x::xs,h=>by
  simp only[Jr,Yc]at h
  simp only[Ar,lh hs x h.1,MS hs xs h.2]
end
def GQ(os:Nat):List Blk→Prop
 |[]=>True
 |b::bs=>(Ib b.cells∨Jr os b.cells=true)∧b.live=true∧GQ os bs
theorem GQ.ren{os:Nat}{r a:Ren}(hs:NN os r a):∀(bs:List Blk) (i:Nat),i+bs.length≤os→GQ os bs→CV r i bs=CV a i bs
 |[],_,_,_=>rfl
 |b::bs,i,hl,h=>by
  simp only[Fw]at hl
  have d:Ar r b.cells=Ar a b.cells:=by
   rcases h.1 with c|e
   ·rw[JC c,JC c]
   ·exact MS hs _ e
  simp only[CV,GQ.ren hs bs (i+1) (by omega) h.2.2,AS,d,(hs i (by omega)).2]
theorem GQ.live{os:Nat}:∀{bs:List Blk},GQ os bs→∀b∈bs,b.live=true
 |c::bs,h,b,a=>by
  rcases Yx.1 a with rfl|a
  ·exact h.2.1
  ·exact GQ.live h.2.2 b a
theorem Nn:Ib []:=fun x hx=>by cases hx
theorem Bu{P:Program}{T:Nat→Option TI}{n:Nat}{f:FuncId}{fn:Func}{ys:List AV}{bi:List Blk}{Θ:Cl}{γ:Type}{M:Option γ}{e:γ→AV}{bs:γ→List Blk}(G:P.funcs[f]?=some fn)(I:fn.ntmps=n)(E:Bj P T)(u:List ResultVar)(os:Nat)
  (h:∀C:Cx,CO C os→Θ C.no C.l C.H0 C.θ→∀y,M=some y→∀a:AV→List Blk→Prop,HL (fun y=>a (e y) (bs y)) y→LW P n C (pa [] (AA fn)) (Ad (Eg 0 ys) (DU 0 bi)) (FQ T u os a))
  (he:∀y,LN os (e y)=true:=by intro y;kernel_rfl) (hB:∀y,GQ os (bs y):=by intro y;repeat(first|exact trivial|refine⟨.inl (Aw _ _),rfl,?_⟩|refine⟨.inl Nn,rfl,?_⟩|refine⟨.inr (by kernel_rfl),rfl,?_⟩)) (hl:∀y,(bs y).length=os:=by intro y;rfl) (o:I8 os (DU 0 bi)=true:=by kernel_rfl)
  (F:fn.body=some (AA fn):=by kernel_rfl) (c:(fn.name== "runtime.NumGoroutine")=false:=by kernel_rfl) (d:fn.results.toList=u:=by kernel_rfl) (hx:Nat.ble ys.length n=true:=by kernel_rfl):KO P f os ys bi Θ M e bs:=
 ⟨fun l H ks g θ p i t B K y hy=>by
  have hN:∀r,IY l ks g r→NN os r (Cu l ks g θ H):=fun r d q J=>by
   obtain⟨v,w⟩:=d
   exact⟨congrFun v _,w q (by omega)⟩
  refine ZmY u (AA fn) ks g os θ ys (DU 0 bi) (e y) (bs y) (Y':=ren (Cu l ks g θ H) (e y)) (bs':=CV (Cu l ks g θ H) 0 (bs y)) G F c I d (by rw[CK];exact Yh hx) E p i t o B rfl (hl y) (hB y).live
   (fun r d=>lh (hN r d) _ (he y)) (fun r d=>GQ.ren (hN r d) _ _ (by rw[hl];omega) (hB y)) (fun C x D A s m L N j=>?_) ⟨rfl,rfl⟩
  refine h C ⟨x,D,A,fun q J=>?_⟩ (by rw[j,s,m,L];exact K) y hy (fun z b=>z=e y∧b=bs y) ⟨rfl,rfl⟩
  rw[j,N]
  show(match Bs ks q with|some k=>k|none=>(0,0))∈ks
  rw[Cs,Ye (by omega)]
  exact Gi _⟩
def Fk(r:Ren):List (Af×Blk)→List Nat
 |[]=>[]
 |(k,b)::a=>(r.γ k+b.g)::Fk r a
def BE(r a:Ren):Nat→List Blk→List (Af×Blk)→Prop
 |i,b::bs,(k,c)::cs=>(b.live=true→c.live=true∧AS r (0,i) b=AS a k c)∧r.γ (0,i)+b.g=a.γ k+c.g∧BE r a (i+1) bs cs
 |_,[],[]=>True
 |_,_,_=>False
def Ia:List Af→Bool
 |[]=>true
 |k::ks=>!(ks.any (BI k))&&Ia ks
theorem PH{κ:Af→Af}{os:Nat}(a:∀q k:Af,BO os q=true→BO os k=true→q≠k→κ q≠κ k):∀(ks:List Af),Ia ks=true→ks.all (BO os)=true→(ks.map κ).Nodup
 |[],_,_=>List.nodup_nil
 |k::ks,h,b=>by
  simp only[Ia,Yc,YJ]at h
  simp only[IZ,Yc]at b
  rw[YW,List.nodup_cons]
  refine⟨fun hm=>?_,PH a ks h.2 b.2⟩
  obtain⟨q,d,e⟩:=YS.1 hm
  have c:q≠k:=fun e'=>V1 h.1 (e'▸d)
  grind
section
variable {P:Program} {f:FuncId} {os os':Nat} {ys:List AV} {bi:List Blk} {Θ:Cl} {γ:Type} {M:Option γ} {e:γ→AV} {bs:γ→List Blk} {C:Cx} {r:Ren} {xs:List AV} {x:AV} {y:γ}
theorem WH{fx:List Nat}(co:COx C os' fx)(g:Gd C r):∀q k:Af,BO os' q=true→BO os' k=true→q≠k→r.κ q≠r.κ k:=by
 intro q k m j l he
 rw[g.κ]at he
 rcases Gy m with e|⟨e,h⟩<;>rcases Gy j with f|⟨f,i⟩
 ·obtain⟨a,b⟩:=q
  obtain⟨c,d⟩:=k
  simp only at e f
  subst e;subst f
  rw[co.ok.own,co.ok.own]at he
  grind
 ·obtain⟨a,b⟩:=q
  obtain⟨c,d⟩:=k
  simp only at e f i
  subst e;subst f
  rw[co.ok.own]at he
  have:=co.ok.out d (by rw[co.O];exact i)
  grind
 ·obtain⟨a,b⟩:=q
  obtain⟨c,d⟩:=k
  simp only at e h f
  subst e;subst f
  rw[co.ok.own]at he
  have:=co.ok.out b (by rw[co.O];exact h)
  grind
 ·obtain⟨a,b⟩:=q
  obtain⟨c,d⟩:=k
  simp only at e h f i
  subst e;subst f
  have:=co.ok.inj b d (by rw[co.O];exact h) (by rw[co.O];exact i) he
  grind
theorem M8{fx:List Nat}(co:COx C os' fx)(g:Gd C r):∀(ks:List Af),ks.all (BO os')=true→Jj (C.l+1) (ks.map r.κ)
 |[],_=>trivial
 |k::ks,h=>by
  simp only[IZ,Yc]at h
  refine⟨?_,M8 co g ks h.2⟩
  rw[g.κ]
  obtain⟨a,b⟩:=k
  rcases Gy h.1 with c|⟨c,d⟩
  ·simp only at c;subst c;rw[co.ok.own];exact Yf _
  ·simp only at c d;subst c;exact SU (co.ok.out b (by rw[co.O];exact d))
theorem P2:∀(bi:List Blk) (i j:Nat),AJ (DU i bi) (0,i+j)=(bi[j]?).getD Fh
 |[],i,j=>by simp[DU,AJ]
 |b::bi,i,0=>by simp[DU,AJ,BI]
 |b::bi,i,j+1=>by
  have a:=P2 bi (i+1) j
  simp only[DU,AJ]
  have:BI (0,i) (0,i+(j+1))=false:=by
   simp only[BI,Kf]
   right
   cases h:Nat.beq i (i+(j+1))with
   |false=>rfl
   |true=>have:=Yd h;omega
  grind
theorem QX{g:Ren}{d:Hp}:∀(bi:List Blk) (a:List (Af×Blk)) (i:Nat) (B:List Blk),(∀j,AJ (DU 0 B) (0,i+j)=(bi[j]?).getD Fh)→BE g r i bi a→
  (∀p∈a,(d (r.κ p.1)).g=r.γ p.1+p.2.g∧(p.2.live=true→d (r.κ p.1)=AS r p.1 p.2))→Ka d g (DU 0 B) i ((a.map (·.1)).map r.κ)
 |[],[],i,B,_,_,_=>trivial
 |b::bi,(k,c)::a,i,B,hB,h,f=>by
  have e:=hB 0
  simp only[Gl,YT,G3]at e
  obtain⟨n,o,l⟩:=h
  refine⟨?_,QX bi a (i+1) B (fun j=>?_) l fun p m=>f p (Yz _ m)⟩
  ·rw[e]
   have q:=f _ (YE ..)
   grind
  ·have:=hB (j+1)
   grind
 |[],_::_,_,_,_,h,_=>h.elim
 |_::_,[],_,_,_,h,_=>h.elim
theorem Zr2{H:Hp}{k:Af}:updH H k (H k)=H:=by
 funext q
 by_cases h:q=k
 ·subst h;exact A4 ..
 ·exact AZ _ _ h
theorem kl{g:Ren}{d:Hp}:∀(bi:List Blk) (a:List (Af×Blk)) (i:Nat),BE g r i bi a→(∀b∈bi,b.live=true)→(∀p∈a,p.2.live=true→d (r.κ p.1)=AS r p.1 p.2)→DA d ((a.map (·.1)).map r.κ) (CV g i bi)=d
 |[],[],_,_,_,_=>rfl
 |b::bi,(k,c)::a,i,h,hl,f=>by
  obtain⟨l,q,m⟩:=h
  have e:=l (hl b (YE ..))
  have j:=f _ (YE ..) e.1
  simp only[YW,DA,CV]
  rw[e.2,←j,Zr2]
  exact kl bi a (i+1) m (fun b n=>hl b (Yz _ n)) fun p o=>f p (Yz _ o)
 |[],_::_,_,h,_,_=>h.elim
 |_::_,[],_,h,_,_=>h.elim
theorem kL{j:Ren}:∀(d:List Blk) (f a:List (Af×Blk)) (i:Nat) (g:Hp),BE j r i d a→(∀b∈d,b.live=true)→f.map (·.1)=a.map (·.1)→DA g ((f.map (·.1)).map r.κ) (CV j i d)=Dg r a g
 |[],[],[],_,_,_,_,_=>rfl
 |[],_::_,[],_,_,_,_,h=>by cases h
 |b::d,[],_::_,_,_,_,_,h=>by cases h
 |b::d,(k,c)::f,(q,o)::a,i,g,h,hl,he=>by
  obtain⟨l,p,m⟩:=h
  simp only[YW,List.cons.injEq]at he
  obtain⟨rfl,he⟩:=he
  have e:=l (hl b (YE ..))
  simp only[YW,DA,CV,Dg]
  rw[e.2]
  exact kL d f a (i+1) _ m (fun b n=>hl b (Yz _ n)) he
 |_::_,_,[],_,_,h,_,_=>h.elim
 |[],_,_::_,_,_,h,_,_=>h.elim
def rC(C:Cx)(r:Ren)(a:List (Af×Blk))(θ:Nat→AV)(H:Hp):Ren:=Cu (C.l+1) ((a.map (·.1)).map r.κ) (Fk r a) θ H
def Th(Θ:Cl)(C:Cx)(r:Ren)(b c:List (Af×Blk))(θ:Nat→AV):Prop:=
 ∀a,(∀p∈c,(a (r.κ p.1)).g=r.γ p.1+p.2.g∧(p.2.live=true→a (r.κ p.1)=AS r p.1 p.2))→(∀k:Af,k.1≤C.l→¬r.no k→a k=r.H0 k)→Θ (fun k=>k∈(b.map (·.1)).map r.κ) (C.l+1) a θ
theorem G9(K:KO P f os ys bi Θ M e bs)(hy:M=some y){fx:List Nat}(co:COx C os' fx)(g:Gd C r)(a k:List (Af×Blk))(θ:Nat→AV)(F:Th Θ C r a (a++k) θ)(l:∀H,BE (rC C r a θ H) r 0 bi a)(t:bs y=bi:=by rfl)(n:bi.all Blk.live=true:=by kernel_rfl)(i:(a++k).all (fun p=>p.2.live)=true:=by kernel_rfl)(hx:∀H,Ar (rC C r a θ H) ys=Ar r xs:=by intro H;kernel_rfl)(u:∀H,ren (rC C r a θ H) (e y)=ren r x:=by intro H;kernel_rfl)
  (m:((a.map (·.1)).all (BO os')&&Ia (a.map (·.1))&&Nat.beq a.length os)=true:=by kernel_rfl):Ii P C.l r f xs (a++k) x:=by
 intro d v D
 have s:∀b∈bi,b.live=true:=fun b E=>Yu.1 n b E
 have o:∀p∈a++k,p.2.live=true:=fun p c=>Yu.1 i p c
 have h:∀p∈a,p∈a++k:=fun p c=>HS _ c
 simp only[Yc]at m
 have q:∀p∈a++k,(d (r.κ p.1)).g=r.γ p.1+p.2.g∧(p.2.live=true→d (r.κ p.1)=AS r p.1 p.2):=fun p c=>⟨by rw[v p c (o p c)];rfl,v p c⟩
 have:=K.k (C.l+1) d ((a.map (fun p:Af×Blk=>p.1)).map r.κ) (Fk r a) θ (by rw[YG,YG];exact Yd m.2) (M8 co g _ m.1.1) (PH (WH co g) _ m.1.2 m.1.1)
  (QX bi a 0 bi (fun j=>by have:=P2 bi 0 j;rwa [YP]at this⊢) (l d) fun p c=>q p (h p c)) (F d q D) y hy
 rw[←hx d]
 refine this.mono fun z w ⟨A,B⟩=>⟨A.trans (u d),B.trans ?_⟩
 rw[t]
 exact kl bi a 0 (l d) s fun p c hl=>(q p (h p c)).2 hl
theorem A5(K:KO P f os ys bi Θ M e bs)(hy:M=some y){fx:List Nat}(co:COx C os' fx)(g:Gd C r)(a m c:List (Af×Blk))(θ:Nat→AV)(D:Th Θ C r a (a++m) θ)
  (n:∀H,BE (rC C r a θ H) r 0 bi a) (h:∀H,BE (rC C r a θ H) r 0 (bs y) c) (k:(bs y).all Blk.live=true:=by kernel_rfl) (hx:∀H,Ar (rC C r a θ H) ys=Ar r xs:=by intro H;kernel_rfl) (s:∀H,ren (rC C r a θ H) (e y)=ren r x:=by intro H;kernel_rfl)
  (i:((a.map (·.1)).all (BO os')&&Ia (a.map (·.1))&&Nat.beq a.length os)=true:=by kernel_rfl) (he:a.map (·.1)=c.map (·.1):=by rfl):Ih P C.l r f xs (a++m) x c []:=by
 have o:∀b∈bs y,b.live=true:=fun b B=>Yu.1 k b B
 have l:∀p∈a,p∈a++m:=fun p q=>HS _ q
 refine ZAY rfl rfl fun d t A=>?_
 simp only[Yc]at i
 have:=K.k (C.l+1) d ((a.map (fun p:Af×Blk=>p.1)).map r.κ) (Fk r a) θ (by rw[YG,YG];exact Yd i.2) (M8 co g _ i.1.1) (PH (WH co g) _ i.1.2 i.1.1)
  (QX bi a 0 bi (fun j=>by have:=P2 bi 0 j;rwa [YP]at this⊢) (n d) fun p q=>t p (l p q)) (D d t A) y hy
 rw[←hx d]
 exact this.mono fun z u ⟨v,w⟩=>⟨v.trans (s d),w.trans (kL (bs y) a c 0 d (h d) o he)⟩
end
structure CloM (P:Program) (C:Cx) (i:Nat) (xs:List AV) {γ:Type} (M:Option γ) (e:γ→AV):Prop where
 k:∀y,M=some y→CP P C.l C.no C.H0 (C.θ i) xs (e y)
 x:∀r,Ar r xs=xs
 e:∀r y,ren r (e y)=e y
section
variable {os:Nat} {β γ:Type} [Inhabited γ]
theorem CloM.callF{P:Program}{i:Nat}{xs:List AV}{M:Option γ}{e:γ→AV}(E:Ev os β)(h:CloM P E.C i xs M e){y:γ}(hy:M=some y):NA P E.E.l E.E.r i xs [] (e y):=
 ZzI (congrFun E.g.θ i) (by rw[E.hl,E.g.no,E.g.H];exact h.k y hy) (h.x _) (h.e _ _)
@[reducible] def cf(P:Program)(i:Nat)(xs:List AV)(M:Option γ)(e:γ→AV)(k:γ→PT os β):PT os β:=
 ⟨.call (e (M.getD default)) [] (k (M.getD default)).a,fun E=>NA P E.l E.r i xs [] (e (M.getD default))∧(k (M.getD default)).q E,M.bind fun y=>(k y).m,fun E=>CloM P E.C i xs M e∧∀y,(k y).n E,fun E b y hm f=>by
  obtain⟨x,a,c⟩:=bind_some hm
  have d:M.getD default=x:=by rw[a];rfl
  rw[d]
  exact⟨b.1.callF E a,(k x).ok E (b.2 x) y c f⟩⟩
@[reducible] def HB(b:Bool)(P:Program)(i:Nat)(xs:List AV)(M:Option γ)(e:γ→AV)(k:γ→PT os β):PT os β:=
 ⟨.call (e (M.getD default)) [] (k (M.getD default)).a,fun E=>(b=true→NA P E.l E.r i xs [] (e (M.getD default)))∧(k (M.getD default)).q E,if(b=true→M.isSome=true)then(k (M.getD default)).m else none,fun E=>CloM P E.C i xs M e∧∀y,(k y).n E,fun E c y hm g=>by
  obtain⟨d,hm⟩:=BL hm
  refine⟨fun h=>?_,(k _).ok E (c.2 _) y hm g⟩
  obtain⟨x,a⟩:=Y7.1 (d h)
  have f:M.getD default=x:=by rw[a];rfl
  rw[f];exact c.1.callF E a⟩
@[reducible] def cs(P:Program)(f:FuncId)(xs:List AV)(ks:List Af)(b:List (Af×Blk))(M:Option γ)(e:γ→AV)(k:γ→PT os β):PT os β:=
 ⟨.call (e (M.getD default)) ks (k (M.getD default)).a,fun E=>Ii P E.l E.r f xs b (e (M.getD default))∧(k (M.getD default)).q E,M.bind fun y=>(k y).m,fun E=>(∀y,M=some y→Ii P E.C.l E.E.r f xs b (e y))∧∀y,(k y).n E,fun E c y hm h=>by
  obtain⟨x,a,d⟩:=bind_some hm
  have g:M.getD default=x:=by rw[a];rfl
  rw[g]
  exact⟨by rw[E.hl];exact c.1 x a,(k x).ok E (c.2 x) y d h⟩⟩
@[reducible] def J0(b:Bool)(P:Program)(f:FuncId)(xs:List AV)(ks:List Af)(a:List (Af×Blk))(M:Option γ)(e:γ→AV)(k:γ→PT os β):PT os β:=
 ⟨.call (e (M.getD default)) ks (k (M.getD default)).a,fun E=>(b=true→Ii P E.l E.r f xs a (e (M.getD default)))∧(k (M.getD default)).q E,if(b=true→M.isSome=true)then(k (M.getD default)).m else none,fun E=>(∀y,M=some y→Ii P E.C.l E.E.r f xs a (e y))∧∀y,(k y).n E,fun E d y hm i=>by
  obtain⟨g,hm⟩:=BL hm
  refine⟨fun a=>?_,(k _).ok E (d.2 _) y hm i⟩
  obtain⟨x,c⟩:=Y7.1 (g a)
  have h:M.getD default=x:=by rw[c];rfl
  rw[h,E.hl];exact d.1 x c⟩
@[reducible] def mv{α:Type}[Rw α](d q:Nat)(xs:List α)(k:PT os β)(a:Nat.ble (q+1) os=true:=by kernel_rfl):PT os β:=
 ⟨.mv d q k.a,fun E=>FP (Ab Rw.e xs)∧(q<os∧E.r.no (E.r.κ (0,q)))∧k.q E,k.m,k.n,fun E c y hm b=>
  ⟨zI _ _,⟨Yh a,by rw[E.g.no,E.g.κ];exact E.co.W q (Yh a)⟩,k.ok E c y hm b⟩⟩
@[reducible] def mvc{α:Type}[Rw α](d q e i:Nat)(xs:List α)(k:PT os β)(a:Nat.ble (q+1) os=true:=by kernel_rfl):PT os β:=
 ⟨.mvc d q e i k.a,fun E=>FP (Ab Rw.e xs)∧(q<os∧E.r.no (E.r.κ (0,q)))∧k.q E,k.m,k.n,fun E c y hm b=>
  ⟨zI _ _,⟨Yh a,by rw[E.g.no,E.g.κ];exact E.co.W q (Yh a)⟩,k.ok E c y hm b⟩⟩
end
section
variable {P:Program} {os os':Nat} {ys:List AV} {bi:List Blk} {Θ:Cl} {γ:Type} {M:Option γ} {e:γ→AV} {bs:γ→List Blk} {C:Cx} {r:Ren} {y:γ}
theorem Lr{f:FuncId}(K:KO P f os ys bi Θ M e bs)(hy:M=some y){fx:List Nat}(co:COx C os' fx)(g:Gd C r)(c i:List (Af×Blk)){w:List (Af×Blk)}{v:Hp}(L:∀p∈w,(v (r.κ p.1)).g=r.γ p.1+p.2.g∧(p.2.live=true→v (r.κ p.1)=AS r p.1 p.2))(u:∀p∈c,p∈w)
  {G d:List AV} (θ:Nat→AV) (O:∀l' a,Θ (fun k=>k∈(c.map (·.1)).map r.κ) l' a θ) (o:∀l H,BE (Cu l ((c.map (·.1)).map r.κ) (Fk r c) θ H) r 0 bi c) (B:bs y=bi:=by rfl) (t:bi.all Blk.live=true:=by kernel_rfl)
  (hx:∀l H,Ar (Cu l ((c.map (·.1)).map r.κ) (Fk r c) θ H) ys=G++d:=by intro l H;kernel_rfl) (D:∀l H,ren (Cu l ((c.map (·.1)).map r.κ) (Fk r c) θ H) (e y)=e y:=by intro l H;kernel_rfl)
  (F:(((c++i).map (·.1)).all (BO os')&&Ia ((c++i).map (·.1))&&Nat.beq c.length os)=true:=by kernel_rfl):CP P (C.l+1) (fun k=>k∈(i.map (·.1)).map r.κ) v (.fn (.func f) [] d) G (e y):=by
 have A:∀b∈bi,b.live=true:=fun b w=>Yu.1 t b w
 refine⟨f,[],d,rfl,fun l' a hl N=>?_⟩
 simp only[Yc,DM,List.all_append]at F
 obtain⟨⟨⟨E,R⟩,S⟩,T⟩:=F
 have m:=PH (WH co g) _ S (by rw[List.all_append,E,R];rfl)
 rw[DM,List.nodup_append]at m
 have x:∀p∈c,a (r.κ p.1)=v (r.κ p.1):=fun p n=>by
  have hm:r.κ p.1∈(c.map (·.1)).map r.κ:=Z4 (Z4 n)
  exact N _ (V3 (M8 co g _ E) _ hm) fun h=>m.2.2 _ hm _ h rfl
 have q:∀p∈c,(a (r.κ p.1)).g=r.γ p.1+p.2.g∧(p.2.live=true→a (r.κ p.1)=AS r p.1 p.2):=fun p n=>by rw[x p n];exact L p (u p n)
 have s:Jj l' ((c.map (·.1)).map r.κ):=by
  have:=M8 co g (c.map (·.1)) E
  generalize (c.map (·.1)).map r.κ=ks at this
  induction ks with
  |nil=>trivial
  |cons k ks Q=>exact⟨D3 this.1 hl,Q this.2⟩
 have:=K.k l' a ((c.map (fun p:Af×Blk=>p.1)).map r.κ) (Fk r c) θ (by rw[YG,YG];exact Yd T) s m.1
  (QX bi c 0 bi (fun j=>by have:=P2 bi 0 j;rwa [YP]at this⊢) (o l' a) q) (O l' a) y hy
 rw[Gj,←hx l' a]
 refine this.mono fun z U ⟨I,J⟩=>⟨I.trans (D l' a),J.trans ?_⟩
 rw[B]
 exact kl bi c 0 (o l' a) A fun p n hl=>(q p n).2 hl
theorem oc{f:FuncId}{xs:List AV}(K:KC P f xs M e)(hy:M=some y){l:Nat}{no:Af→Prop}{H:Hp}:CP P l no H (.fn (.func f) [] []) xs (e y):=Zx1 fun l' a=>K.k l' a y hy
end
theorem BH{C:Cx}{r:Ren}{os':Nat}{P:Program}{i:Nat}{xs:List AV}{y:AV}{fx:List Nat}(co:COx C os' fx)(g:Gd C r)(m:List (Af×Blk)){l:Hp}(p:∀k:Af,k.1≤C.l→¬r.no k→l k=r.H0 k)(h:CP P C.l C.no C.H0 (C.θ i) xs y)
  (o:((m.map (·.1)).all (BO os'))=true:=by kernel_rfl):CP P (C.l+1) (fun k=>k∈(m.map (·.1)).map r.κ) l (r.θ i) xs y:=by
 rw[g.θ]
 refine ZET h (Nat.le_succ _) (fun q f d hm=>?_) fun q f d=>?_
 ·obtain⟨k,j,e⟩:=YS.1 hm
  rw[g.κ]at e
  obtain⟨a,b⟩:=k
  rcases Gy (Yu.1 o _ j)with c|⟨c,n⟩
  ·simp only at c;subst c;rw[co.ok.own]at e;rw[←e]at f;simp only at f;omega
  ·simp only at c n;subst c;rw[←e]at d;exact d (co.W b n)
 ·rw[←g.H];exact p q f (by rw[g.no];exact d)
theorem AD{r b:Ren}{k k':Af}{g a:Nat}{e:EK}{sz:Nat}{cs:List AV}(h:Ib cs)(c:r.γ k+g=b.γ k'+a):AS r k ⟨g,true,e,sz,cs⟩=AS b k' ⟨a,true,e,sz,cs⟩:=by
 simp only[AS,JC h,c]
section
variable {P:Program} {T:Nat→Option TI} {n:Nat} {C:Cx} {τ:St} {Q:Exit→St→Prop} {os k:Nat} {c:Code} {β:Type} {L:β→Prop} {y:β}
theorem AM{fx:List Nat}(co:COx C os fx)(o:Bj P T)(m:Nat)(v:PT os β)(lf:Lf)(s:v.m=some y)(j:HL L y)(p:∀r (g:Gd C r),v.n ⟨⟨C.l,r,fun _ τ'=>LO P n C c (k+m) τ' Q,fun _ _=>False⟩,L,C,_,co,g,rfl⟩)
  (q:∀l r Q b,Bq r os v.a τ (fun τ a=>Hy P T l n r ((Ct c).toList.map (·.dst)) (JO m (JT k (Ct c).toList)) [] a (fun τ' env d=>Bq r os d (Ed env τ') (fun τ _=>FU fx lf τ (Q .normal))) τ)=v.q ⟨l,r,Q,b⟩:=by intro l r Q P;kernel_rfl):LO P n C c k τ Q:=
 ZMF co.ok o co.O co.F m v.a lf (fun r Φ=>v.q ⟨C.l,r,fun _=>Φ,fun _ _=>False⟩) (fun r Φ=>q _ r (fun _=>Φ) _) fun r e f h i=>v.ok _ (p r ⟨e,f,h,i⟩) y s j
theorem AI{fx:List Nat}(co:COx C os fx)(m:Bj P T)(v:PT os β)(lf:Lf)(q:v.m=some y)(j:HL L y)(o:∀r (g:Gd C r),v.n ⟨⟨C.l,r,Q,fun _ _=>False⟩,L,C,_,co,g,rfl⟩)
  (p:∀l r Q b,Bq r os v.a τ (fun τ a=>Hy P T l n r ((Ct c).toList.map (·.dst)) (JT k (Ct c).toList) [] a (fun τ' env d=>Bq r os d (Ed env τ') (fun τ _=>FU fx lf τ (Q .normal))) τ)=v.q ⟨l,r,Q,b⟩:=by intro l r Q P;kernel_rfl):LO P n C c k τ Q:=
 ZMG co.ok m co.O co.F v.a lf (fun r Q=>v.q ⟨C.l,r,Q,fun _ _=>False⟩) (fun r Q=>p _ r Q _) fun r e f h i=>v.ok _ (o r ⟨e,f,h,i⟩) y q j
theorem A6{γ:Type}{M:Option γ}{kk:γ→Option β}{ss:List (Nat×AV)}{hs:List (Af×Blk)}{fx:List Nat}(co:COx C os fx)(hm:M.bind kk=some y)(f:FuncId)(xs:List AV)(ks:List Af)(b:List (Af×Blk))(e:γ→AV)(AB:γ→List (Af×Blk))(fl:List Af)
  (l:∀z,Ft C (AB z)) (d:J1 (AJ hs) fl) (a:∀z,M=some z→∀r,Gd C r→Ih P C.l r f xs b (e z) (AB z) [])
  (h:∀z,kk z=some y→LO P n C c (k+1) (Ad (Ht (FS c k) (e z) (Ea [] ss)) (AB z++C3 ((AB z).map (·.1)) [] fl hs)) Q)
  (j:He c k=some (FS c k,callF c k,Hh c k):=by kernel_rfl) (v:ev (AG ss) (callF c k)=.fn (.func f) [] []:=by kernel_rfl) (m:[]++(Hh c k).map (ev (AG ss))++[]=xs:=by kernel_rfl) (g:(ks.map fun k=>(k,AJ hs k))=b:=by kernel_rfl)
  (i:∀z,(Dz os (AB z)&&Mq [] (AB z)&&Nb [] fx&&Ij hs&&Ni n (FS c k)&&ks.all (BO os))=true:=by intro z;kernel_rfl):LO P n C c k (Ad ss hs) Q:=by
 obtain⟨z,o,p⟩:=bind_some hm
 exact ZoA co.ok co.O co.F f [] [] xs j v m ks b g (e z) (AB z) [] fl (i z) (l z) d (fun r q s t u=>a z o r ⟨q,s,t,u⟩) (h z p)
theorem c6{γ:Type}{M:Option γ}{kk:γ→Option β}{ss:List (Nat×AV)}{hs:List (Af×Blk)}{f:FuncId}{os':Nat}{ys:List AV}{bi:List Blk}{Θ:Cl}{e0:γ→AV}{bs:γ→List Blk}{fx:List Nat}(co:COx C os fx)(hm:M.bind kk=some y)(K:KO P f os' ys bi Θ M e0 bs)
  (a b:List (Af×Blk)) (e:γ→AV) (AB:γ→List (Af×Blk)) (fl:List Af)
  (h:∀z,kk z=some y→LO P n C c (k+1) (Ad (Ht (FS c k) (e z) (Ea [] ss)) (AB z++C3 ((AB z).map (·.1)) [] fl hs)) Q)
  (θ:Ren→Nat→AV:=fun _=>AG []) (x:∀r,Gd C r→Th Θ C r a (a++b) (θ r):=by intro r g;exact fun _ _ _=>trivial) (xs:List AV:=[]++(Hh c k).map (ev (AG ss))++[])
  (q:∀z,Ft C (AB z):=by intro z;repeat(first|exact trivial|refine⟨COx.W ‹_› _ (by decide),?_⟩))
  (j:J1 (AJ hs) fl:=by repeat(first|exact trivial|refine⟨Aw _ _,?_⟩))
  (i:∀r H,BE (rC C r a (θ r) H) r 0 bi a:=by
   intro r H
   repeat(first|exact trivial|refine⟨fun _=>⟨rfl,AD (Aw _ _) (by kernel_rfl)⟩,by kernel_rfl,?_⟩|refine⟨fun _=>⟨rfl,AD Nn (by kernel_rfl)⟩,by kernel_rfl,?_⟩|refine⟨fun _=>⟨rfl,by kernel_rfl⟩,by kernel_rfl,?_⟩|refine⟨(fun h=>nomatch h),by kernel_rfl,?_⟩))
  (d:∀z r H,BE (rC C r a (θ r) H) r 0 (bs z) (AB z):=by
   intro z r H
   repeat(first|exact trivial|refine⟨fun _=>⟨rfl,AD (Aw _ _) (by kernel_rfl)⟩,by kernel_rfl,?_⟩|refine⟨fun _=>⟨rfl,AD Nn (by kernel_rfl)⟩,by kernel_rfl,?_⟩|refine⟨fun _=>⟨rfl,by kernel_rfl⟩,by kernel_rfl,?_⟩))
  (hx:∀r H,Ar (rC C r a (θ r) H) ys=Ar r xs:=by intro r H;kernel_rfl) (s:[]++(Hh c k).map (ev (AG ss))++[]=xs:=by kernel_rfl) (t:∀z r H,ren (rC C r a (θ r) H) (e0 z)=ren r (e z):=by intro z r H;kernel_rfl)
  (p:He c k=some (FS c k,callF c k,Hh c k):=by kernel_rfl) (u:ev (AG ss) (callF c k)=.fn (.func f) [] []:=by kernel_rfl)
  (l:(((a++b).map (·.1)).map fun k=>(k,AJ hs k))=a++b:=by kernel_rfl) (m:∀z,(bs z).all Blk.live=true:=by intro z;kernel_rfl) (he:∀z,a.map (·.1)=(AB z).map (·.1):=by intro z;rfl)
  (v:((a.map (·.1)).all (BO os)&&Ia (a.map (·.1))&&Nat.beq a.length os')=true:=by kernel_rfl)
  (o:∀z,(Dz os (AB z)&&Mq [] (AB z)&&Nb [] fx&&Ij hs&&Ni n (FS c k)&&((a++b).map (·.1)).all (BO os))=true:=by intro z;kernel_rfl):LO P n C c k (Ad ss hs) Q:=
 A6 co hm f xs _ (a++b) e AB fl q j (fun z w r g=>A5 K w co g a b (AB z) (θ r) (x r g) (fun H=>i r H) (fun H=>d z r H) (m z) (fun H=>hx r H) (fun H=>t z r H) v (he z)) h p u s l o
theorem HZ{fx:List Nat}(co:COx C os fx)(v:PT os β)(lf:Lf)(k:v.m=some y)(h:HL L y)(i:∀r (g:Gd C r),v.n ⟨⟨C.l,r,fun _ τ'=>LW P n C c τ' Q,fun _ _=>False⟩,L,C,_,co,g,rfl⟩)
  (j:∀l r Q a,Bq r os v.a τ (fun τ _=>FU fx lf τ (Q .normal))=v.q ⟨l,r,Q,a⟩:=by intro l r Q P;kernel_rfl):LW P n C c τ Q:=
 ZE9 co.ok co.O co.F v.a lf (fun r Φ=>v.q ⟨C.l,r,fun _=>Φ,fun _ _=>False⟩) (fun r Φ=>j _ r (fun _=>Φ) _) fun r b d e f=>v.ok _ (i r ⟨b,d,e,f⟩) y k h
theorem BV{q:Prop}[Decidable q]{m:Option β}{G:Prop}(hm:(if q then m else none)=some y)(h:q→m=some y→G):G:=h (BL hm).1 (BL hm).2
theorem rg{c:Code}(h:LO P n C c 0 τ Q)(hs:vd c=true:=by kernel_rfl):LW P n C c τ Q:=ZpK hs h
end
end Go.Eng
namespace Go.Eng
set_option linter.all false
open Go Go.RowKit
section
variable {α β:Type} (P:Program)
def Vp(s:Sem α):Prop:=∀w r a,s.run P w=.ok r a→a=w∧∀w2,s.run P w2=.ok r w2
def Rd(s:Sem α):Prop:=∀w r a,s.run P w=.ok r a→a=w
variable {P}
theorem Vp.rd{s:Sem α}(h:Vp P s):Rd P s:=fun w r a e=>(h w r a e).1
theorem Vp.pure(a:α):Vp P (Pure.pure a:Sem α):=fun w r b e=>by cases e;exact⟨rfl,fun _=>rfl⟩
theorem Vp.halt(h:Halt):Vp P (.halt h:Sem α):=fun w r a e=>by cases e
theorem Vp.program:Vp P Go.program:=fun w r a e=>by cases e;exact⟨rfl,fun _=>rfl⟩
theorem Vp.bind{s:Sem α}{f:α→Sem β}(h:Vp P s)(k:∀a,Vp P (f a)):Vp P (s>>=f):=fun w r g e=>by
 rw[Sem.run_bind]at e
 cases hs:s.run P w with
 |halt x w'=>rw[hs]at e;cases e
 |ok a w'=>
  rw[hs]at e
  obtain⟨rfl,b⟩:=h w a w' hs
  obtain⟨c,d⟩:=k a _ _ _ e
  exact⟨c,fun w2=>by rw[Sem.run_bind,b w2];exact d w2⟩
theorem Rd.bind{s:Sem α}{f:α→Sem β}(h:Rd P s)(k:∀a,Rd P (f a)):Rd P (s>>=f):=fun w r c e=>by
 rw[Sem.run_bind]at e
 cases hs:s.run P w with
 |halt x w'=>rw[hs]at e;cases e
 |ok a w'=>
  rw[hs]at e
  have b:=h w a w' hs
  subst b
  exact k a _ _ _ e
theorem jY(t:TypeId):Vp P (typeInfo t):=by
 unfold typeInfo
 refine Vp.program.bind fun p=>?_
 split
 ·exact .pure _
 ·exact .halt _
theorem Jy(t:TypeId):Vp P (underlying t):=by
 unfold underlying
 refine Vp.program.bind fun p=>?_
 split
 ·exact .pure _
 ·exact .halt _
theorem EZ(t:TypeId):Vp P (sizeOf t):=by unfold sizeOf;exact(jY t).bind fun _=>.pure _
theorem MT(t:TypeId):Vp P (isAgg t):=by
 unfold isAgg
 refine(Jy t).bind fun d=>?_
 split<;>exact .pure _
theorem ZFq(t:TypeId)(cs:Array Value)(o:Nat):Vp P (part t cs o):=by
 unfold part
 refine(MT t).bind fun b=>?_
 cases b with
 |true=>exact(EZ t).bind fun _=>.pure _
 |false=>
  show Vp P (match cs[o]? with|some v=>_|none=>_)
  split
  ·exact .pure _
  ·exact .halt _
theorem U3:∀(l:List FieldStep) (t:TypeId) (x:Option Value),Vp P (followBlind l t x)
 |[],t,x=>.pure _
 |s::a,t,x=>by
  unfold followBlind
  refine(Jy _).bind fun d=>?_
  split
  ·split
   ·split
    ·exact .pure _
    ·exact U3 a _ _
    ·exact .halt _
    ·exact .pure _
    ·exact(ZFq _ _ _).bind fun _=>U3 a _ _
    ·exact .halt _
    ·exact U3 a _ _
   ·exact .halt _
  ·exact .halt _
theorem zo:∀(n:Nat) (t:TypeId) (v:Value) (s:String),Vp P (nilAhead n t v s)
 |0,t,v,s=>.pure _
 |n+1,t,v,s=>by
  unfold nilAhead
  refine(jY _).bind fun i=>?_
  split
  ·refine(U3 _ _ _).bind fun r=>?_
   split
   ·exact .pure _
   ·split
    ·exact zo n _ _ _
    ·exact .pure _
    ·exact .halt _
    ·exact .pure _
    ·exact .pure _
    ·refine(Jy _).bind fun d=>?_
     split<;>exact .pure _
  ·exact .halt _
def VV(P:Program)(s:Sem Next):Prop:=∀w r a,s.run P w=.ok r a→∃v,r=.value v
theorem VV.val{s:Sem Value}:VV P (s>>=fun x=>Pure.pure (Next.value x):Sem Next):=fun w r b e=>by
 rw[Sem.run_bind]at e
 cases hs:s.run P w with
 |halt x w'=>rw[hs]at e;cases e
 |ok a w'=>rw[hs]at e;cases e;exact⟨a,rfl⟩
theorem Vp.val{s:Sem Value}(h:Vp P s):Vp P (s>>=fun x=>Pure.pure (Next.value x):Sem Next):=h.bind fun _=>.pure _
theorem Rd.val{s:Sem Value}(h:Rd P s):Rd P (s>>=fun x=>Pure.pure (Next.value x):Sem Next):=h.bind fun _=>(Vp.pure _).rd
end
theorem j7{P:Program}(t:TypeId):Vp P (zeroValue t):=by
 unfold zeroValue
 refine(jY t).bind fun i=>?_
 split
 ·exact .pure _
 ·exact .halt _
theorem Zta{α β:Type}{P:Program}{f:α→Sem β}(h:∀x,Vp P (f x)):∀l:List α,Vp P (l.mapM f)
 |[]=>by rw[List.mapM_nil];exact .pure _
 |x::l=>by rw[SN];exact(h x).bind fun _=>(Zta h l).bind fun _=>.pure _
theorem ZEg{α β:Type}{P:Program}{f:α→Sem β}(h:∀x,Vp P (f x))(l:Array α):Vp P (l.mapM f):=by
 rw[qY]
 exact(Zta h _).bind fun _=>.pure _
theorem Zyr{P:Program}(t:TypeId)(ps:Array (Nat×Value)):Vp P (Instr.build t ps):=by
 unfold Instr.build
 refine(j7 t).bind fun z=>(Jy t).bind fun d=>?_
 split
 ·refine(ZEg (fun f=>(EZ _).bind fun _=>.pure _) _).bind fun a=>?_
  split
  ·exact .pure _
  ·exact .halt _
 ·refine(EZ _).bind fun n=>?_
  split
  ·exact .pure _
  ·exact .halt _
 ·exact .halt _
def Nv{α:Type}(P:Program)(s:Sem α):Prop:=∀w r a,s.run P w≠.ok r a
theorem Nv.vp{α:Type}{P:Program}{s:Sem α}(h:Nv P s):Vp P s:=fun w r a e=>absurd e (h w r a)
theorem Zmv{α:Type}{P:Program}(k:IntKind)(x y:Int)(c:BoundsCode):Nv P (boundsPanic k x y c:Sem α):=fun w r b e=>by
 unfold boundsPanic at e
 dsimp only at e
 have d:∀(s:Bool) w r b,(runtimePanic (.bounds (IntKind.i64.wrap x) y s c):Sem α).run P w≠.ok r b:=fun s w r b e=>by
  unfold runtimePanic at e
  simp only[Sem.run_bind,run_program,Result.andThen_ok]at e
  repeat(first|(cases e;done)|split at e|(simp[goPanic,stuck,unsupported,Sem.run]at e;done))
 split at e
 all_goals
  rw[Sem.run_bind]at e
  generalize hs:Sem.run P _ w=q at e
  cases q with
  |halt x w'=>cases e
  |ok a w'=>exact d _ _ _ _ e
theorem ZL7{α:Type}{P:Program}:Nv P (runtimePanic .nilDeref:Sem α):=fun w r a e=>by
 unfold runtimePanic at e
 simp only[Sem.run_bind,run_program,Result.andThen_ok]at e
 repeat(first|(cases e;done)|split at e|(simp[goPanic,stuck,unsupported,Sem.run]at e;done))
theorem zC{P:Program}(v:Value):Vp P (asIntOf v):=by
 unfold asIntOf
 split
 ·exact .pure _
 ·exact .halt _
 ·exact .halt _
theorem ZuO{P:Program}(v:Value):Vp P (Instr.sureAddr v):=by
 unfold Instr.sureAddr
 split
 ·exact .pure _
 ·exact .halt _
theorem Zr7{P:Program}(v:Value):Vp P (asAddr v):=by
 unfold asAddr
 split
 ·exact .pure _
 ·first|exact ZL7.vp|exact .halt _
 ·exact .halt _
theorem Zj4{P:Program}(x:Value)(y:Nat)(c:BoundsCode):Vp P (Instr.sliceBound x y c):=by
 unfold Instr.sliceBound
 refine(zC _).bind fun p=>?_
 dsimp only
 split
 ·exact .pure _
 ·exact(Zmv _ _ _ _).vp
theorem yZ{P:Program}(b:Bool)(n m:Nat)(lo hi a:Option Value):Vp P (Instr.sliceBounds b n m lo hi a):=by
 unfold Instr.sliceBounds
 dsimp only
 repeat' (first|exact Vp.pure _|exact Zj4 _ _ _|exact Vp.halt _|refine Vp.bind ?_ fun _=>?_|split)
theorem Zxs{P:Program}(t:TypeId)(x:Value)(lo hi a:Option Value):Vp P (Instr.slice t x lo hi a):=by
 unfold Instr.slice
 dsimp only
 repeat' (first|exact Vp.pure _|exact yZ _ _ _ _ _ _|exact Jy _|exact EZ _|exact Zr7 _|exact Vp.halt _|refine Vp.bind ?_ fun _=>?_|split)
theorem Zqs{P:Program}(t:TypeId)(x:Value)(lo hi a:Option Value):Vp P (Instr.sliceAt t x lo hi a):=by
 unfold Instr.sliceAt
 repeat' (first|exact Vp.pure _|exact yZ _ _ _ _ _ _|exact Jy _|exact EZ _|exact ZuO _|exact Zxs _ _ _ _ _|exact Vp.halt _|refine Vp.bind ?_ fun _=>?_|split)
theorem ZpL{P:Program}(t:TypeId)(x i:Value):Vp P (Instr.indexAt t x i):=by
 unfold Instr.indexAt
 dsimp only
 repeat' (first|exact Vp.pure _|exact zC _|exact Jy _|exact EZ _|exact ZuO _|exact(Zmv _ _ _ _).vp|exact Vp.halt _|refine Vp.bind ?_ fun _=>?_|split)
theorem Zqx{P:Program}(v:Value)(i:Nat):Vp P (Instr.extract v i):=by
 unfold Instr.extract
 split
 ·split
  ·exact .pure _
  ·exact .halt _
 ·exact .halt _
def yK(P:Program)(c:Call):Bool:=match c.callee,c.args.toList,c.argTypes.toList with
 |.builtin .len,[_],[t]=>(match P.underlying t with|some (.slice _)=>true|some .string=>true|_=>false)
 |_,_,_=>false
theorem ZMj{P:Program}{t:TypeId}{ty:TypeId}(x:Value)(h:(match P.underlying t with|some (.slice _)=>true|some .string=>true|_=>false)=true):Vp P (Builtin.len_ #[t] ty #[x]):=by
 unfold Builtin.len_
 simp only[ri,Gl]
 intro w r c e
 have a:∃d,P.underlying t=some d∧((∃q,d=.slice q)∨d=.string):=by
  grind
 obtain⟨d,a,b⟩:=a
 simp only[Sem.run_bind,run_underlying a,Result.andThen_ok]at e⊢
 rcases b with⟨q,rfl⟩|rfl
 ·cases x<;>first|(cases e;exact⟨rfl,fun _=>rfl⟩)|(cases e;done)
 ·cases x<;>first|(cases e;exact⟨rfl,fun _=>rfl⟩)|(cases e;done)
def DZ(P:Program)(o:Oper):Bool:=match o.op with
 |.build _ _=>true
 |.extract _ _=>true
 |.indexAddr _ _ _=>true
 |.slice _ _ _ _ _=>true
 |.makeFunc _ _ _=>true
 |.call c=>yK P c
 |.move _=>true
 |.assign _=>true
 |.nilCheck _=>true
 |.fieldAddr t _ i=>(match P.underlying t with|some (.struct a)=>(match a[i]? with|some f=>!(Nat.beq (P.cellsOf f.type) 0)|none=>false)|_=>false)
 |_=>false
def Dn(P:Program)(o:Oper):Bool:=DZ P o||match o.op with|.load _ _=>true|_=>false
section
variable {P:Program} {ρ:Operand→Value} {o:Oper}
theorem V2(h:DZ P o=true):Vp P (execOp ρ o)∧VV P (execOp ρ o):=by
 obtain⟨j,op,type,pos,after,guard⟩:=o
 cases op<;>simp only[DZ]at h<;>first|(cases h;done)|skip
 case move x=>exact⟨.pure _,fun w r d e=>by cases e;exact⟨_,rfl⟩⟩
 case assign x=>exact⟨.pure _,fun w r d e=>by cases e;exact⟨_,rfl⟩⟩
 case build t ps=>exact⟨(Zyr _ _).val,VV.val⟩
 case makeFunc f a b=>exact⟨(Vp.pure _).val,VV.val⟩
 case extract x i=>exact⟨(Zqx _ _).val,VV.val⟩
 case indexAddr t x i=>exact⟨(ZpL _ _ _).val,VV.val⟩
 case slice t x a b c=>exact⟨(Zqs _ _ _ _ _).val,VV.val⟩
 case call c=>
  unfold yK at h
  split at h
  ·rename_i x t l k n
   obtain⟨z,u,D⟩:=c
   simp only at l k n
   subst l
   have A:u=#[x]:=Dc (by simpa using k)
   have B:D=#[t]:=Dc (by simpa using n)
   subst A;subst B
   have:execOp ρ ⟨j,.call ⟨.builtin .len,#[x],#[t]⟩,type,pos,after,guard⟩=(Builtin.len_ #[t] type #[ρ x]>>=fun v=>(Pure.pure (Next.value v):Sem Next)):=by
    simp[execOp,resolve,invoke,Go.builtin]
   rw[this]
   exact⟨(ZMj _ h).val,VV.val⟩
  ·cases h
 case nilCheck x=>
  have F:∀v:Value,Vp P (pure (.value v):Sem Next)∧VV P (pure (.value v):Sem Next):=fun v=>⟨.pure _,fun w r d e=>by cases e;exact⟨_,rfl⟩⟩
  have g:Vp P (runtimePanic .nilDeref:Sem Next)∧VV P (runtimePanic .nilDeref:Sem Next):=by
   have:∀w r d,(runtimePanic .nilDeref:Sem Next).run P w≠.ok r d:=fun w r d e=>by
    unfold runtimePanic at e
    simp only[Sem.run_bind,run_program,Result.andThen_ok]at e
    repeat(first|(cases e;done)|split at e|(simp[goPanic,stuck,unsupported,Sem.run]at e;done))
   exact⟨fun w r d e=>absurd e (this w r d),fun w r d e=>absurd e (this w r d)⟩
  show Vp P (execOp ρ _)∧_
  simp only[execOp]
  split
  ·exact g
  ·exact g
  ·exact g
  ·split
   ·exact g
   ·refine⟨Vp.program.bind fun p=>(zo _ _ _ _).bind fun b=>?_,fun w r d e=>?_⟩
    ·split
     ·exact .halt _
     grind
    ·simp only[Sem.run_bind,run_program,Result.andThen_ok]at e
     cases hs:(nilAhead _ _ _ _).run P w with
     |halt x w'=>rw[hs]at e;cases e
     |ok a w'=>
      rw[hs]at e
      simp only[Result.andThen_ok]at e
      split at e
      ·cases e
      ·cases e;exact⟨_,rfl⟩
   grind
  ·grind
 case fieldAddr t x i=>
  refine⟨Vp.val ?_,VV.val⟩
  unfold Instr.fieldAt
  intro w r d e
  split at h
  ·rename_i E q
   split at h
   ·rename_i f m
    have s:P.cellsOf f.type≠0:=fun C=>by rw[C]at h;cases h
    have run:∀(ad:Addr) (w:World),(Instr.fieldAt t (.pointer (some ad)) i).run P w=.ok (.pointer (some (ad.add f.offset))) w:=fun ad w=>by
     simp[Instr.fieldAt,run_underlying q,m,Instr.sureAddr,fieldPlace,Ez s,s]
    have y:∀v:Value,(∀ad,v≠.pointer (some ad))→(Instr.fieldAt t v i).run P w≠.ok r d:=fun v G e=>by
     have hs:Instr.sureAddr v=.halt (.stuck "an address expected (no nilCheck in front?)"):=by
      unfold Instr.sureAddr
      split
      ·grind
      ·rfl
     simp only[Instr.fieldAt,Sem.run_bind,run_underlying q,Result.andThen_ok,m,hs]at e
     cases e
    change (Instr.fieldAt t (ρ x) i).run P w=.ok r d at e
    show d=w∧∀w2,(Instr.fieldAt t (ρ x) i).run P w2=.ok r w2
    grind
   ·cases h
  ·cases h
theorem VU(a:Addr):Rd P (load a):=fun w r b e=>by
 unfold load at e
 simp only[Sem.run]at e
 grind
theorem U0(a:Addr):∀(n i:Nat) (b:Array Value),Rd P (loadCellsFrom a i n b)
 |0,i,b=>(Vp.pure _).rd
 |n+1,i,b=>by unfold loadCellsFrom;exact(VU _).bind fun v=>U0 a n (i+1) _
theorem ke(t:TypeId)(a:Addr):Rd P (loadVar t a):=by
 unfold loadVar
 refine(MT t).rd.bind fun b=>?_
 cases b with
 |true=>exact(EZ t).rd.bind fun n=>(U0 a n 0 _).bind fun _=>(Vp.pure _).rd
 |false=>exact VU a
theorem P3(h:Dn P o=true):Rd P (execOp ρ o)∧VV P (execOp ρ o):=by
 unfold Dn at h
 rw[YH]at h
 rcases h with h|h
 ·obtain⟨c,d⟩:=V2 (ρ:=ρ) h
  exact⟨c.rd,d⟩
 ·obtain⟨b,op,type,pos,after,guard⟩:=o
  cases op<;>simp only at h<;>first|(cases h;done)|skip
  refine⟨Rd.val ?_,VV.val⟩
  unfold Instr.loadAt
  refine Rd.bind ?_ fun a=>ke _ _
  unfold Instr.sureAddr
  split
  ·exact(Vp.pure _).rd
  ·exact(Vp.halt _).rd
def GO(w a:World):Prop:=∀(k:Nat) (o:Obj),w.heap[k]?=some o→a.heap[k]?=some o
theorem GO.refl(w:World):GO w w:=fun _ _ h=>h
theorem GO.cell{w d:World}{a:Addr}{v:Value}(h:GO w d)(b:w.cell? a=some v):d.cell? a=some v:=by
 unfold World.cell? at b⊢
 cases c:w.heap[a.block]? with
 |none=>rw[c]at b;cases b
 |some o=>rw[c]at b;rw[h _ _ c];exact b
theorem GO.seen{w d:World}{p:Program}{at_:Addr}{u:TypeId}{k:Addr}{b:Bool}(h:GO w d){r}(a:w.seen p at_ u k b=.ok r):d.seen p at_ u k b=.ok r:=by
 cases c:w.heap[at_.block]? with
 |none=>
  exfalso
  unfold World.seen at a
  rw[c]at a
  have T:∀(α:Type) (e:String),(MonadExcept.throw e:Except String α)=.error e:=fun _ _=>rfl
  simp only[bind,Except.bind,pure,Except.pure,throw,throwThe,T]at a
  grind
 |some o=>
  unfold World.seen at a⊢
  rw[h _ _ c]
  grind
theorem GO.far{w i:World}{p:Program}{a:Addr}{b:Bool}(h:GO w i){r}(c:w.farLoad p a b=.ok r):i.farLoad p a b=.ok r:=by
 unfold World.farLoad at c⊢
 cases g:w.heap[a.block]? with
 |none=>rw[g]at c;cases c
 |some o=>
  rw[g]at c
  rw[h _ _ g]
  cases o<;>simp only at c⊢<;>first|(cases c;done)|skip
  rename_i d u
  cases f:w.viewLoad p d u a b with
  |error e=>rw[f]at c;cases c
  |ok q=>
   rw[f]at c
   have:i.viewLoad p d u a b=.ok q:=by
    unfold World.viewLoad at f⊢
    cases hs:w.seen p d u a b with
    |error e=>rw[hs]at f;cases f
    |ok z=>rw[hs]at f;rw[h.seen hs];exact f
   grind
variable {α β:Type}
def Gh(P:Program)(s:Sem α):Prop:=∀w r a w2,s.run P w=.ok r a→GO w w2→s.run P w2=.ok r w2
theorem Vp.sta{s:Sem α}(h:Vp P s):Gh P s:=fun w r a w2 e _=>(h w r a e).2 w2
theorem Gh.bind{s:Sem α}{f:α→Sem β}(c:Rd P s)(h:Gh P s)(k:∀a,Gh P (f a)):Gh P (s>>=f):=fun w r d w2 e hx=>by
 rw[Sem.run_bind]at e⊢
 cases hs:s.run P w with
 |halt x w'=>rw[hs]at e;cases e
 |ok a w'=>
  rw[hs]at e
  have b:=c w a w' hs
  subst b
  rw[h _ _ _ _ hs hx]
  exact k a _ _ _ _ e hx
theorem ZoC(a:Addr):Gh P (load a):=fun w r g w2 e hx=>by
 unfold load at e⊢
 simp only[Sem.run]at e⊢
 cases d:w.cell? a with
 |some v=>rw[d]at e;rw[hx.cell d];cases e;rfl
 |none=>
  rw[d]at e
  cases b:w.farLoad P a (Mode.plain==Mode.atomic)with
  |error x=>rw[b]at e;cases e
  |ok q=>
   have f:w2.cell? a=none:=by
    unfold World.farLoad at b
    unfold World.cell?
    cases c:w.heap[a.block]? with
    |none=>rw[c]at b;cases b
    |some o=>
     rw[c]at b
     rw[hx _ _ c]
     grind
   rw[b]at e
   rw[f,hx.far b]
   grind
theorem zb(a:Addr):∀(n i:Nat) (b:Array Value),Gh P (loadCellsFrom a i n b)
 |0,i,b=>(Vp.pure _).sta
 |n+1,i,b=>by unfold loadCellsFrom;exact .bind (VU _) (ZoC _) fun v=>zb a n (i+1) _
theorem Znc(t:TypeId)(a:Addr):Gh P (loadVar t a):=by
 unfold loadVar
 refine .bind (MT t).rd (MT t).sta fun b=>?_
 cases b with
 |true=>exact .bind (EZ t).rd (EZ t).sta fun n=>.bind (U0 a n 0 _) (zb a n 0 _) fun _=>(Vp.pure _).sta
 |false=>exact ZoC a
theorem ZxX(h:Dn P o=true):Gh P (execOp ρ o):=by
 unfold Dn at h
 rw[YH]at h
 rcases h with h|h
 ·exact(V2 (ρ:=ρ) h).1.sta
 ·obtain⟨b,op,type,pos,after,guard⟩:=o
  cases op<;>simp only at h<;>first|(cases h;done)|skip
  have hs:∀v:Value,Rd P (Instr.sureAddr v)∧Gh P (Instr.sureAddr v):=fun v=>by
   unfold Instr.sureAddr
   split
   ·exact⟨(Vp.pure _).rd,(Vp.pure _).sta⟩
   ·exact⟨(Vp.halt _).rd,(Vp.halt _).sta⟩
  refine Gh.bind (s:=Instr.loadAt _ _) (Rd.bind (hs _).1 fun a=>ke _ _) (.bind (hs _).1 (hs _).2 fun a=>Znc _ _) fun _=>(Vp.pure _).sta
def J2(o:Oper):Bool:=match o.op with|.buildSlice _ _ _=>true|.alloc _=>true|_=>false
theorem Zzx{w:World}{o:Obj}:GO w {w with heap:=w.heap.push o }:=fun k a h=>by
 grind
def Gr(P:Program)(s:Sem α):Prop:=∀w r a,s.run P w=.ok r a→GO w a
theorem Rd.gr{s:Sem α}(h:Rd P s):Gr P s:=fun w r a e=>by rw[h w r a e];exact .refl _
theorem Gr.bind{s:Sem α}{f:α→Sem β}(h:Gr P s)(k:∀a,Gr P (f a)):Gr P (s>>=f):=fun w r c e=>by
 rw[Sem.run_bind]at e
 cases hs:s.run P w with
 |halt x w'=>rw[hs]at e;cases e
 |ok a w'=>
  rw[hs]at e
  exact fun q o b=>k a _ _ _ e _ _ (h _ _ _ hs _ _ b)
theorem kq(t:TypeId)(cs:Array Value):Gr P (newRow t cs):=fun w r a e=>by
 unfold newRow newObj at e
 cases e
 exact Zzx
theorem ZjM(t:TypeId)(n:Nat)(ps:Array (Nat×Value)):Gr P (Instr.buildSlice t n ps):=by
 unfold Instr.buildSlice
 refine(Jy t).rd.gr.bind fun d=>?_
 split
 ·refine(EZ _).rd.gr.bind fun size=>?_
  by_cases a:n*size>2^24
  ·rw[Yk a]
   intro w r c e
   cases e
  ·rw[Ym a]
   by_cases b:n*size=0
   ·rw[Yk b]
    refine Gr.bind (s:=Pure.pure _) (Vp.pure _).rd.gr fun z=>?_
    dsimp only
    split
    ·exact(kq _ _).bind fun _=>(Vp.pure _).rd.gr
    ·exact(Vp.halt _).rd.gr
   ·rw[Ym b]
    refine(j7 _).rd.gr.bind fun z=>Gr.bind (s:=Pure.pure _) (Vp.pure _).rd.gr fun z=>?_
    dsimp only
    split
    ·exact(kq _ _).bind fun _=>(Vp.pure _).rd.gr
    ·exact(Vp.halt _).rd.gr
 ·exact(Vp.halt _).rd.gr
theorem ZEd(h:J2 o=true):Gr P (execOp ρ o)∧VV P (execOp ρ o):=by
 obtain⟨a,op,type,pos,after,guard⟩:=o
 cases op<;>simp only[J2]at h<;>first|(cases h;done)|skip
 case buildSlice=>exact⟨(ZjM _ _ _).bind fun _=>(Vp.pure _).rd.gr,VV.val⟩
 case alloc t=>exact⟨Gr.bind (s:=Instr.alloc _ _ _) ((j7 _).rd.gr.bind fun z=>Gr.bind (s:=newVar _ _) (kq _ _ |>.bind fun _=>(Vp.pure _).rd.gr) fun _=>(Vp.pure _).rd.gr) fun _=>(Vp.pure _).rd.gr,VV.val⟩
theorem ZwV(h:(Dn P o||J2 o)=true):Gr P (execOp ρ o)∧VV P (execOp ρ o):=by
 rw[YH]at h
 rcases h with h|h
 ·exact⟨(P3 h).1.gr,(P3 h).2⟩
 ·exact ZEd h
end
def O8(P:Program)(L:List Oper)(a:List Nat)(i:Nat)(b:Oper):Nat→List Oper→Bool
 |_,[]=>true
 |j,c::r=>(a.any (Nat.beq j)||Nat.beq j i||Qh L i L.length j||(b.apart L.toArray c&&(DZ P b||(Dn P b&&(Dn P c||J2 c)))))&&O8 P L a i b (j+1) r
def RA(P:Program)(L:List Oper):List Nat→List Nat→Bool
 |a,[]=>(List.range L.length).all fun j=>a.any (Nat.beq j)
 |a,i::c=>(match Bs L i with
  |some b=>!(a.any (Nat.beq i))&&b.after.toList.all (fun e=>!Region.binds .any e||a.any (Nat.beq e.on))&&(match DZ P b with|true=>chkV P L a i b 0 L|false=>O8 P L a i b 0 L)
  |none=>false)&&RA P L (i::a) c
where chkV (P:Program) (L:List Oper) (a:List Nat) (i:Nat) (b:Oper):Nat→List Oper→Bool
 |_,[]=>true
 |j,d::r=>(a.any (Nat.beq j)||Nat.beq j i||d.after.toList.any (fun e=>Region.binds .any e&&Nat.beq e.on i)||b.apart L.toArray d)&&chkV P L a i b (j+1) r
theorem Gu{l:List Nat}{j:Nat}:l.any (Nat.beq j)=true↔j∈l:=by
 rw[YQ]
 exact⟨fun⟨x,hx,h⟩=>Yd h▸hx,fun h=>⟨j,h,SX j⟩⟩
theorem Zwb{P:Program}{L:List Oper}{a:List Nat}{i:Nat}{f:Oper}:∀{r:List Oper} {c k:Nat} {d:Oper},O8 P L a i f c r=true→r[k]?=some d→
  (c+k)∈a∨c+k=i∨Waits L.toArray (c+k) i∨(f.apart L.toArray d=true∧(DZ P f=true∨Dn P f=true∧(Dn P d||J2 d)=true))
 |[],c,k,d,_,h=>by simp at h
 |q::r,c,k,d,e,h=>by
  unfold O8 at e
  rw[Yc]at e
  cases k with
  |zero=>
   simp only[Gl,Yj]at h
   subst h
   have b:=e.1
   simp only[YH,Yc]at b
   rcases b with((b|b)|b)|b
   ·exact .inl (Gu.1 b)
   ·exact .inr (.inl (Yd b))
   ·exact .inr (.inr (.inl (jX _ _ b)))
   grind
  |succ k=>
   have:=Zwb (k:=k) e.2 (by simpa using h)
   grind
theorem Zvl{P:Program}{L:List Oper}{a:List Nat}{i:Nat}{j:Oper}:∀{r:List Oper} {c k:Nat} {d:Oper},RA.chkV P L a i j c r=true→r[k]?=some d→
  (c+k)∈a∨c+k=i∨(∃e∈d.after,Region.binds .any e=true∧e.on=i)∨j.apart L.toArray d=true
 |[],c,k,d,_,h=>by simp at h
 |q::r,c,k,d,f,h=>by
  unfold RA.chkV at f
  rw[Yc]at f
  cases k with
  |zero=>
   simp only[Gl,Yj]at h
   subst h
   have b:=f.1
   simp only[YH]at b
   rcases b with((b|b)|b)|b
   ·exact .inl (Gu.1 b)
   ·exact .inr (.inl (Yd b))
   ·obtain⟨e,he,g⟩:=YQ.1 b
    rw[Yc]at g
    exact .inr (.inr (.inl ⟨e,by simpa using he,g.1,Yd g.2⟩))
   grind
  |succ k=>
   have:=Zvl (k:=k) f.2 (by simpa using h)
   grind
def perm(π:List Nat):Code→Code
 |.region id ops _=>.region id (π.filterMap (Bs ops.toList)).toArray false
 |c=>c
def Zs(o:Oper):Bool:=(match o.guard with|none=>true|_=>false)&&(match o.op with|.select _ _=>false|_=>true)
def pb:Value→Option Nat
 |.pointer (some a)=>some a.block
 |_=>none
def ES(w:World)(b:Nat):Prop:=∃C e f,w.heap[b]?=some (.cells C e f)
section
variable {P:Program} {α β:Type}
theorem ZsW{v:Value}{a:Addr}{w b:World}(h:(Instr.sureAddr v).run P w=.ok a b):v=.pointer (some a)∧b=w:=by
 unfold Instr.sureAddr at h
 split at h
 ·cases h;exact⟨rfl,rfl⟩
 ·cases h
def Lo(b:Nat)(P:Program)(s:Sem α):Prop:=∀w r a w2,s.run P w=.ok r a→ES w b→w2.heap[b]?=w.heap[b]?→s.run P w2=.ok r w2
theorem Vp.lo{b:Nat}{s:Sem α}(h:Vp P s):Lo b P s:=fun w r a w2 e _ _=>(h w r a e).2 w2
theorem Lo.bind{b:Nat}{s:Sem α}{f:α→Sem β}(g:Rd P s)(h:Lo b P s)(k:∀a,Lo b P (f a)):Lo b P (s>>=f):=fun w r i w2 e c d=>by
 rw[Sem.run_bind]at e⊢
 cases hs:s.run P w with
 |halt x w'=>rw[hs]at e;cases e
 |ok a w'=>
  rw[hs]at e
  have:=g w a w' hs
  subst this
  rw[h _ _ _ _ hs c d]
  exact k a _ _ _ _ e c d
theorem ZvQ(a:Addr):Lo a.block P (load a):=fun w r h w2 e ⟨C,t,f,d⟩ c=>by
 unfold load at e⊢
 simp only[Sem.run]at e⊢
 have g:w2.cell? a=w.cell? a:=World.cell?_of_block c
 rw[g]
 cases b:w.cell? a with
 |some v=>rw[b]at e;cases e;rfl
 |none=>
  rw[b]at e
  have:w.farLoad P a (Mode.plain==Mode.atomic)=.error (w.noCell a "load: no such cell"):=by unfold World.farLoad;rw[d]
  grind
theorem y9(a:Addr):∀(n i:Nat) (b:Array Value),Lo a.block P (loadCellsFrom a i n b)
 |0,i,b=>(Vp.pure _).lo
 |n+1,i,b=>by
  unfold loadCellsFrom
  refine .bind (VU _) ?_ fun v=>y9 a n (i+1) _
  have:=ZvQ (P:=P) (a.add i)
  rwa [block_add]at this
theorem ZpU(t:TypeId)(a:Addr):Lo a.block P (loadVar t a):=by
 unfold loadVar
 refine .bind (MT t).rd (MT t).lo fun b=>?_
 cases b with
 |true=>exact .bind (EZ t).rd (EZ t).lo fun n=>.bind (U0 a n 0 _) (y9 a n 0 _) fun _=>(Vp.pure _).lo
 |false=>exact ZvQ a
theorem ZFW{ρ:Operand→Value}{o:Oper}{t:TypeId}{x:Operand}{w w2:World}{v:Value}(g:o.op=.load t x)(e:(execOp ρ o).run P w=.ok (.value v) w):
  ∃b,pb (ρ x)=some b∧(ES w b→w2.heap[b]?=w.heap[b]?→(execOp ρ o).run P w2=.ok (.value v) w2):=by
 obtain⟨c,op,type,pos,after,guard⟩:=o
 cases g
 change ((Instr.loadAt t (ρ x))>>=fun y=>(pure (Next.value y):Sem Next)).run P w=_ at e
 show∃b,pb (ρ x)=some b∧(_→_→((Instr.loadAt t (ρ x))>>=fun y=>(pure (Next.value y):Sem Next)).run P w2=_)
 generalize ρ x=q at e⊢
 have:∃a,q=.pointer (some a):=by
  cases hs:(Instr.sureAddr q).run P w with
  |halt _ _=>unfold Instr.loadAt at e;simp only[Sem.run_bind,hs]at e;cases e
  |ok a w'=>exact⟨a,(ZsW hs).1⟩
 obtain⟨a,rfl⟩:=this
 exact⟨a.block,rfl,fun d f=>Lo.bind (Rd.bind (Vp.pure a).rd fun a=>ke t a) (ZpU t a) (fun _=>(Vp.pure _).lo) _ _ _ _ e d f⟩
def So(b:Nat)(P:Program)(s:Sem α):Prop:=∀w r a,s.run P w=.ok r a→ES w b→ES a b∧∀k,k≠b→a.heap[k]?=w.heap[k]?
theorem Rd.so{b:Nat}{s:Sem α}(h:Rd P s):So b P s:=fun w r c e a=>by rw[h w r c e];exact⟨a,fun _ _=>rfl⟩
theorem So.bind{b:Nat}{s:Sem α}{f:α→Sem β}(h:So b P s)(k:∀a,So b P (f a)):So b P (s>>=f):=fun w r l e d=>by
 rw[Sem.run_bind]at e
 cases hs:s.run P w with
 |halt x w'=>rw[hs]at e;cases e
 |ok a w'=>
  rw[hs]at e
  obtain⟨c,g⟩:=h _ _ _ hs d
  obtain⟨i,j⟩:=k a _ _ _ e c
  grind
theorem Zx9(a:Addr)(v:Value):So a.block P (store a v):=fun w r b e ⟨C,t,f,c⟩=>by
 unfold store at e
 have key:∀b,b=w.setCell a v→ES b a.block∧∀k,k≠a.block→b.heap[k]?=w.heap[k]?:=fun b e=>by
  subst e
  unfold World.setCell
  constructor
  ·refine⟨(if a.spot.isSome then C else C.setIfInBounds a.off v),t,f,?_⟩
   show(w.heap.modify a.block _)[a.block]?=_
   rw[ro,c]
   simp
  ·intro k g
   show(w.heap.modify a.block _)[k]?=_
   rw[ro]
   simp[Ne.symm g]
 cases v<;>simp only[Sem.run]at e<;>first
  |(cases e;done)
  |(cases d:w.cell? a with
    |some x=>
     rw[d]at e
     simp only at e
     split at e
     ·cases e
     ·cases e;exact key _ rfl
    |none=>
     rw[d]at e
     unfold World.farStore at e
     rw[c]at e
     cases e)
theorem zc(a:Addr):∀(vs:List Value) (i:Nat),So a.block P (storeCells a vs i)
 |[],i=>(Vp.pure _).rd.so
 |v::r,i=>by
  unfold storeCells
  refine So.bind ?_ fun _=>zc a r (i+1)
  have:=Zx9 (P:=P) (a.add i) v
  rwa [block_add]at this
theorem ZmR(t:TypeId)(a:Addr)(v:Value):So a.block P (storeVar t a v):=by
 unfold storeVar
 refine(EZ t).rd.so.bind fun n=>?_
 by_cases h:v.cells.size≠n
 ·rw[Yk h]
  intro w r b e
  cases e
 ·rw[Ym h]
  exact zc a _ 0
theorem ZFy{ρ:Operand→Value}{o:Oper}{t:TypeId}{x y:Operand}{w c:World}{r:Next}(h:o.op=.store t x y)(e:(execOp ρ o).run P w=.ok r c):
  r=.skip∧∃b,pb (ρ x)=some b∧(ES w b→ES c b∧∀k,k≠b→c.heap[k]?=w.heap[k]?):=by
 obtain⟨d,op,type,pos,after,guard⟩:=o
 cases h
 change ((Instr.storeAt t (ρ x) (ρ y))>>=fun _=>(pure Next.skip:Sem Next)).run P w=_ at e
 generalize ρ x=q at e⊢
 generalize ρ y=v at e
 have f:r=.skip:=by
  rw[Sem.run_bind]at e
  cases hs:(Instr.storeAt t q v).run P w with
  |halt _ _=>rw[hs]at e;cases e
  |ok _ _=>rw[hs]at e;cases e;rfl
 refine⟨f,?_⟩
 have:∃a,q=.pointer (some a):=by
  cases hs:(Instr.sureAddr q).run P w with
  |halt _ _=>unfold Instr.storeAt at e;simp only[Sem.run_bind,hs]at e;cases e
  |ok a w'=>exact⟨a,(ZsW hs).1⟩
 obtain⟨a,rfl⟩:=this
 exact⟨a.block,rfl,fun g=>So.bind (ZmR t a v) (fun _=>(Vp.pure _).rd.so) _ _ _ e g⟩
end
def JP(z:Nat):List (Nat×Nat)→Option Nat
 |[]=>none
 |(d,r)::l=>match Nat.beq d z with|true=>some r|false=>JP z l
theorem K1{z r:Nat}:∀{l:List (Nat×Nat)},JP z l=some r→(z,r)∈l
 |(d,q)::l,h=>by
  unfold JP at h
  split at h
  ·rename_i e;cases h;rw[Yd e];exact YE ..
  ·exact Yz _ (K1 h)
def Lz:Operand→Option Nat
 |.tmp z=>some z
 |_=>none
def LA(P:Program)(o:Oper):Option Nat:=match DZ P o with
 |true=>(match o.op with
  |.fieldAddr _ x _=>Lz x
  |.move x=>Lz x
  |.nilCheck x=>Lz x
  |_=>none)
 |false=>none
def DO(P:Program)(env:List (Nat×Nat))(o:Oper):List (Nat×Nat):=match o.dst with
 |none=>env
 |some d=>(match LA P o with|some z=>(match JP z env with|some r=>[(d,r)]|none=>[])|none=>[])++env.filter fun p=>!Nat.beq p.1 d
def W6(P:Program)(env:List (Nat×Nat))(o:Oper):Bool:=Dn P o||J2 o||match o.op with
 |.store _ (.tmp y) _=>(JP y env).isSome
 |_=>false
def J(β:Nat→Nat)(env:List (Nat×Nat))(a:Act)(w:World):Prop:=∀p∈env,∀b,pb (a.eval (.tmp p.1))=some b→b=β p.2∧ES w b
def Zsv:Next→Option Value
 |.value v=>some v
 |.skip=>some undef
 |_=>none
section
variable {P:Program} {β:Nat→Nat} {env:List (Nat×Nat)} {a:Act} {w w':World} {o:Oper} {n:Next}
theorem ZoJ(h:W6 P env o=true)(l:J β env a w)(e:(execOp a.eval o).run P w=.ok n w'):(∃u,Zsv n=some u)∧∀b,ES w b→ES w' b:=by
 unfold W6 at h
 rw[YH]at h
 rcases h with h|h
 ·obtain⟨c,d⟩:=ZwV (ρ:=a.eval) h
  obtain⟨v,rfl⟩:=d _ _ _ e
  exact⟨⟨v,rfl⟩,fun b ⟨C,t,f,g⟩=>⟨C,t,f,c _ _ _ e _ _ g⟩⟩
 ·split at h
  ·rename_i t y v p
   obtain⟨rfl,i,c,d⟩:=ZFy p e
   obtain⟨r,q⟩:=Y7.1 h
   obtain⟨_,j⟩:=l _ (K1 q) _ c
   obtain⟨s,k⟩:=d j
   refine⟨⟨_,rfl⟩,fun b ⟨C,t,f,g⟩=>?_⟩
   by_cases m:b=i
   ·grind
   ·exact⟨C,t,f,(k b m).trans g⟩
  ·cases h
theorem VH{x:Operand}{z:Nat}(h:Lz x=some z):x=.tmp z:=by
 cases x<;>simp only[Lz]at h<;>first|(cases h;done)|skip
 grind
theorem sr{z:Nat}{b:Nat}{v:Value}(hs:LA P o=some z)(e:(execOp a.eval o).run P w=.ok (.value v) w')(c:pb v=some b):pb (a.eval (.tmp z))=some b:=by
 unfold LA at hs
 cases d:DZ P o with
 |false=>rw[d]at hs;cases hs
 |true=>
  rw[d]at hs
  obtain⟨l,op,type,pos,after,guard⟩:=o
  cases op<;>simp only at hs<;>first|(cases hs;done)|skip
  case move x=>rw[←VH hs];cases e;exact c
  case nilCheck x=>
   rw[←VH hs]
   have s:∀w r k,(runtimePanic .nilDeref:Sem Next).run P w≠.ok r k:=fun w r k e=>by
    unfold runtimePanic at e
    simp only[Sem.run_bind,run_program,Result.andThen_ok]at e
    repeat(first|(cases e;done)|split at e|(simp[goPanic,stuck,unsupported,Sem.run]at e;done))
   simp only[execOp]at e
   split at e
   ·grind
   ·grind
   ·grind
   ·split at e
    ·grind
    ·simp only[Sem.run_bind,run_program,Result.andThen_ok]at e
     cases hs:(nilAhead _ _ _ _).run P w with
     |halt x w'=>rw[hs]at e;cases e
     |ok q w'=>
      rw[hs]at e
      simp only[Result.andThen_ok]at e
      split at e
      ·cases e
      ·cases e;first|exact c|cases c
    ·cases e;first|exact c|cases c
   ·cases e;first|exact c|cases c
  case fieldAddr t x i=>
   rw[←VH hs]
   simp only[DZ]at d
   split at d
   ·rename_i p h
    split at d
    ·rename_i f g
     have j:P.cellsOf f.type≠0:=fun m=>by rw[m]at d;cases d
     have run:∀(ad:Addr) (w:World),(Instr.fieldAt t (.pointer (some ad)) i).run P w=.ok (.pointer (some (ad.add f.offset))) w:=fun ad w=>by
      simp[Instr.fieldAt,run_underlying h,g,Instr.sureAddr,fieldPlace,Ez j,j]
     change ((Instr.fieldAt t (a.eval x) i)>>=fun y=>(pure (Next.value y):Sem Next)).run P w=_ at e
     generalize a.eval x=q at e⊢
     by_cases n:∃ad,q=.pointer (some ad)
     ·obtain⟨ad,rfl⟩:=n
      rw[Sem.run_bind,run]at e
      cases e
      simp only[pb,block_add]at c
      exact c
     ·exfalso
      have hs:Instr.sureAddr q=.halt (.stuck "an address expected (no nilCheck in front?)"):=by
       unfold Instr.sureAddr
       split
       ·grind
       ·rfl
      simp only[Instr.fieldAt,Sem.run_bind,run_underlying h,Result.andThen_ok,g,hs]at e
      cases e
    grind
   ·cases d
theorem J.put(g:J β env a w)(y:W6 P env o=true)(e:(execOp a.eval o).run P w=.ok n w'){u:Value}(A:Zsv n=some u):J β (DO P env o) (a.put o.dst u) w':=by
 have l:=(ZoJ y g e).2
 unfold DO
 have ev:∀z:Nat,(∀d,o.dst=some d→z≠d)→(a.put o.dst u).eval (.tmp z)=a.eval (.tmp z):=fun z j=>Act.eval_put fun d i hx=>j d i (by cases hx;rfl)
 cases i:o.dst with
 |none=>
  intro p c b f
  rw[←i,ev _ (fun d h=>by rw[i]at h;cases h)]at f
  exact⟨(g p c b f).1,l _ (g p c b f).2⟩
 |some d=>
  intro p c b f
  rw[Gk]at c
  rcases c with c|c
  ·split at c
   ·rename_i z j
    split at c
    ·rename_i r x
     obtain rfl:=Y1.1 c
     simp only at f⊢
     have q:n=.value u:=by
      have:Dn P o=true:=by
       unfold LA at j
       unfold Dn
       cases B:DZ P o with
       |true=>rfl
       |false=>rw[B]at j;cases j
      obtain⟨v,rfl⟩:=(P3 (ρ:=a.eval) this).2 _ _ _ e
      cases A
      rfl
     subst q
     have k:pb u=some b:=by
      have:(a.put (some d) u).eval (.tmp d)=u∨(a.put (some d) u).eval (.tmp d)=undef:=by
       simp only[Act.eval,Act.put,Yy,SG]
       split
       ·rename_i h
        split<;>simp_all
       ·simp_all
      rcases this with h|h
      ·rw[h]at f;exact f
      ·rw[h]at f;cases f
     obtain⟨s,t⟩:=g _ (K1 x) _ (sr j e k)
     exact⟨s,l _ t⟩
    ·cases c
   ·cases c
  ·rw[Dp]at c
   have m:p.1≠d:=fun he=>by have:=c.2;rw[he,SX]at this;cases this
   rw[←i,ev _ (fun d' h=>by rw[i]at h;cases h;exact m)]at f
   exact⟨(g p c.1 b f).1,l _ (g p c.1 b f).2⟩
def rJ(env:List (Nat×Nat))(o:Oper):Bool:=match o.dst with
 |none=>true
 |some d=>env.all fun p=>!Nat.beq p.1 d
theorem J.keep(c:J β env a w)(k:W6 P env o=true)(g:rJ env o=true)(e:(execOp a.eval o).run P w=.ok n w'){u:Value}:J β env (a.put o.dst u) w':=by
 have i:=(ZoJ k c e).2
 intro p h b f
 have:(a.put o.dst u).eval (.tmp p.1)=a.eval (.tmp p.1):=Act.eval_put fun d j hx=>by
  cases hx
  unfold rJ at g
  rw[j]at g
  have:=Yu.1 g p h
  rw[SX]at this
  cases this
 rw[this]at f
 exact⟨(c p h b f).1,i _ (c p h b f).2⟩
end
section
variable {V:Type} [Mv V]
def Mb(s:ByteArray):List (ByteArray×V)→Option V
 |[]=>none
 |p::r=>match decide (p.1=s)with|true=>some p.2|false=>Mb s r
def Pb(s:ByteArray)(v:V):List (ByteArray×V)→List (ByteArray×V)
 |[]=>[(s,v)]
 |p::r=>match decide (p.1=s)with|true=>(s,v)::r|false=>p::Pb s v r
def OY(s:ByteArray):List (ByteArray×V)→List (ByteArray×V)
 |[]=>[]
 |p::r=>match decide (p.1=s)with|true=>r|false=>p::OY s r
theorem zW(s:ByteArray):∀xs:List (ByteArray×V),FR s (xs.map DK)=(Mb s xs).map Mv.e
 |[]=>rfl
 |p::r=>by
  simp only[YW,FR,DK,GI,Mb]
  cases decide (p.1=s)with
  |true=>rfl
  |false=>exact zW s r
theorem Zo9(s:ByteArray)(v:V):∀xs:List (ByteArray×V),II s (Mv.e v) (xs.map DK)=(Pb s v xs).map DK
 |[]=>rfl
 |p::r=>by
  simp only[YW,II,DK,GI,Pb]
  cases decide (p.1=s)with
  |true=>rfl
  |false=>exact congrArg _ (Zo9 s v r)
theorem Zpq(s:ByteArray):∀xs:List (ByteArray×V),IF s (xs.map DK)=(OY s xs).map DK
 |[]=>rfl
 |p::r=>by
  simp only[YW,IF,DK,GI,OY]
  cases decide (p.1=s)with
  |true=>rfl
  |false=>exact congrArg _ (Zpq s r)
def LP(s:ByteArray)(xs:List (ByteArray×V)):V:=(Mb s xs).getD Mv.z
def LI(s:ByteArray)(xs:List (ByteArray×V)):Bool:=(Mb s xs).isSome
theorem ZDB(s:ByteArray)(xs:List (ByteArray×V)):Rh (xs.map DK) s (Mv.e (Mv.z (V:=V))) (Mv.e (LP s xs)) (LI s xs):=by
 unfold Rh LP LI
 rw[zW]
 cases Mb s xs<;>exact⟨rfl,rfl⟩
variable {os:Nat} {β:Type}
@[reducible] def N4(xs:List (ByteArray×V))(s:ByteArray)(k:V→Bool→PT os β):PT os β:=
 ⟨.av (.d (.bool (LI s xs))) (.ds (Mv.e (LP s xs)) (k (LP s xs) (LI s xs)).a),fun E=>Rh (xs.map DK) s (Mv.e (Mv.z (V:=V))) (Mv.e (LP s xs)) (LI s xs)∧(k (LP s xs) (LI s xs)).q E,(k (LP s xs) (LI s xs)).m,fun E=>∀v b,(k v b).n E,
 fun E c y hm a=>⟨ZDB s xs,(k _ _).ok E (c _ _) y hm a⟩⟩
@[reducible] def N5(xs:List (ByteArray×V))(s:ByteArray)(v:V)(k:PT os β):PT os β:=
 ⟨.ents ((Pb s v xs).map DK) k.a,fun E=>ZU2 s (Mv.e v) (xs.map DK) ((Pb s v xs).map DK)∧k.q E,k.m,k.n,fun E b y hm a=>⟨Zo9 s v xs,k.ok E b y hm a⟩⟩
@[reducible] def N2(xs:List (ByteArray×V))(s:ByteArray)(k:PT os β):PT os β:=
 ⟨.ents ((OY s xs).map DK) k.a,fun E=>ZUF s (xs.map DK) ((OY s xs).map DK)∧k.q E,k.m,k.n,fun E b y hm a=>⟨Zpq s xs,k.ok E b y hm a⟩⟩
end
@[reducible] def N6{os:Nat}{β:Type}(d q:Nat)(k:PT os β)(a:Nat.ble (q+1) os=true:=by kernel_rfl):PT os β:=
 ⟨.mv d q k.a,fun E=>FP []∧(q<os∧E.r.no (E.r.κ (0,q)))∧k.q E,k.m,k.n,fun E c y hm b=>
  ⟨fun x hx=>(by cases hx),⟨Yh a,by rw[E.g.no,E.g.κ];exact E.co.W q (Yh a)⟩,k.ok E c y hm b⟩⟩
structure KCN (P:Program) (f:FuncId) (xs:List AV) {γ:Type} (M:Option (List γ)) (e:γ→AV):Prop where
 k:∀l H ys,M=some ys→Zc1 P f l xs H (fun z H'=>(∃y∈ys,z=e y)∧H'=H)
 x:∀r,Ar r xs=xs
 e:∀r y,ren r (e y)=e y
theorem KCN.one{P:Program}{f:FuncId}{xs:List AV}{γ:Type}{M:Option (List γ)}{e:γ→AV}(K:KCN P f xs M e)(N:Option γ)(h:∀y,N=some y→∃ys,M=some ys∧∀z∈ys,z=y):KC P f xs N e:=
 ⟨fun l H y hy=>by
  obtain⟨ys,a,b⟩:=h y hy
  exact(K.k l H ys a).mono fun z j ⟨⟨i,c,d⟩,g⟩=>⟨by rw[d,b i c],g⟩,K.x,K.e⟩
structure KON (P:Program) (f:FuncId) (os:Nat) (ys:List AV) (bi:List Blk) (Θ:Cl) {γ:Type} (M:Option (List γ)) (e:γ→AV) (bs:γ→List Blk):Prop where
 k:∀l H (ks:List Af) (gs:List Nat) (θ:Nat→AV),ks.length=os→Jj l ks→ks.Nodup→Ka H (Cu l ks gs θ H) (DU 0 bi) 0 ks→Θ (fun k=>k∈ks) l H θ→∀zs,M=some zs→
  Zc1 P f l (Ar (Cu l ks gs θ H) ys) H (fun z H'=>∃y∈zs,z=ren (Cu l ks gs θ H) (e y)∧H'=DA H ks (CV (Cu l ks gs θ H) 0 (bs y)))
end Go.Eng
