import Derived.Test.YthcplkfhnnlafaaGreatZm10
import Derived.Test.YthcplkfhnnlafaaGreatZm00
namespace Go.Eng
set_option linter.all false
open Go Go.RowKit
def DY:Nat->List Blk->List (Ad×Blk)
 |_,[]=>[]
 |i,b::bs=>((0,i),b)::DY (i+1) bs
abbrev Cl:=(Ad->Prop)->Nat->Hp->(Nat->AV)->Prop
structure KO (P:Program) (f:FuncId) (os:Nat) (ys:List AV) (bi:List Blk) (Θ:Cl) {γ:Type} (M:Option γ) (e:γ->AV) (bs:γ->List Blk):Prop where
 k:∀l H (ks:List Ad) (gs:List Nat) (θ:Nat->AV),ks.length=os->Kf l ks->ks.Nodup->Lx H (CI l ks gs θ H) (DY 0 bi) 0 ks->Θ (λk=>k∈ks) l H θ->∀y,M=some y->
  Zdm P f l (Aq (CI l ks gs θ H) ys) H (λz H'=>z=ren (CI l ks gs θ H) (e y)/\H'=Ed H ks (Dk (CI l ks gs θ H) 0 (bs y)))
mutual
def Lp(os:Nat):AV->Bool
 |.ref k _ _ _=>Nat.beq k.1 0&&Nat.ble (k.2+1) os
 |.ptr k _ _=>Nat.beq k.1 0&&Nat.ble (k.2+1) os
 |.mp k _=>Nat.beq k.1 0&&Nat.ble (k.2+1) os
 |.fn f xs ys=>(match f with|.yield _=>false|_=>true)&&Ki os xs&&Ki os ys
 |.agg xs=>Ki os xs
 |.tup xs=>Ki os xs
 |.top=>true
 |.d _=>true
 |.e0=>true
 |.p _=>true
 |.iptr _ _=>true
 |.ifc _ _ _=>true
def Ki(os:Nat):List AV->Bool
 |[]=>true
 |x::xs=>Lp os x&&Ki os xs
end
def O5(os:Nat)(r a:Ren):Prop:=∀q,q<os->r.κ (0,q)=a.κ (0,q)/\r.γ (0,q)=a.γ (0,q)
theorem im{os:Nat}{r c:Ren}(hs:O5 os r c){k:Ad}(h:(Nat.beq k.1 0&&Nat.ble (k.2+1) os)=true):r.κ k=c.κ k/\r.γ k=c.γ k:=by simp only[Yc]at h;obtain⟨a,b⟩:=k;have d:=Yd h.1;have e:=Ym h.2;simp only at d e;subst d;exact hs b e
mutual
theorem iI{os:Nat}{r c:Ren}(hs:O5 os r c):∀x:AV,Lp os x=true->ren r x=ren c x
 |.ref k g off n,h=>by obtain⟨a,b⟩:=im hs h;simp only[ren,a,b]
 |.ptr k g off,h=>by obtain⟨a,b⟩:=im hs h;simp only[ren,a,b]
 |.mp k g,h=>by obtain⟨a,b⟩:=im hs h;simp only[ren,a,b]
 |.fn f xs ys,h=>by simp only[Lp,Yc]at h;have a:=Ol hs xs h.1.2;have b:=Ol hs ys h.2;cases f<;>first|(simp only[ren,a,b];done)|(simp at h)
 |.agg xs,h=>by simp only[Lp]at h;simp only[ren,Ol hs xs h]
 |.tup xs,h=>by simp only[Lp]at h;simp only[ren,Ol hs xs h]
 |.top,_=>by simp[ren]
 |.d _,_=>by simp[ren]
 |.e0,_=>by simp[ren]
 |.p _,_=>by simp[ren]
 |.iptr _ _,_=>by simp[ren]
 |.ifc _ _ _,_=>by simp[ren]
theorem Ol{os:Nat}{r a:Ren}(hs:O5 os r a):∀xs:List AV,Ki os xs=true->Aq r xs=Aq a xs
 |[],_=>by simp[Aq]
 |x::xs,h=>by simp only[Ki,Yc]at h;simp only[Aq,iI hs x h.1,Ol hs xs h.2]
end
def GV(os:Nat):List Blk->Prop
 |[]=>True
 |b::bs=>(Jc b.cells\/Ki os b.cells=true)/\b.live=true/\GV os bs
theorem GV.ren{os:Nat}{r a:Ren}(hs:O5 os r a):∀(bs:List Blk) (i:Nat),i+bs.length<=os->GV os bs->Dk r i bs=Dk a i bs
 |[],_,_,_=>rfl
 |b::bs,i,hl,h=>by
  simp only[Em]at hl;have d:Aq r b.cells=Aq a b.cells:=by
   rcases h.1 with c|e
   ·rw[KN c,KN c]
   ·exact Ol hs _ e
  simp only[Dk,GV.ren hs bs (i+1) ae h.2.2,AP,d,(hs i ae).2]
theorem GV.live{os:Nat}:∀{bs:List Blk},GV os bs->∀b∈bs,b.live=true
 |c::bs,h,b,a=>by
  rcases Yx.1 a with rfl|a
  ·exact h.2.1
  ·exact GV.live h.2.2 b a
theorem K7:Jc []:=λx hx=>by cases hx
theorem C2{P:Program}{T:Nat->Option TI}{n:Nat}{f:FuncId}{fn:Func}{ys:List AV}{bi:List Blk}{Θ:Cl}{γ:Type}{M:Option γ}{e:γ->AV}{bs:γ->List Blk}(I:P.funcs[f]?=some fn)(J:fn.ntmps=n)(F:Bi P T)(u:List ResultVar)(os:Nat)
  (h:∀C:Cx,CO C os->Θ C.no C.l C.H0 C.θ->∀y,M=some y->∀a:AV->List Blk->Prop,HL (λy=>a (e y) (bs y)) y->LW P n C (pa [] (Au fn)) (Ac (D7 0 ys) (DY 0 bi)) (FQ T u os a))
  (he:∀y,Lp os (e y)=true:=by intro y;kernel_rfl) (v:∀y,GV os (bs y):=by intro y;repeat(first|exact trivial|refine⟨.inl (FI _ _),rfl,?_⟩|refine⟨.inl K7,rfl,?_⟩|refine⟨.inr aC,rfl,?_⟩)) (hl:∀y,(bs y).length=os:=by intro y;rfl) (o:JD os (DY 0 bi)=true:=by kernel_rfl)
  (G:fn.body=some (Au fn):=by kernel_rfl) (c:(fn.name== "runtime.NumGoroutine")=false:=by kernel_rfl) (d:fn.results.toList=u:=by kernel_rfl) (hx:Nat.ble ys.length n=true:=by kernel_rfl):KO P f os ys bi Θ M e bs:=
 ⟨λl H ks g θ p i t D hΘ y hy=>by
  have hN:∀r,J1 l ks g r->O5 os r (CI l ks g θ H):=λr d q K=>by obtain⟨w,x⟩:=d;exact⟨congrFun w _,x q ae⟩
  refine ZoM u (Au fn) ks g os θ ys (DY 0 bi) (e y) (bs y) (Y':=ren (CI l ks g θ H) (e y)) (bs':=Dk (CI l ks g θ H) 0 (bs y)) I G c J d (by rw[C5];exact Ym hx) F p i t o D rfl (hl y) (v y).live
   (λr d=>iI (hN r d) _ (he y)) (λr d=>GV.ren (hN r d) _ _ (by rw[hl];omega) (v y)) (λC A E B s m L N j=>?_) ⟨rfl,rfl⟩
  refine h C ⟨A,E,B,λq K=>?_⟩ (by rw[j,s,m,L];exact hΘ) y hy (λz b=>z=e y/\b=bs y) ⟨rfl,rfl⟩;rw[j,N];show(match Bp ks q with|some k=>k|none=>(0,0))∈ks;rw[CC,Ye ae];exact G3 _⟩
def FW(r:Ren):List (Ad×Blk)->List Nat
 |[]=>[]
 |(k,b)::a=>(r.γ k+b.g)::FW r a
def BE(r a:Ren):Nat->List Blk->List (Ad×Blk)->Prop
 |i,b::bs,(k,c)::cs=>(b.live=true->c.live=true/\AP r (0,i) b=AP a k c)/\r.γ (0,i)+b.g=a.γ k+c.g/\BE r a (i+1) bs cs
 |_,[],[]=>True
 |_,_,_=>False
def HZ:List Ad->Bool
 |[]=>true
 |k::ks=>!(ks.any (BM k))&&HZ ks
theorem Q7{κ:Ad->Ad}{os:Nat}(a:∀q k:Ad,BO os q=true->BO os k=true->q≠k->κ q≠κ k):∀(ks:List Ad),HZ ks=true->ks.all (BO os)=true->(ks.map κ).Nodup
 |[],_,_=>List.nodup_nil
 |k::ks,h,b=>by simp only[HZ,Yc,YM]at h;simp only[J6,Yc]at b;rw[YY,List.nodup_cons];refine⟨λhm=>?_,Q7 a ks h.2 b.2⟩;obtain⟨q,d,e⟩:=YV.1 hm;have c:q≠k:=λe'=>WG h.1 (e'▸d);grind
section
variable {P:Program} {f:FuncId} {os os':Nat} {ys:List AV} {bi:List Blk} {Θ:Cl} {γ:Type} {M:Option γ} {e:γ->AV} {bs:γ->List Blk} {C:Cx} {r:Ren} {xs:List AV} {x:AV} {y:γ}
theorem W4{fx:List Nat}(co:COx C os' fx)(g:Gd C r):∀q k:Ad,BO os' q=true->BO os' k=true->q≠k->r.κ q≠r.κ k:=by
 intro q k m j l he;rw[g.κ]at he;rcases Ho m with e|⟨e,h⟩<;>rcases Ho j with f|⟨f,i⟩
 ·obtain⟨a,b⟩:=q;obtain⟨c,d⟩:=k;simp only at e f;subst e;subst f;rw[co.ok.own,co.ok.own]at he;grind
 ·obtain⟨a,b⟩:=q;obtain⟨c,d⟩:=k;simp only at e f i;subst e;subst f;rw[co.ok.own]at he;have:=co.ok.out d (by rw[co.O];exact i);grind
 ·obtain⟨a,b⟩:=q;obtain⟨c,d⟩:=k;simp only at e h f;subst e;subst f;rw[co.ok.own]at he;have:=co.ok.out b (by rw[co.O];exact h);grind
 ·obtain⟨a,b⟩:=q;obtain⟨c,d⟩:=k;simp only at e h f i;subst e;subst f;have:=co.ok.inj b d (by rw[co.O];exact h) (by rw[co.O];exact i) he;grind
theorem OC{fx:List Nat}(co:COx C os' fx)(g:Gd C r):∀(ks:List Ad),ks.all (BO os')=true->Kf (C.l+1) (ks.map r.κ)
 |[],_=>trivial
 |k::ks,h=>by
  simp only[J6,Yc]at h;refine⟨?_,OC co g ks h.2⟩;rw[g.κ];obtain⟨a,b⟩:=k;rcases Ho h.1 with c|⟨c,d⟩
  ·simp only at c;subst c;rw[co.ok.own];exact Yf _
  ·simp only at c d;subst c;exact TO (co.ok.out b (by rw[co.O];exact d))
theorem Rs:∀(bi:List Blk) (i j:Nat),AF (DY i bi) (0,i+j)=(bi[j]?).getD F1
 |[],i,j=>by simp[DY,AF]
 |b::bi,i,0=>by simp[DY,AF,BM]
 |b::bi,i,j+1=>by
  have a:=Rs bi (i+1) j;simp only[DY,AF];have:BM (0,i) (0,i+(j+1))=false:=by
   simp only[BM,IC];right;cases h:Nat.beq i (i+(j+1))with
   |false=>rfl
   |true=>have:=Yd h;omega
  grind
theorem RA{l:Ren}{d:Hp}:∀(bi:List Blk) (a:List (Ad×Blk)) (i:Nat) (B:List Blk),(∀j,AF (DY 0 B) (0,i+j)=(bi[j]?).getD F1)->BE l r i bi a->
  (∀p∈a,(d (r.κ p.1)).g=r.γ p.1+p.2.g/\(p.2.live=true->d (r.κ p.1)=AP r p.1 p.2))->Lx d l (DY 0 B) i ((a.map (·.1)).map r.κ)
 |[],[],i,B,_,_,_=>trivial
 |b::bi,(k,c)::a,i,B,f,h,g=>by
  have e:=f 0;simp only[G7,YK,Gg]at e;obtain⟨o,q,m⟩:=h;refine⟨?_,RA bi a (i+1) B (λj=>?_) m λp n=>g p (YI _ n)⟩
  ·rw[e];have s:=g _ (YH ..);grind
  ·have:=f (j+1);grind
 |[],_::_,_,_,_,h,_=>h.elim
 |_::_,[],_,_,_,h,_=>h.elim
theorem Zsp{H:Hp}{k:Ad}:updH H k (H k)=H:=by
 funext q;by_cases h:q=k
 ·subst h;exact AX ..
 ·exact AI _ _ h
theorem gP{g:Ren}{d:Hp}:∀(bi:List Blk) (a:List (Ad×Blk)) (i:Nat),BE g r i bi a->(∀b∈bi,b.live=true)->(∀p∈a,p.2.live=true->d (r.κ p.1)=AP r p.1 p.2)->Ed d ((a.map (·.1)).map r.κ) (Dk g i bi)=d
 |[],[],_,_,_,_=>rfl
 |b::bi,(k,c)::a,i,h,hl,f=>by obtain⟨l,q,m⟩:=h;have e:=l (hl b (YH ..));have j:=f _ (YH ..) e.1;simp only[YY,Ed,Dk];rw[e.2,<-j,Zsp];exact gP bi a (i+1) m (λb n=>hl b (YI _ n)) λp o=>f p (YI _ o)
 |[],_::_,_,h,_,_=>h.elim
 |_::_,[],_,h,_,_=>h.elim
theorem hI{j:Ren}:∀(d:List Blk) (f a:List (Ad×Blk)) (i:Nat) (g:Hp),BE j r i d a->(∀b∈d,b.live=true)->f.map (·.1)=a.map (·.1)->Ed g ((f.map (·.1)).map r.κ) (Dk j i d)=DH r a g
 |[],[],[],_,_,_,_,_=>rfl
 |[],_::_,[],_,_,_,_,h=>by cases h
 |b::d,[],_::_,_,_,_,_,h=>by cases h
 |b::d,(k,c)::f,(q,o)::a,i,g,h,hl,he=>by obtain⟨l,p,m⟩:=h;simp only[YY,List.cons.injEq]at he;obtain⟨rfl,he⟩:=he;have e:=l (hl b (YH ..));simp only[YY,Ed,Dk,DH];rw[e.2];exact hI d f a (i+1) _ m (λb n=>hl b (YI _ n)) he
 |_::_,_,[],_,_,h,_,_=>h.elim
 |[],_,_::_,_,_,h,_,_=>h.elim
def rC(C:Cx)(r:Ren)(a:List (Ad×Blk))(θ:Nat->AV)(H:Hp):Ren:=CI (C.l+1) ((a.map (·.1)).map r.κ) (FW r a) θ H
def Th(Θ:Cl)(C:Cx)(r:Ren)(b c:List (Ad×Blk))(θ:Nat->AV):Prop:=
 ∀a,(∀p∈c,(a (r.κ p.1)).g=r.γ p.1+p.2.g/\(p.2.live=true->a (r.κ p.1)=AP r p.1 p.2))->(∀k:Ad,k.1<=C.l->¬r.no k->a k=r.H0 k)->Θ (λk=>k∈(b.map (·.1)).map r.κ) (C.l+1) a θ
theorem Dg(K:KO P f os ys bi Θ M e bs)(hy:M=some y){fx:List Nat}(co:COx C os' fx)(g:Gd C r)(a k:List (Ad×Blk))(θ:Nat->AV)(hΘ:Th Θ C r a (a++k) θ)(l:∀H,BE (rC C r a θ H) r 0 bi a)(t:bs y=bi:=by rfl)(n:bi.all Blk.live=true:=by kernel_rfl)(i:(a++k).all (λp=>p.2.live)=true:=by kernel_rfl)(hx:∀H,Aq (rC C r a θ H) ys=Aq r xs:=by intro H;kernel_rfl)(u:∀H,ren (rC C r a θ H) (e y)=ren r x:=by intro H;kernel_rfl)
  (m:((a.map (·.1)).all (BO os')&&HZ (a.map (·.1))&&Nat.beq a.length os)=true:=by kernel_rfl):H9 P C.l r f xs (a++k) x:=by
 intro d v D;have s:∀b∈bi,b.live=true:=λb E=>Yv.1 n b E;have o:∀p∈a++k,p.2.live=true:=λp c=>Yv.1 i p c;have h:∀p∈a,p∈a++k:=λp c=>IE _ c;simp only[Yc]at m;have q:∀p∈a++k,(d (r.κ p.1)).g=r.γ p.1+p.2.g/\(p.2.live=true->d (r.κ p.1)=AP r p.1 p.2):=λp c=>⟨by rw[v p c (o p c)];rfl,v p c⟩;have:=K.k (C.l+1) d ((a.map (λp:Ad×Blk=>p.1)).map r.κ) (FW r a) θ (by rw[YF,YF];exact Yd m.2) (OC co g _ m.1.1) (Q7 (W4 co g) _ m.1.2 m.1.1)
  (RA bi a 0 bi (λj=>by have:=Rs bi 0 j;rwa [YU]at this⊢) (l d) λp c=>q p (h p c)) (hΘ d q D) y hy
 rw[<-hx d];refine this.mono λz w ⟨A,B⟩=>⟨A.trans (u d),B.trans ?_⟩;rw[t];exact gP bi a 0 (l d) s λp c hl=>(q p (h p c)).2 hl
theorem ZyQ(K:KO P f os ys bi Θ M e bs)(hy:M=some y){fx:List Nat}(co:COx C os' fx)(g:Gd C r)(a m c:List (Ad×Blk))(θ:Nat->AV)(hΘ:Th Θ C r a (a++m) θ)
  (n:∀H,BE (rC C r a θ H) r 0 bi a) (h:∀H,BE (rC C r a θ H) r 0 (bs y) c) (k:(bs y).all Blk.live=true:=by kernel_rfl) (hx:∀H,Aq (rC C r a θ H) ys=Aq r xs:=by intro H;kernel_rfl) (s:∀H,ren (rC C r a θ H) (e y)=ren r x:=by intro H;kernel_rfl)
  (i:((a.map (·.1)).all (BO os')&&HZ (a.map (·.1))&&Nat.beq a.length os)=true:=by kernel_rfl) (he:a.map (·.1)=c.map (·.1):=by rfl):I0 P C.l r f xs (a++m) x c []:=by
 have o:∀b∈bs y,b.live=true:=λb B=>Yv.1 k b B;have l:∀p∈a,p∈a++m:=λp q=>IE _ q;refine ZzP rfl rfl λd t A=>?_;simp only[Yc]at i;have:=K.k (C.l+1) d ((a.map (λp:Ad×Blk=>p.1)).map r.κ) (FW r a) θ (by rw[YF,YF];exact Yd i.2) (OC co g _ i.1.1) (Q7 (W4 co g) _ i.1.2 i.1.1)
  (RA bi a 0 bi (λj=>by have:=Rs bi 0 j;rwa [YU]at this⊢) (n d) λp q=>t p (l p q)) (hΘ d t A) y hy
 rw[<-hx d];exact this.mono λz u ⟨v,w⟩=>⟨v.trans (s d),w.trans (hI (bs y) a c 0 d (h d) o he)⟩
end
structure CloM (P:Program) (C:Cx) (i:Nat) (xs:List AV) {γ:Type} (M:Option γ) (e:γ->AV):Prop where
 k:∀y,M=some y->B6 P C.l C.no C.H0 (C.θ i) xs (e y)
 x:∀r,Aq r xs=xs
 e:∀r y,ren r (e y)=e y
section
variable {os:Nat} {β γ:Type} [Inhabited γ]
theorem CloM.callF{P:Program}{i:Nat}{xs:List AV}{M:Option γ}{e:γ->AV}(E:Ev os β)(h:CloM P E.C i xs M e){y:γ}(hy:M=some y):OI P E.E.l E.E.r i xs [] (e y):=
 ZwJ (congrFun E.g.θ i) (by rw[E.hl,E.g.no,E.g.H];exact h.k y hy) (h.x _) (h.e _ _)
@[reducible] def cf(P:Program)(i:Nat)(xs:List AV)(M:Option γ)(e:γ->AV)(k:γ->PT os β):PT os β:=
 ⟨.call (e (M.getD default)) [] (k (M.getD default)).a,λE=>OI P E.l E.r i xs [] (e (M.getD default))/\(k (M.getD default)).q E,M.bind λy=>(k y).m,λE=>CloM P E.C i xs M e/\∀y,(k y).n E,λE b y hm f=>by
  obtain⟨x,a,c⟩:=bind_some hm;have d:M.getD default=x:=by rw[a];rfl
  rw[d];exact⟨b.1.callF E a,(k x).ok E (b.2 x) y c f⟩⟩
@[reducible] def Iq(b:Bool)(P:Program)(i:Nat)(xs:List AV)(M:Option γ)(e:γ->AV)(k:γ->PT os β):PT os β:=
 ⟨.call (e (M.getD default)) [] (k (M.getD default)).a,λE=>(b=true->OI P E.l E.r i xs [] (e (M.getD default)))/\(k (M.getD default)).q E,if(b=true->M.isSome=true)then(k (M.getD default)).m else none,λE=>CloM P E.C i xs M e/\∀y,(k y).n E,λE c y hm g=>by
  obtain⟨d,hm⟩:=BD hm;refine⟨λh=>?_,(k _).ok E (c.2 _) y hm g⟩;obtain⟨x,a⟩:=E1.1 (d h);have f:M.getD default=x:=by rw[a];rfl
  rw[f];exact c.1.callF E a⟩
@[reducible] def cs(P:Program)(f:FuncId)(xs:List AV)(ks:List Ad)(b:List (Ad×Blk))(M:Option γ)(e:γ->AV)(k:γ->PT os β):PT os β:=
 ⟨.call (e (M.getD default)) ks (k (M.getD default)).a,λE=>H9 P E.l E.r f xs b (e (M.getD default))/\(k (M.getD default)).q E,M.bind λy=>(k y).m,λE=>(∀y,M=some y->H9 P E.C.l E.E.r f xs b (e y))/\∀y,(k y).n E,λE c y hm h=>by
  obtain⟨x,a,d⟩:=bind_some hm;have g:M.getD default=x:=by rw[a];rfl
  rw[g];exact⟨by rw[E.hl];exact c.1 x a,(k x).ok E (c.2 x) y d h⟩⟩
@[reducible] def C1(b:Bool)(P:Program)(f:FuncId)(xs:List AV)(ks:List Ad)(a:List (Ad×Blk))(M:Option γ)(e:γ->AV)(k:γ->PT os β):PT os β:=
 ⟨.call (e (M.getD default)) ks (k (M.getD default)).a,λE=>(b=true->H9 P E.l E.r f xs a (e (M.getD default)))/\(k (M.getD default)).q E,if(b=true->M.isSome=true)then(k (M.getD default)).m else none,λE=>(∀y,M=some y->H9 P E.C.l E.E.r f xs a (e y))/\∀y,(k y).n E,λE d y hm i=>by
  obtain⟨g,hm⟩:=BD hm;refine⟨λa=>?_,(k _).ok E (d.2 _) y hm i⟩;obtain⟨x,c⟩:=E1.1 (g a);have h:M.getD default=x:=by rw[c];rfl
  rw[h,E.hl];exact d.1 x c⟩
@[reducible] def mv{α:Type}[Rw α](d q:Nat)(xs:List α)(k:PT os β)(a:Nat.ble (q+1) os=true:=by kernel_rfl):PT os β:=
 ⟨.mv d q k.a,λE=>Gx (Ab Rw.e xs)/\(q<os/\E.r.no (E.r.κ (0,q)))/\k.q E,k.m,k.n,λE c y hm b=>
  ⟨wh _ _,⟨Ym a,by rw[E.g.no,E.g.κ];exact E.co.W q (Ym a)⟩,k.ok E c y hm b⟩⟩
@[reducible] def mvc{α:Type}[Rw α](d q e i:Nat)(xs:List α)(k:PT os β)(a:Nat.ble (q+1) os=true:=by kernel_rfl):PT os β:=
 ⟨.mvc d q e i k.a,λE=>Gx (Ab Rw.e xs)/\(q<os/\E.r.no (E.r.κ (0,q)))/\k.q E,k.m,k.n,λE c y hm b=>
  ⟨wh _ _,⟨Ym a,by rw[E.g.no,E.g.κ];exact E.co.W q (Ym a)⟩,k.ok E c y hm b⟩⟩
end
section
variable {P:Program} {os os':Nat} {ys:List AV} {bi:List Blk} {Θ:Cl} {γ:Type} {M:Option γ} {e:γ->AV} {bs:γ->List Blk} {C:Cx} {r:Ren} {y:γ}
theorem FP{f:FuncId}(K:KO P f os ys bi Θ M e bs)(hy:M=some y){fx:List Nat}(co:COx C os' fx)(g:Gd C r)(c i:List (Ad×Blk)){w:List (Ad×Blk)}{v:Hp}(L:∀p∈w,(v (r.κ p.1)).g=r.γ p.1+p.2.g/\(p.2.live=true->v (r.κ p.1)=AP r p.1 p.2))(u:∀p∈c,p∈w)
  {G d:List AV} (θ:Nat->AV) (hΘ:∀l' a,Θ (λk=>k∈(c.map (·.1)).map r.κ) l' a θ) (o:∀l H,BE (CI l ((c.map (·.1)).map r.κ) (FW r c) θ H) r 0 bi c) (B:bs y=bi:=by rfl) (t:bi.all Blk.live=true:=by kernel_rfl)
  (hx:∀l H,Aq (CI l ((c.map (·.1)).map r.κ) (FW r c) θ H) ys=G++d:=by intro l H;kernel_rfl) (D:∀l H,ren (CI l ((c.map (·.1)).map r.κ) (FW r c) θ H) (e y)=e y:=by intro l H;kernel_rfl)
  (F:(((c++i).map (·.1)).all (BO os')&&HZ ((c++i).map (·.1))&&Nat.beq c.length os)=true:=by kernel_rfl):B6 P (C.l+1) (λk=>k∈(i.map (·.1)).map r.κ) v (.fn (.func f) [] d) G (e y):=by
 have A:∀b∈bi,b.live=true:=λb w=>Yv.1 t b w;refine⟨f,[],d,rfl,λl' a hl N=>?_⟩;simp only[Yc,Df,List.all_append]at F;obtain⟨⟨⟨E,Q⟩,R⟩,S⟩:=F;have m:=Q7 (W4 co g) _ R (by rw[List.all_append,E,Q];rfl);rw[Df,List.nodup_append]at m;have x:∀p∈c,a (r.κ p.1)=v (r.κ p.1):=λp n=>by have hm:r.κ p.1∈(c.map (·.1)).map r.κ:=aw (aw n);exact N _ (WD (OC co g _ E) _ hm) λh=>m.2.2 _ hm _ h rfl
 have q:∀p∈c,(a (r.κ p.1)).g=r.γ p.1+p.2.g/\(p.2.live=true->a (r.κ p.1)=AP r p.1 p.2):=λp n=>by rw[x p n];exact L p (u p n)
 have s:Kf l' ((c.map (·.1)).map r.κ):=by
  have:=OC co g (c.map (·.1)) E;generalize (c.map (·.1)).map r.κ=ks at this
  induction ks with
  |nil=>trivial
  |cons k ks O=>exact⟨EF this.1 hl,O this.2⟩
 have:=K.k l' a ((c.map (λp:Ad×Blk=>p.1)).map r.κ) (FW r c) θ (by rw[YF,YF];exact Yd S) s m.1
  (RA bi c 0 bi (λj=>by have:=Rs bi 0 j;rwa [YU]at this⊢) (o l' a) q) (hΘ l' a) y hy
 rw[Ge,<-hx l' a];refine this.mono λz T ⟨I,J⟩=>⟨I.trans (D l' a),J.trans ?_⟩;rw[B];exact gP bi c 0 (o l' a) A λp n hl=>(q p n).2 hl
theorem K2{f:FuncId}{xs:List AV}(K:KC P f xs M e)(hy:M=some y){l:Nat}{no:Ad->Prop}{H:Hp}:B6 P l no H (.fn (.func f) [] []) xs (e y):=ZxB λl' a=>K.k l' a y hy
end
theorem Bx{C:Cx}{r:Ren}{os':Nat}{P:Program}{i:Nat}{xs:List AV}{y:AV}{fx:List Nat}(co:COx C os' fx)(g:Gd C r)(m:List (Ad×Blk)){l:Hp}(p:∀k:Ad,k.1<=C.l->¬r.no k->l k=r.H0 k)(h:B6 P C.l C.no C.H0 (C.θ i) xs y)
  (o:((m.map (·.1)).all (BO os'))=true:=by kernel_rfl):B6 P (C.l+1) (λk=>k∈(m.map (·.1)).map r.κ) l (r.θ i) xs y:=by
 rw[g.θ];refine ZDa h (Nat.le_succ _) (λq f d hm=>?_) λq f d=>?_
 ·obtain⟨k,j,e⟩:=YV.1 hm;rw[g.κ]at e;obtain⟨a,b⟩:=k;rcases Ho (Yv.1 o _ j)with c|⟨c,n⟩
  ·simp only at c;subst c;rw[co.ok.own]at e;rw[<-e]at f;simp only at f;omega
  ·simp only at c n;subst c;rw[<-e]at d;exact d (co.W b n)
 ·rw[<-g.H];exact p q f (by rw[g.no];exact d)
theorem Hg{r b:Ren}{k k':Ad}{g a:Nat}{e:EK}{sz:Nat}{cs:List AV}(h:Jc cs)(c:r.γ k+g=b.γ k'+a):AP r k ⟨g,true,e,sz,cs⟩=AP b k' ⟨a,true,e,sz,cs⟩:=by simp only[AP,KN h,c]
section
variable {P:Program} {T:Nat->Option TI} {n:Nat} {C:Cx} {τ:St} {Q:Exit->St->Prop} {os k:Nat} {c:Code} {β:Type} {L:β->Prop} {y:β}
theorem ZS3{fx:List Nat}(co:COx C os fx)(o:Bi P T)(m:Nat)(v:PT os β)(lf:Lf)(s:v.m=some y)(j:HL L y)(p:∀r (g:Gd C r),v.n ⟨⟨C.l,r,λ_ τ'=>LO P n C c (k+m) τ' Q,λ_ _=>False⟩,L,C,_,co,g,rfl⟩)
  (q:∀l r Q b,Bg r os v.a τ (λτ a=>GS P T l n r ((Cf c).toList.map (·.dst)) (Jd m (Ia k (Cf c).toList)) [] a (λτ' env d=>Bg r os d (Eh env τ') (λτ _=>EO fx lf τ (Q .normal))) τ)=v.q ⟨l,r,Q,b⟩:=by intro l r Q P;kernel_rfl):LO P n C c k τ Q:=
 ZJY co.ok o co.O co.F m v.a lf (λr Φ=>v.q ⟨C.l,r,λ_=>Φ,λ_ _=>False⟩) (λr Φ=>q _ r (λ_=>Φ) _) λr e f h i=>v.ok _ (p r ⟨e,f,h,i⟩) y s j
theorem ZTr{fx:List Nat}(co:COx C os fx)(m:Bi P T)(v:PT os β)(lf:Lf)(q:v.m=some y)(j:HL L y)(o:∀r (g:Gd C r),v.n ⟨⟨C.l,r,Q,λ_ _=>False⟩,L,C,_,co,g,rfl⟩)
  (p:∀l r Q b,Bg r os v.a τ (λτ a=>GS P T l n r ((Cf c).toList.map (·.dst)) (Ia k (Cf c).toList) [] a (λτ' env d=>Bg r os d (Eh env τ') (λτ _=>EO fx lf τ (Q .normal))) τ)=v.q ⟨l,r,Q,b⟩:=by intro l r Q P;kernel_rfl):LO P n C c k τ Q:=
 ZKn co.ok m co.O co.F v.a lf (λr Q=>v.q ⟨C.l,r,Q,λ_ _=>False⟩) (λr Q=>p _ r Q _) λr e f h i=>v.ok _ (o r ⟨e,f,h,i⟩) y q j
theorem ZPJ{γ:Type}{M:Option γ}{kk:γ->Option β}{ss:List (Nat×AV)}{hs:List (Ad×Blk)}{fx:List Nat}(co:COx C os fx)(hm:M.bind kk=some y)(f:FuncId)(xs:List AV)(ks:List Ad)(b:List (Ad×Blk))(e:γ->AV)(Av:γ->List (Ad×Blk))(fl:List Ad)
  (l:∀z,Ga C (Av z)) (d:Ll (AF hs) fl) (a:∀z,M=some z->∀r,Gd C r->I0 P C.l r f xs b (e z) (Av z) [])
  (h:∀z,kk z=some y->LO P n C c (k+1) (Ac (Ij (GB c k) (e z) (EM [] ss)) (Av z++Ds ((Av z).map (·.1)) [] fl hs)) Q)
  (j:H2 c k=some (GB c k,callF c k,H4 c k):=by kernel_rfl) (v:ev (AB ss) (callF c k)=.fn (.func f) [] []:=by kernel_rfl) (m:[]++(H4 c k).map (ev (AB ss))++[]=xs:=by kernel_rfl) (g:(ks.map λk=>(k,AF hs k))=b:=by kernel_rfl)
  (i:∀z,(Ea os (Av z)&&NN [] (Av z)&&OB [] fx&&Ja hs&&OQ n (GB c k)&&ks.all (BO os))=true:=by intro z;kernel_rfl):LO P n C c k (Ac ss hs) Q:=by
 obtain⟨z,o,p⟩:=bind_some hm;exact xd co.ok co.O co.F f [] [] xs j v m ks b g (e z) (Av z) [] fl (i z) (l z) d (λr q s t u=>a z o r ⟨q,s,t,u⟩) (h z p)
theorem s6 {f os os':Nat} {ys xs:List AV} {bi:List Blk} {γ:Type} {M:Option γ} {e:γ->AV} {bs:γ->List Blk} {z:γ} {x:AV} {r:Ren} (K:KO P f os ys bi (λ_ _ _ _=>True) M e bs) (hy:M=some z) {fx:List Nat} (co:COx C os' fx) (g:Gd C r) (a d:List (Ad×Blk)) (h:∀H,BE (rC C r a (AB []) H) r 0 bi a:=by
   intro H
   repeat(first|exact trivial|refine⟨λ_=>⟨rfl,Hg (FI _ _) aC⟩,aC,?_⟩|refine⟨λ_=>⟨rfl,Hg K7 aC⟩,aC,?_⟩|refine⟨λ_=>⟨rfl,aC⟩,aC,?_⟩))
  (i:bs z=bi:=by rfl) (c:bi.all Blk.live=true:=by kernel_rfl) (b:(a++d).all (λp=>p.2.live)=true:=by kernel_rfl) (hx:∀H,Aq (rC C r a (AB []) H) ys=Aq r xs:=by intro H;kernel_rfl) (j:∀H,ren (rC C r a (AB []) H) (e z)=ren r x:=by intro H;kernel_rfl)
  (k:((a.map (·.1)).all (BO os')&&HZ (a.map (·.1))&&Nat.beq a.length os)=true:=by kernel_rfl):H9 P C.l r f xs (a++d) x:=
 Dg K hy co g a d (AB []) (λ_ _ _=>trivial) h i c b hx j k
theorem c6{γ:Type}{M:Option γ}{kk:γ->Option β}{ss:List (Nat×AV)}{hs:List (Ad×Blk)}{f:FuncId}{os':Nat}{ys:List AV}{bi:List Blk}{Θ:Cl}{e0:γ->AV}{bs:γ->List Blk}{fx:List Nat}(co:COx C os fx)(hm:M.bind kk=some y)(K:KO P f os' ys bi Θ M e0 bs)
  (a b:List (Ad×Blk)) (e:γ->AV) (Av:γ->List (Ad×Blk)) (fl:List Ad)
  (h:∀z,kk z=some y->LO P n C c (k+1) (Ac (Ij (GB c k) (e z) (EM [] ss)) (Av z++Ds ((Av z).map (·.1)) [] fl hs)) Q)
  (θ:Ren->Nat->AV:=λ_=>AB []) (hΘ:∀r,Gd C r->Th Θ C r a (a++b) (θ r):=by intro r g;exact λ_ _ _=>trivial) (xs:List AV:=[]++(H4 c k).map (ev (AB ss))++[])
  (q:∀z,Ga C (Av z):=by intro z;repeat(first|exact trivial|refine⟨COx.W ‹_› _ (by decide),?_⟩))
  (j:Ll (AF hs) fl:=by repeat(first|exact trivial|refine⟨FI _ _,?_⟩))
  (i:∀r H,BE (rC C r a (θ r) H) r 0 bi a:=by
   intro r H
   repeat(first|exact trivial|refine⟨λ_=>⟨rfl,Hg (FI _ _) aC⟩,aC,?_⟩|refine⟨λ_=>⟨rfl,Hg K7 aC⟩,aC,?_⟩|refine⟨λ_=>⟨rfl,aC⟩,aC,?_⟩|refine⟨(λh=>nomatch h),aC,?_⟩))
  (d:∀z r H,BE (rC C r a (θ r) H) r 0 (bs z) (Av z):=by
   intro z r H
   repeat(first|exact trivial|refine⟨λ_=>⟨rfl,Hg (FI _ _) aC⟩,aC,?_⟩|refine⟨λ_=>⟨rfl,Hg K7 aC⟩,aC,?_⟩|refine⟨λ_=>⟨rfl,aC⟩,aC,?_⟩))
  (hx:∀r H,Aq (rC C r a (θ r) H) ys=Aq r xs:=by intro r H;kernel_rfl) (s:[]++(H4 c k).map (ev (AB ss))++[]=xs:=by kernel_rfl) (t:∀z r H,ren (rC C r a (θ r) H) (e0 z)=ren r (e z):=by intro z r H;kernel_rfl)
  (p:H2 c k=some (GB c k,callF c k,H4 c k):=by kernel_rfl) (u:ev (AB ss) (callF c k)=.fn (.func f) [] []:=by kernel_rfl)
  (l:(((a++b).map (·.1)).map λk=>(k,AF hs k))=a++b:=by kernel_rfl) (m:∀z,(bs z).all Blk.live=true:=by intro z;kernel_rfl) (he:∀z,a.map (·.1)=(Av z).map (·.1):=by intro z;rfl)
  (v:((a.map (·.1)).all (BO os)&&HZ (a.map (·.1))&&Nat.beq a.length os')=true:=by kernel_rfl)
  (o:∀z,(Ea os (Av z)&&NN [] (Av z)&&OB [] fx&&Ja hs&&OQ n (GB c k)&&((a++b).map (·.1)).all (BO os))=true:=by intro z;kernel_rfl):LO P n C c k (Ac ss hs) Q:=
 ZPJ co hm f xs _ (a++b) e Av fl q j (λz w r g=>ZyQ K w co g a b (Av z) (θ r) (hΘ r g) (λH=>i r H) (λH=>d z r H) (m z) (λH=>hx r H) (λH=>t z r H) v (he z)) h p u s l o
theorem ZUp{fx:List Nat}(co:COx C os fx)(v:PT os β)(lf:Lf)(k:v.m=some y)(h:HL L y)(i:∀r (g:Gd C r),v.n ⟨⟨C.l,r,λ_ τ'=>LW P n C c τ' Q,λ_ _=>False⟩,L,C,_,co,g,rfl⟩)
  (j:∀l r Q a,Bg r os v.a τ (λτ _=>EO fx lf τ (Q .normal))=v.q ⟨l,r,Q,a⟩:=by intro l r Q P;kernel_rfl):LW P n C c τ Q:=
 ZGE co.ok co.O co.F v.a lf (λr Φ=>v.q ⟨C.l,r,λ_=>Φ,λ_ _=>False⟩) (λr Φ=>j _ r (λ_=>Φ) _) λr b d e f=>v.ok _ (i r ⟨b,d,e,f⟩) y k h
theorem BW{q:Prop}[Decidable q]{m:Option β}{G:Prop}(hm:(if q then m else none)=some y)(h:q->m=some y->G):G:=h (BD hm).1 (BD hm).2
theorem rg{c:Code}(h:LO P n C c 0 τ Q)(hs:pc c=true:=by kernel_rfl):LW P n C c τ Q:=Zrc hs h
end
end Go.Eng
namespace Go.Eng
set_option linter.all false
open Go Go.RowKit
section
variable {α β:Type} (P:Program)
def Vp(s:Sem α):Prop:=∀w r a,s.run P w=.ok r a->a=w/\∀w2,s.run P w2=.ok r w2
def Rd(s:Sem α):Prop:=∀w r a,s.run P w=.ok r a->a=w
variable {P}
theorem Vp.rd{s:Sem α}(h:Vp P s):Rd P s:=λw r a e=>(h w r a e).1
theorem Vp.pure(a:α):Vp P (Pure.pure a:Sem α):=λw r b e=>by cases e;exact⟨rfl,λ_=>rfl⟩
theorem Vp.halt(h:Halt):Vp P (.halt h:Sem α):=λw r a e=>by cases e
theorem Vp.program:Vp P Go.program:=λw r a e=>by cases e;exact⟨rfl,λ_=>rfl⟩
theorem Vp.bind{s:Sem α}{f:α->Sem β}(h:Vp P s)(k:∀a,Vp P (f a)):Vp P (s>>=f):=λw r g e=>by
 rw[Sem.run_bind]at e;cases hs:s.run P w with
 |halt x w'=>rw[hs]at e;cases e
 |ok a w'=>
  rw[hs]at e;obtain⟨rfl,b⟩:=h w a w' hs;obtain⟨c,d⟩:=k a _ _ _ e;exact⟨c,λw2=>by rw[Sem.run_bind,b w2];exact d w2⟩
theorem Rd.bind{s:Sem α}{f:α->Sem β}(h:Rd P s)(k:∀a,Rd P (f a)):Rd P (s>>=f):=λw r c e=>by
 rw[Sem.run_bind]at e;cases hs:s.run P w with
 |halt x w'=>rw[hs]at e;cases e
 |ok a w'=>
  rw[hs]at e;have b:=h w a w' hs;subst b;exact k a _ _ _ e
theorem fZ(t:TypeId):Vp P (typeInfo t):=by
 unfold typeInfo;refine Vp.program.bind λp=>?_;split
 ·exact .pure _
 ·exact .halt _
theorem KM(t:TypeId):Vp P (underlying t):=by
 unfold underlying;refine Vp.program.bind λp=>?_;split
 ·exact .pure _
 ·exact .halt _
theorem FK(t:TypeId):Vp P (sizeOf t):=by unfold sizeOf;exact(fZ t).bind λ_=>.pure _
theorem Oj(t:TypeId):Vp P (isAgg t):=by unfold isAgg;refine(KM t).bind λd=>?_;split<;>exact .pure _
theorem ZG3(t:TypeId)(cs:Array Value)(o:Nat):Vp P (part t cs o):=by
 unfold part;refine(Oj t).bind λb=>?_;cases b with
 |true=>exact(FK t).bind λ_=>.pure _
 |false=>
  show Vp P (match cs[o]? with|some v=>_|none=>_);split
  ·exact .pure _
  ·exact .halt _
theorem VS:∀(l:List FieldStep) (t:TypeId) (x:Option Value),Vp P (followBlind l t x)
 |[],t,x=>.pure _
 |s::a,t,x=>by
  unfold followBlind;refine(KM _).bind λd=>?_;split
  ·split
   ·split
    ·exact .pure _
    ·exact VS a _ _
    ·exact .halt _
    ·exact .pure _
    ·exact(ZG3 _ _ _).bind λ_=>VS a _ _
    ·exact .halt _
    ·exact VS a _ _
   ·exact .halt _
  ·exact .halt _
theorem vZ:∀(n:Nat) (t:TypeId) (v:Value) (s:String),Vp P (nilAhead n t v s)
 |0,t,v,s=>.pure _
 |n+1,t,v,s=>by
  unfold nilAhead;refine(fZ _).bind λi=>?_;split
  ·refine(VS _ _ _).bind λr=>?_;split
   ·exact .pure _
   ·split
    ·exact vZ n _ _ _
    ·exact .pure _
    ·exact .halt _
    ·exact .pure _
    ·exact .pure _
    ·refine(KM _).bind λd=>?_;split<;>exact .pure _
  ·exact .halt _
def VV(P:Program)(s:Sem Next):Prop:=∀w r a,s.run P w=.ok r a->∃v,r=.value v
theorem VV.val{s:Sem Value}:VV P (s>>=λx=>Pure.pure (Next.value x):Sem Next):=λw r b e=>by
 rw[Sem.run_bind]at e;cases hs:s.run P w with
 |halt x w'=>rw[hs]at e;cases e
 |ok a w'=>rw[hs]at e;cases e;exact⟨a,rfl⟩
theorem Vp.val{s:Sem Value}(h:Vp P s):Vp P (s>>=λx=>Pure.pure (Next.value x):Sem Next):=h.bind λ_=>.pure _
theorem Rd.val{s:Sem Value}(h:Rd P s):Rd P (s>>=λx=>Pure.pure (Next.value x):Sem Next):=h.bind λ_=>(Vp.pure _).rd
end
theorem fK{P:Program}(t:TypeId):Vp P (zeroValue t):=by
 unfold zeroValue;refine(fZ t).bind λi=>?_;split
 ·exact .pure _
 ·exact .halt _
theorem y8{α β:Type}{P:Program}{f:α->Sem β}(h:∀x,Vp P (f x)):∀l:List α,Vp P (l.mapM f)
 |[]=>by rw[List.mapM_nil];exact .pure _
 |x::l=>by rw[TG];exact(h x).bind λ_=>(y8 h l).bind λ_=>.pure _
theorem ZEx{α β:Type}{P:Program}{f:α->Sem β}(h:∀x,Vp P (f x))(l:Array α):Vp P (l.mapM f):=by rw[lJ];exact(y8 h _).bind λ_=>.pure _
theorem Zx4{P:Program}(t:TypeId)(ps:Array (Nat×Value)):Vp P (Instr.build t ps):=by
 unfold Instr.build;refine(fK t).bind λz=>(KM t).bind λd=>?_;split
 ·refine(ZEx (λf=>(FK _).bind λ_=>.pure _) _).bind λa=>?_;split
  ·exact .pure _
  ·exact .halt _
 ·refine(FK _).bind λn=>?_;split
  ·exact .pure _
  ·exact .halt _
 ·exact .halt _
def Nv{α:Type}(P:Program)(s:Sem α):Prop:=∀w r a,s.run P w≠.ok r a
theorem Nv.vp{α:Type}{P:Program}{s:Sem α}(h:Nv P s):Vp P s:=λw r a e=>absurd e (h w r a)
theorem wB{α:Type}{P:Program}(k:IntKind)(x y:Int)(c:BoundsCode):Nv P (boundsPanic k x y c:Sem α):=λw r b e=>by
 unfold boundsPanic at e;dsimp only at e;have d:∀(s:Bool) w r b,(runtimePanic (.bounds (IntKind.i64.wrap x) y s c):Sem α).run P w≠.ok r b:=λs w r b e=>by
  unfold runtimePanic at e;simp only[Sem.run_bind,run_program,Result.andThen_ok]at e
  repeat(first|(cases e;done)|split at e|(simp[goPanic,stuck,unsupported,Sem.run]at e;done))
 split at e
 all_goals
  rw[Sem.run_bind]at e;generalize hs:Sem.run P _ w=q at e;cases q with
  |halt x w'=>cases e
  |ok a w'=>exact d _ _ _ _ e
theorem ZKX{α:Type}{P:Program}:Nv P (runtimePanic .nilDeref:Sem α):=λw r a e=>by
 unfold runtimePanic at e;simp only[Sem.run_bind,run_program,Result.andThen_ok]at e
 repeat(first|(cases e;done)|split at e|(simp[goPanic,stuck,unsupported,Sem.run]at e;done))
theorem v8{P:Program}(v:Value):Vp P (asIntOf v):=by
 unfold asIntOf;split
 ·exact .pure _
 ·exact .halt _
 ·exact .halt _
theorem y9{P:Program}(v:Value):Vp P (Instr.sureAddr v):=by
 unfold Instr.sureAddr;split
 ·exact .pure _
 ·exact .halt _
theorem ZsT{P:Program}(v:Value):Vp P (asAddr v):=by
 unfold asAddr;split
 ·exact .pure _
 ·first|exact ZKX.vp|exact .halt _
 ·exact .halt _
theorem ZlF{P:Program}(x:Value)(y:Nat)(c:BoundsCode):Vp P (Instr.sliceBound x y c):=by
 unfold Instr.sliceBound;refine(v8 _).bind λp=>?_;dsimp only;split
 ·exact .pure _
 ·exact(wB _ _ _ _).vp
theorem vq{P:Program}(b:Bool)(n m:Nat)(lo hi a:Option Value):Vp P (Instr.sliceBounds b n m lo hi a):=by
 unfold Instr.sliceBounds;dsimp only
 repeat' (first|exact Vp.pure _|exact ZlF _ _ _|exact Vp.halt _|refine Vp.bind ?_ λ_=>?_|split)
theorem ZzB{P:Program}(t:TypeId)(x:Value)(lo hi a:Option Value):Vp P (Instr.slice t x lo hi a):=by
 unfold Instr.slice;dsimp only
 repeat' (first|exact Vp.pure _|exact vq _ _ _ _ _ _|exact KM _|exact FK _|exact ZsT _|exact Vp.halt _|refine Vp.bind ?_ λ_=>?_|split)
theorem Zq2{P:Program}(t:TypeId)(x:Value)(lo hi a:Option Value):Vp P (Instr.sliceAt t x lo hi a):=by
 unfold Instr.sliceAt
 repeat' (first|exact Vp.pure _|exact vq _ _ _ _ _ _|exact KM _|exact FK _|exact y9 _|exact ZzB _ _ _ _ _|exact Vp.halt _|refine Vp.bind ?_ λ_=>?_|split)
theorem Zqn{P:Program}(t:TypeId)(x i:Value):Vp P (Instr.indexAt t x i):=by
 unfold Instr.indexAt;dsimp only
 repeat' (first|exact Vp.pure _|exact v8 _|exact KM _|exact FK _|exact y9 _|exact(wB _ _ _ _).vp|exact Vp.halt _|refine Vp.bind ?_ λ_=>?_|split)
theorem ZqP{P:Program}(v:Value)(i:Nat):Vp P (Instr.extract v i):=by
 unfold Instr.extract;split
 ·split
  ·exact .pure _
  ·exact .halt _
 ·exact .halt _
def uQ(P:Program)(c:Call):Bool:=match c.callee,c.args.toList,c.argTypes.toList with
 |.builtin .len,[_],[t]=>(match P.underlying t with|some (.slice _)=>true|some .string=>true|_=>false)
 |_,_,_=>false
theorem ZKl{P:Program}{t:TypeId}{ty:TypeId}(x:Value)(h:(match P.underlying t with|some (.slice _)=>true|some .string=>true|_=>false)=true):Vp P (Builtin.len_ #[t] ty #[x]):=by
 unfold Builtin.len_;simp only[lz,G7];intro w r c e;have a:∃d,P.underlying t=some d/\((∃q,d=.slice q)\/d=.string):=by grind
 obtain⟨d,a,b⟩:=a;simp only[Sem.run_bind,run_underlying a,Result.andThen_ok]at e⊢;rcases b with⟨q,rfl⟩|rfl
 ·cases x<;>first|(cases e;exact⟨rfl,λ_=>rfl⟩)|(cases e;done)
 ·cases x<;>first|(cases e;exact⟨rfl,λ_=>rfl⟩)|(cases e;done)
def D0(P:Program)(o:Oper):Bool:=match o.op with
 |.build _ _=>true
 |.extract _ _=>true
 |.indexAddr _ _ _=>true
 |.slice _ _ _ _ _=>true
 |.makeFunc _ _ _=>true
 |.call c=>uQ P c
 |.move _=>true
 |.assign _=>true
 |.nilCheck _=>true
 |.fieldAddr t _ i=>(match P.underlying t with|some (.struct a)=>(match a[i]? with|some f=>!(Nat.beq (P.cellsOf f.type) 0)|none=>false)|_=>false)
 |_=>false
def DQ(P:Program)(o:Oper):Bool:=D0 P o||match o.op with|.load _ _=>true|_=>false
section
variable {P:Program} {ρ:Operand->Value} {o:Oper}
theorem WC(h:D0 P o=true):Vp P (execOp ρ o)/\VV P (execOp ρ o):=by
 obtain⟨j,op,type,pos,after,guard⟩:=o;cases op<;>simp only[D0]at h<;>first|(cases h;done)|skip
 case move x=>exact⟨.pure _,λw r d e=>by cases e;exact⟨_,rfl⟩⟩
 case assign x=>exact⟨.pure _,λw r d e=>by cases e;exact⟨_,rfl⟩⟩
 case build t ps=>exact⟨(Zx4 _ _).val,VV.val⟩
 case makeFunc f a b=>exact⟨(Vp.pure _).val,VV.val⟩
 case extract x i=>exact⟨(ZqP _ _).val,VV.val⟩
 case indexAddr t x i=>exact⟨(Zqn _ _ _).val,VV.val⟩
 case slice t x a b c=>exact⟨(Zq2 _ _ _ _ _).val,VV.val⟩
 case call c=>
  unfold uQ at h;split at h
  ·rename_i x t l k n;obtain⟨z,u,D⟩:=c;simp only at l k n;subst l;have A:u=#[x]:=Dz (by simpa using k);have B:D=#[t]:=Dz (by simpa using n);subst A;subst B;have:execOp ρ ⟨j,.call ⟨.builtin .len,#[x],#[t]⟩,type,pos,after,guard⟩=(Builtin.len_ #[t] type #[ρ x]>>=λv=>(Pure.pure (Next.value v):Sem Next)):=(by simp[execOp,resolve,invoke,Go.builtin]);rw[this];exact⟨(ZKl _ h).val,VV.val⟩
  ·cases h
 case nilCheck x=>
  have F:∀v:Value,Vp P (pure (.value v):Sem Next)/\VV P (pure (.value v):Sem Next):=λv=>⟨.pure _,λw r d e=>by cases e;exact⟨_,rfl⟩⟩;have g:Vp P (runtimePanic .nilDeref:Sem Next)/\VV P (runtimePanic .nilDeref:Sem Next):=by
   have:∀w r d,(runtimePanic .nilDeref:Sem Next).run P w≠.ok r d:=λw r d e=>by
    unfold runtimePanic at e;simp only[Sem.run_bind,run_program,Result.andThen_ok]at e
    repeat(first|(cases e;done)|split at e|(simp[goPanic,stuck,unsupported,Sem.run]at e;done))
   exact⟨λw r d e=>absurd e (this w r d),λw r d e=>absurd e (this w r d)⟩
  show Vp P (execOp ρ _)/\_;simp only[execOp];split
  ·exact g
  ·exact g
  ·exact g
  ·split
   ·exact g
   ·refine⟨Vp.program.bind λp=>(vZ _ _ _ _).bind λb=>?_,λw r d e=>?_⟩
    ·split
     ·exact .halt _
     grind
    ·simp only[Sem.run_bind,run_program,Result.andThen_ok]at e;cases hs:(nilAhead _ _ _ _).run P w with
     |halt x w'=>rw[hs]at e;cases e
     |ok a w'=>
      rw[hs]at e;simp only[Result.andThen_ok]at e;split at e
      ·cases e
      ·cases e;exact⟨_,rfl⟩
   grind
  ·grind
 case fieldAddr t x i=>
  refine⟨Vp.val ?_,VV.val⟩;unfold Instr.fieldAt;intro w r d e;split at h
  ·rename_i E q;split at h
   ·rename_i f m;have s:P.cellsOf f.type≠0:=λC=>by rw[C]at h;cases h
    have run:∀(ad:Addr) (w:World),(Instr.fieldAt t (.pointer (some ad)) i).run P w=.ok (.pointer (some (ad.add f.offset))) w:=λad w=>by simp[Instr.fieldAt,run_underlying q,m,Instr.sureAddr,fieldPlace,Fc s,s]
    have y:∀v:Value,(∀ad,v≠.pointer (some ad))->(Instr.fieldAt t v i).run P w≠.ok r d:=λv G e=>by
     have hs:Instr.sureAddr v=.halt (.stuck "an address expected (no nilCheck in front?)"):=by
      unfold Instr.sureAddr;split
      ·grind
      ·rfl
     simp only[Instr.fieldAt,Sem.run_bind,run_underlying q,Result.andThen_ok,m,hs]at e;cases e
    change (Instr.fieldAt t (ρ x) i).run P w=.ok r d at e;show d=w/\∀w2,(Instr.fieldAt t (ρ x) i).run P w2=.ok r w2;grind
   ·cases h
  ·cases h
theorem WA(a:Addr):Rd P (load a):=λw r b e=>by unfold load at e;simp only[Sem.run]at e;grind
theorem V6(a:Addr):∀(n i:Nat) (b:Array Value),Rd P (loadCellsFrom a i n b)
 |0,i,b=>(Vp.pure _).rd
 |n+1,i,b=>by unfold loadCellsFrom;exact(WA _).bind λv=>V6 a n (i+1) _
theorem fU(t:TypeId)(a:Addr):Rd P (loadVar t a):=by
 unfold loadVar;refine(Oj t).rd.bind λb=>?_;cases b with
 |true=>exact(FK t).rd.bind λn=>(V6 a n 0 _).bind λ_=>(Vp.pure _).rd
 |false=>exact WA a
theorem Rr(h:DQ P o=true):Rd P (execOp ρ o)/\VV P (execOp ρ o):=by
 unfold DQ at h;rw[YG]at h;rcases h with h|h
 ·obtain⟨c,d⟩:=WC (ρ:=ρ) h;exact⟨c.rd,d⟩
 ·obtain⟨b,op,type,pos,after,guard⟩:=o;cases op<;>simp only at h<;>first|(cases h;done)|skip
  refine⟨Rd.val ?_,VV.val⟩;unfold Instr.loadAt;refine Rd.bind ?_ λa=>fU _ _;unfold Instr.sureAddr;split
  ·exact(Vp.pure _).rd
  ·exact(Vp.halt _).rd
def Hx(w a:World):Prop:=∀(k:Nat) (o:Obj),w.heap[k]?=some o->a.heap[k]?=some o
theorem Hx.refl(w:World):Hx w w:=λ_ _ h=>h
theorem Hx.cell{w d:World}{a:Addr}{v:Value}(h:Hx w d)(b:w.cell? a=some v):d.cell? a=some v:=by
 unfold World.cell? at b⊢;cases c:w.heap[a.block]? with
 |none=>rw[c]at b;cases b
 |some o=>rw[c]at b;rw[h _ _ c];exact b
theorem Hx.seen{w d:World}{p:Program}{at_:Addr}{u:TypeId}{k:Addr}{b:Bool}(h:Hx w d){r}(a:w.seen p at_ u k b=.ok r):d.seen p at_ u k b=.ok r:=by
 cases c:w.heap[at_.block]? with
 |none=>
  exfalso;unfold World.seen at a;rw[c]at a;have T:∀(α:Type) (e:String),(MonadExcept.throw e:Except String α)=.error e:=λ_ _=>rfl;simp only[bind,Except.bind,pure,Except.pure,throw,throwThe,T]at a;grind
 |some o=>
  unfold World.seen at a⊢;rw[h _ _ c];grind
theorem Hx.far{w i:World}{p:Program}{a:Addr}{b:Bool}(h:Hx w i){r}(c:w.farLoad p a b=.ok r):i.farLoad p a b=.ok r:=by
 unfold World.farLoad at c⊢;cases g:w.heap[a.block]? with
 |none=>rw[g]at c;cases c
 |some o=>
  rw[g]at c;rw[h _ _ g];cases o<;>simp only at c⊢<;>first|(cases c;done)|skip
  rename_i d u;cases f:w.viewLoad p d u a b with
  |error e=>rw[f]at c;cases c
  |ok q=>
   rw[f]at c;have:i.viewLoad p d u a b=.ok q:=by
    unfold World.viewLoad at f⊢;cases hs:w.seen p d u a b with
    |error e=>rw[hs]at f;cases f
    |ok z=>rw[hs]at f;rw[h.seen hs];exact f
   grind
variable {α β:Type}
def G1(P:Program)(s:Sem α):Prop:=∀w r a w2,s.run P w=.ok r a->Hx w w2->s.run P w2=.ok r w2
theorem Vp.sta{s:Sem α}(h:Vp P s):G1 P s:=λw r a w2 e _=>(h w r a e).2 w2
theorem G1.bind{s:Sem α}{f:α->Sem β}(c:Rd P s)(h:G1 P s)(k:∀a,G1 P (f a)):G1 P (s>>=f):=λw r d w2 e hx=>by
 rw[Sem.run_bind]at e⊢;cases hs:s.run P w with
 |halt x w'=>rw[hs]at e;cases e
 |ok a w'=>
  rw[hs]at e;have b:=c w a w' hs;subst b;rw[h _ _ _ _ hs hx];exact k a _ _ _ _ e hx
theorem xO(a:Addr):G1 P (load a):=λw r g w2 e hx=>by
 unfold load at e⊢;simp only[Sem.run]at e⊢;cases d:w.cell? a with
 |some v=>rw[d]at e;rw[hx.cell d];cases e;rfl
 |none=>
  rw[d]at e;cases b:w.farLoad P a (Mode.plain==Mode.atomic)with
  |error x=>rw[b]at e;cases e
  |ok q=>
   have f:w2.cell? a=none:=by
    unfold World.farLoad at b;unfold World.cell?;cases c:w.heap[a.block]? with
    |none=>rw[c]at b;cases b
    |some o=>
     rw[c]at b;rw[hx _ _ c];grind
   rw[b]at e;rw[f,hx.far b];grind
theorem vC(a:Addr):∀(n i:Nat) (b:Array Value),G1 P (loadCellsFrom a i n b)
 |0,i,b=>(Vp.pure _).sta
 |n+1,i,b=>by unfold loadCellsFrom;exact .bind (WA _) (xO _) λv=>vC a n (i+1) _
theorem ZnI(t:TypeId)(a:Addr):G1 P (loadVar t a):=by
 unfold loadVar;refine .bind (Oj t).rd (Oj t).sta λb=>?_;cases b with
 |true=>exact .bind (FK t).rd (FK t).sta λn=>.bind (V6 a n 0 _) (vC a n 0 _) λ_=>(Vp.pure _).sta
 |false=>exact xO a
theorem ZxX(h:DQ P o=true):G1 P (execOp ρ o):=by
 unfold DQ at h;rw[YG]at h;rcases h with h|h
 ·exact(WC (ρ:=ρ) h).1.sta
 ·obtain⟨b,op,type,pos,after,guard⟩:=o;cases op<;>simp only at h<;>first|(cases h;done)|skip
  have hs:∀v:Value,Rd P (Instr.sureAddr v)/\G1 P (Instr.sureAddr v):=λv=>by
   unfold Instr.sureAddr;split
   ·exact⟨(Vp.pure _).rd,(Vp.pure _).sta⟩
   ·exact⟨(Vp.halt _).rd,(Vp.halt _).sta⟩
  refine G1.bind (s:=Instr.loadAt _ _) (Rd.bind (hs _).1 λa=>fU _ _) (.bind (hs _).1 (hs _).2 λa=>ZnI _ _) λ_=>(Vp.pure _).sta
def Lm(o:Oper):Bool:=match o.op with|.buildSlice _ _ _=>true|.alloc _=>true|_=>false
theorem Zxn{w:World}{o:Obj}:Hx w {w with heap:=w.heap.push o }:=λk a h=>by grind
def Gr(P:Program)(s:Sem α):Prop:=∀w r a,s.run P w=.ok r a->Hx w a
theorem Rd.gr{s:Sem α}(h:Rd P s):Gr P s:=λw r a e=>by rw[h w r a e];exact .refl _
theorem Gr.bind{s:Sem α}{f:α->Sem β}(h:Gr P s)(k:∀a,Gr P (f a)):Gr P (s>>=f):=λw r c e=>by
 rw[Sem.run_bind]at e;cases hs:s.run P w with
 |halt x w'=>rw[hs]at e;cases e
 |ok a w'=>
  rw[hs]at e;exact λq o b=>k a _ _ _ e _ _ (h _ _ _ hs _ _ b)
theorem gC(t:TypeId)(cs:Array Value):Gr P (newRow t cs):=λw r a e=>by unfold newRow newObj at e;cases e;exact Zxn
theorem Zlx(t:TypeId)(n:Nat)(ps:Array (Nat×Value)):Gr P (Instr.buildSlice t n ps):=by
 unfold Instr.buildSlice;refine(KM t).rd.gr.bind λd=>?_;split
 ·refine(FK _).rd.gr.bind λsize=>?_;by_cases a:n*size>2^24
  ·rw[Yi a];intro w r c e;cases e
  ·rw[Yh a];by_cases b:n*size=0
   ·rw[Yi b];refine Gr.bind (s:=Pure.pure _) (Vp.pure _).rd.gr λz=>?_;dsimp only;split
    ·exact(gC _ _).bind λ_=>(Vp.pure _).rd.gr
    ·exact(Vp.halt _).rd.gr
   ·rw[Yh b];refine(fK _).rd.gr.bind λz=>Gr.bind (s:=Pure.pure _) (Vp.pure _).rd.gr λz=>?_;dsimp only;split
    ·exact(gC _ _).bind λ_=>(Vp.pure _).rd.gr
    ·exact(Vp.halt _).rd.gr
 ·exact(Vp.halt _).rd.gr
theorem ZDP(h:Lm o=true):Gr P (execOp ρ o)/\VV P (execOp ρ o):=by
 obtain⟨a,op,type,pos,after,guard⟩:=o;cases op<;>simp only[Lm]at h<;>first|(cases h;done)|skip
 case buildSlice=>exact⟨(Zlx _ _ _).bind λ_=>(Vp.pure _).rd.gr,VV.val⟩
 case alloc t=>exact⟨Gr.bind (s:=Instr.alloc _ _ _) ((fK _).rd.gr.bind λz=>Gr.bind (s:=newVar _ _) (gC _ _ |>.bind λ_=>(Vp.pure _).rd.gr) λ_=>(Vp.pure _).rd.gr) λ_=>(Vp.pure _).rd.gr,VV.val⟩
theorem zk(h:(DQ P o||Lm o)=true):Gr P (execOp ρ o)/\VV P (execOp ρ o):=by
 rw[YG]at h;rcases h with h|h
 ·exact⟨(Rr h).1.gr,(Rr h).2⟩
 ·exact ZDP h
end
def Qb(P:Program)(L:List Oper)(a:List Nat)(i:Nat)(b:Oper):Nat->List Oper->Bool
 |_,[]=>true
 |j,c::r=>(a.any (Nat.beq j)||Nat.beq j i||R4 L i L.length j||(b.apart L.toArray c&&(D0 P b||(DQ P b&&(DQ P c||Lm c)))))&&Qb P L a i b (j+1) r
def SX(P:Program)(L:List Oper):List Nat->List Nat->Bool
 |a,[]=>(List.range L.length).all λj=>a.any (Nat.beq j)
 |a,i::c=>(match Bp L i with
  |some b=>!(a.any (Nat.beq i))&&b.after.toList.all (λe=>!Region.binds .any e||a.any (Nat.beq e.on))&&(match D0 P b with|true=>chkV P L a i b 0 L|false=>Qb P L a i b 0 L)
  |none=>false)&&SX P L (i::a) c
where chkV (P:Program) (L:List Oper) (a:List Nat) (i:Nat) (b:Oper):Nat->List Oper->Bool
 |_,[]=>true
 |j,d::r=>(a.any (Nat.beq j)||Nat.beq j i||d.after.toList.any (λe=>Region.binds .any e&&Nat.beq e.on i)||b.apart L.toArray d)&&chkV P L a i b (j+1) r
theorem Hi{l:List Nat}{j:Nat}:l.any (Nat.beq j)=true↔j∈l:=by rw[YP];exact⟨λ⟨x,hx,h⟩=>Yd h▸hx,λh=>⟨j,h,T3 j⟩⟩
theorem yg{P:Program}{L:List Oper}{a:List Nat}{i:Nat}{f:Oper}:∀{r:List Oper} {c k:Nat} {d:Oper},Qb P L a i f c r=true->r[k]?=some d->
  (c+k)∈a\/c+k=i\/Waits L.toArray (c+k) i\/(f.apart L.toArray d=true/\(D0 P f=true\/DQ P f=true/\(DQ P d||Lm d)=true))
 |[],c,k,d,_,h=>by simp at h
 |q::r,c,k,d,e,h=>by
  unfold Qb at e;rw[Yc]at e;cases k with
  |zero=>
   simp only[G7,Yo]at h;subst h;have b:=e.1;simp only[YG,Yc]at b;rcases b with((b|b)|b)|b
   ·exact .inl (Hi.1 b)
   ·exact .inr (.inl (Yd b))
   ·exact .inr (.inr (.inl (fX _ _ b)))
   grind
  |succ k=>
   have:=yg (k:=k) e.2 (by simpa using h);grind
theorem yo{P:Program}{L:List Oper}{a:List Nat}{i:Nat}{j:Oper}:∀{r:List Oper} {c k:Nat} {d:Oper},SX.chkV P L a i j c r=true->r[k]?=some d->
  (c+k)∈a\/c+k=i\/(∃e∈d.after,Region.binds .any e=true/\e.on=i)\/j.apart L.toArray d=true
 |[],c,k,d,_,h=>by simp at h
 |q::r,c,k,d,f,h=>by
  unfold SX.chkV at f;rw[Yc]at f;cases k with
  |zero=>
   simp only[G7,Yo]at h;subst h;have b:=f.1;simp only[YG]at b;rcases b with((b|b)|b)|b
   ·exact .inl (Hi.1 b)
   ·exact .inr (.inl (Yd b))
   ·obtain⟨e,he,g⟩:=YP.1 b;rw[Yc]at g;exact .inr (.inr (.inl ⟨e,by simpa using he,g.1,Yd g.2⟩))
   grind
  |succ k=>
   have:=yo (k:=k) f.2 (by simpa using h);grind
def perm(π:List Nat):Code->Code
 |.region id ops _=>.region id (π.filterMap (Bp ops.toList)).toArray false
 |c=>c
def pb:Value->Option Nat
 |.pointer (some a)=>some a.block
 |_=>none
def Fx(w:World)(b:Nat):Prop:=∃C e f,w.heap[b]?=some (.cells C e f)
section
variable {P:Program} {α β:Type}
theorem zh{v:Value}{a:Addr}{w b:World}(h:(Instr.sureAddr v).run P w=.ok a b):v=.pointer (some a)/\b=w:=by
 unfold Instr.sureAddr at h;split at h
 ·cases h;exact⟨rfl,rfl⟩
 ·cases h
def Lo(b:Nat)(P:Program)(s:Sem α):Prop:=∀w r a w2,s.run P w=.ok r a->Fx w b->w2.heap[b]?=w.heap[b]?->s.run P w2=.ok r w2
theorem Vp.lo{b:Nat}{s:Sem α}(h:Vp P s):Lo b P s:=λw r a w2 e _ _=>(h w r a e).2 w2
theorem Lo.bind{b:Nat}{s:Sem α}{f:α->Sem β}(g:Rd P s)(h:Lo b P s)(k:∀a,Lo b P (f a)):Lo b P (s>>=f):=λw r i w2 e c d=>by
 rw[Sem.run_bind]at e⊢;cases hs:s.run P w with
 |halt x w'=>rw[hs]at e;cases e
 |ok a w'=>
  rw[hs]at e;have:=g w a w' hs;subst this;rw[h _ _ _ _ hs c d];exact k a _ _ _ _ e c d
theorem yj(a:Addr):Lo a.block P (load a):=λw r h w2 e ⟨C,t,f,d⟩ c=>by
 unfold load at e⊢;simp only[Sem.run]at e⊢;have g:w2.cell? a=w.cell? a:=World.cell?_of_block c;rw[g];cases b:w.cell? a with
 |some v=>rw[b]at e;cases e;rfl
 |none=>
  rw[b]at e;have:w.farLoad P a (Mode.plain==Mode.atomic)=.error (w.noCell a "load: no such cell"):=by unfold World.farLoad;rw[d]
  grind
theorem vM(a:Addr):∀(n i:Nat) (b:Array Value),Lo a.block P (loadCellsFrom a i n b)
 |0,i,b=>(Vp.pure _).lo
 |n+1,i,b=>by unfold loadCellsFrom;refine .bind (WA _) ?_ λv=>vM a n (i+1) _;have:=yj (P:=P) (a.add i);rwa [block_add]at this
theorem Zrr(t:TypeId)(a:Addr):Lo a.block P (loadVar t a):=by
 unfold loadVar;refine .bind (Oj t).rd (Oj t).lo λb=>?_;cases b with
 |true=>exact .bind (FK t).rd (FK t).lo λn=>.bind (V6 a n 0 _) (vM a n 0 _) λ_=>(Vp.pure _).lo
 |false=>exact yj a
theorem ZGb{ρ:Operand->Value}{o:Oper}{t:TypeId}{x:Operand}{w w2:World}{v:Value}(g:o.op=.load t x)(e:(execOp ρ o).run P w=.ok (.value v) w):
  ∃b,pb (ρ x)=some b/\(Fx w b->w2.heap[b]?=w.heap[b]?->(execOp ρ o).run P w2=.ok (.value v) w2):=by
 obtain⟨c,op,type,pos,after,guard⟩:=o;cases g;change ((Instr.loadAt t (ρ x))>>=λy=>(pure (Next.value y):Sem Next)).run P w=_ at e;show∃b,pb (ρ x)=some b/\(_->_->((Instr.loadAt t (ρ x))>>=λy=>(pure (Next.value y):Sem Next)).run P w2=_);generalize ρ x=q at e⊢;have:∃a,q=.pointer (some a):=by
  cases hs:(Instr.sureAddr q).run P w with
  |halt _ _=>unfold Instr.loadAt at e;simp only[Sem.run_bind,hs]at e;cases e
  |ok a w'=>exact⟨a,(zh hs).1⟩
 obtain⟨a,rfl⟩:=this;exact⟨a.block,rfl,λd f=>Lo.bind (Rd.bind (Vp.pure a).rd λa=>fU t a) (Zrr t a) (λ_=>(Vp.pure _).lo) _ _ _ _ e d f⟩
def So(b:Nat)(P:Program)(s:Sem α):Prop:=∀w r a,s.run P w=.ok r a->Fx w b->Fx a b/\∀k,k≠b->a.heap[k]?=w.heap[k]?
theorem Rd.so{b:Nat}{s:Sem α}(h:Rd P s):So b P s:=λw r c e a=>by rw[h w r c e];exact⟨a,λ_ _=>rfl⟩
theorem So.bind{b:Nat}{s:Sem α}{f:α->Sem β}(h:So b P s)(k:∀a,So b P (f a)):So b P (s>>=f):=λw r l e d=>by
 rw[Sem.run_bind]at e;cases hs:s.run P w with
 |halt x w'=>rw[hs]at e;cases e
 |ok a w'=>
  rw[hs]at e;obtain⟨c,g⟩:=h _ _ _ hs d;obtain⟨i,j⟩:=k a _ _ _ e c;grind
theorem Zz6(a:Addr)(v:Value):So a.block P (store a v):=λw r b e ⟨C,t,f,c⟩=>by
 unfold store at e;have key:∀b,b=w.setCell a v->Fx b a.block/\∀k,k≠a.block->b.heap[k]?=w.heap[k]?:=λb e=>by
  subst e;unfold World.setCell;constructor
  ·refine⟨(if a.spot.isSome then C else C.setIfInBounds a.off v),t,f,?_⟩;show(w.heap.modify a.block _)[a.block]?=_;rw[lE,c];simp
  ·intro k g;show(w.heap.modify a.block _)[k]?=_;rw[lE];simp[Ne.symm g]
 cases v<;>simp only[Sem.run]at e<;>first
  |(cases e;done)
  |(cases d:w.cell? a with
    |some x=>
     rw[d]at e;simp only at e;split at e
     ·cases e
     ·cases e;exact key _ rfl
    |none=>
     rw[d]at e;unfold World.farStore at e;rw[c]at e;cases e)
theorem vD(a:Addr):∀(vs:List Value) (i:Nat),So a.block P (storeCells a vs i)
 |[],i=>(Vp.pure _).rd.so
 |v::r,i=>by unfold storeCells;refine So.bind ?_ λ_=>vD a r (i+1);have:=Zz6 (P:=P) (a.add i) v;rwa [block_add]at this
theorem Zor(t:TypeId)(a:Addr)(v:Value):So a.block P (storeVar t a v):=by
 unfold storeVar;refine(FK t).rd.so.bind λn=>?_;by_cases h:v.cells.size≠n
 ·rw[Yi h];intro w r b e;cases e
 ·rw[Yh h];exact vD a _ 0
theorem ZDp{ρ:Operand->Value}{o:Oper}{t:TypeId}{x y:Operand}{w c:World}{r:Next}(h:o.op=.store t x y)(e:(execOp ρ o).run P w=.ok r c):
  r=.skip/\∃b,pb (ρ x)=some b/\(Fx w b->Fx c b/\∀k,k≠b->c.heap[k]?=w.heap[k]?):=by
 obtain⟨d,op,type,pos,after,guard⟩:=o;cases h;change ((Instr.storeAt t (ρ x) (ρ y))>>=λ_=>(pure Next.skip:Sem Next)).run P w=_ at e;generalize ρ x=q at e⊢;generalize ρ y=v at e;have f:r=.skip:=by
  rw[Sem.run_bind]at e;cases hs:(Instr.storeAt t q v).run P w with
  |halt _ _=>rw[hs]at e;cases e
  |ok _ _=>rw[hs]at e;cases e;rfl
 refine⟨f,?_⟩;have:∃a,q=.pointer (some a):=by
  cases hs:(Instr.sureAddr q).run P w with
  |halt _ _=>unfold Instr.storeAt at e;simp only[Sem.run_bind,hs]at e;cases e
  |ok a w'=>exact⟨a,(zh hs).1⟩
 obtain⟨a,rfl⟩:=this;exact⟨a.block,rfl,λg=>So.bind (Zor t a v) (λ_=>(Vp.pure _).rd.so) _ _ _ e g⟩
end
def K9(z:Nat):List (Nat×Nat)->Option Nat
 |[]=>none
 |(d,r)::l=>match Nat.beq d z with|true=>some r|false=>K9 z l
theorem Mg{z r:Nat}:∀{l:List (Nat×Nat)},K9 z l=some r->(z,r)∈l
 |(d,q)::l,h=>by
  unfold K9 at h;split at h
  ·rename_i e;cases h;rw[Yd e];exact YH ..
  ·exact YI _ (Mg h)
def MD:Operand->Option Nat
 |.tmp z=>some z
 |_=>none
def Ld(P:Program)(o:Oper):Option Nat:=match D0 P o with
 |true=>(match o.op with
  |.fieldAddr _ x _=>MD x
  |.move x=>MD x
  |.nilCheck x=>MD x
  |_=>none)
 |false=>none
def DG(P:Program)(env:List (Nat×Nat))(o:Oper):List (Nat×Nat):=match o.dst with
 |none=>env
 |some d=>(match Ld P o with|some z=>(match K9 z env with|some r=>[(d,r)]|none=>[])|none=>[])++env.filter λp=>!Nat.beq p.1 d
def XY(P:Program)(env:List (Nat×Nat))(o:Oper):Bool:=DQ P o||Lm o||match o.op with
 |.store _ (.tmp y) _=>(K9 y env).isSome
 |_=>false
def J(β:Nat->Nat)(env:List (Nat×Nat))(a:Act)(w:World):Prop:=∀p∈env,∀b,pb (a.eval (.tmp p.1))=some b->b=β p.2/\Fx w b
def yO:Next->Option Value
 |.value v=>some v
 |.skip=>some undef
 |_=>none
section
variable {P:Program} {β:Nat->Nat} {env:List (Nat×Nat)} {a:Act} {w w':World} {o:Oper} {n:Next}
theorem xe(h:XY P env o=true)(l:J β env a w)(e:(execOp a.eval o).run P w=.ok n w'):(∃u,yO n=some u)/\∀b,Fx w b->Fx w' b:=by
 unfold XY at h;rw[YG]at h;rcases h with h|h
 ·obtain⟨c,d⟩:=zk (ρ:=a.eval) h;obtain⟨v,rfl⟩:=d _ _ _ e;exact⟨⟨v,rfl⟩,λb ⟨C,t,f,g⟩=>⟨C,t,f,c _ _ _ e _ _ g⟩⟩
 ·split at h
  ·rename_i t y v p;obtain⟨rfl,i,c,d⟩:=ZDp p e;obtain⟨r,q⟩:=E1.1 h;obtain⟨_,j⟩:=l _ (Mg q) _ c;obtain⟨s,k⟩:=d j;refine⟨⟨_,rfl⟩,λb ⟨C,t,f,g⟩=>?_⟩;by_cases m:b=i
   ·grind
   ·exact⟨C,t,f,(k b m).trans g⟩
  ·cases h
theorem Wj{x:Operand}{z:Nat}(h:MD x=some z):x=.tmp z:=by
 cases x<;>simp only[MD]at h<;>first|(cases h;done)|skip
 grind
theorem oe{z:Nat}{b:Nat}{v:Value}(hs:Ld P o=some z)(e:(execOp a.eval o).run P w=.ok (.value v) w')(c:pb v=some b):pb (a.eval (.tmp z))=some b:=by
 unfold Ld at hs;cases d:D0 P o with
 |false=>rw[d]at hs;cases hs
 |true=>
  rw[d]at hs;obtain⟨l,op,type,pos,after,guard⟩:=o;cases op<;>simp only at hs<;>first|(cases hs;done)|skip
  case move x=>rw[<-Wj hs];cases e;exact c
  case nilCheck x=>
   rw[<-Wj hs];have s:∀w r k,(runtimePanic .nilDeref:Sem Next).run P w≠.ok r k:=λw r k e=>by
    unfold runtimePanic at e;simp only[Sem.run_bind,run_program,Result.andThen_ok]at e
    repeat(first|(cases e;done)|split at e|(simp[goPanic,stuck,unsupported,Sem.run]at e;done))
   simp only[execOp]at e;split at e
   ·grind
   ·grind
   ·grind
   ·split at e
    ·grind
    ·simp only[Sem.run_bind,run_program,Result.andThen_ok]at e;cases hs:(nilAhead _ _ _ _).run P w with
     |halt x w'=>rw[hs]at e;cases e
     |ok q w'=>
      rw[hs]at e;simp only[Result.andThen_ok]at e;split at e
      ·cases e
      ·cases e;first|exact c|cases c
    ·cases e;first|exact c|cases c
   ·cases e;first|exact c|cases c
  case fieldAddr t x i=>
   rw[<-Wj hs];simp only[D0]at d;split at d
   ·rename_i p h;split at d
    ·rename_i f g;have j:P.cellsOf f.type≠0:=λm=>by rw[m]at d;cases d
     have run:∀(ad:Addr) (w:World),(Instr.fieldAt t (.pointer (some ad)) i).run P w=.ok (.pointer (some (ad.add f.offset))) w:=λad w=>by simp[Instr.fieldAt,run_underlying h,g,Instr.sureAddr,fieldPlace,Fc j,j]
     change ((Instr.fieldAt t (a.eval x) i)>>=λy=>(pure (Next.value y):Sem Next)).run P w=_ at e;generalize a.eval x=q at e⊢;by_cases n:∃ad,q=.pointer (some ad)
     ·obtain⟨ad,rfl⟩:=n;rw[Sem.run_bind,run]at e;cases e;simp only[pb,block_add]at c;exact c
     ·exfalso;have hs:Instr.sureAddr q=.halt (.stuck "an address expected (no nilCheck in front?)"):=by
       unfold Instr.sureAddr;split
       ·grind
       ·rfl
      simp only[Instr.fieldAt,Sem.run_bind,run_underlying h,Result.andThen_ok,g,hs]at e;cases e
    grind
   ·cases d
theorem J.put(g:J β env a w)(y:XY P env o=true)(e:(execOp a.eval o).run P w=.ok n w'){u:Value}(A:yO n=some u):J β (DG P env o) (a.put o.dst u) w':=by
 have l:=(xe y g e).2;unfold DG;have ev:∀z:Nat,(∀d,o.dst=some d->z≠d)->(a.put o.dst u).eval (.tmp z)=a.eval (.tmp z):=λz j=>Act.eval_put λd i hx=>j d i (by cases hx;rfl);cases i:o.dst with
 |none=>
  intro p c b f;rw[<-i,ev _ (λd h=>by rw[i]at h;cases h)]at f;exact⟨(g p c b f).1,l _ (g p c b f).2⟩
 |some d=>
  intro p c b f;rw[DT]at c;rcases c with c|c
  ·split at c
   ·rename_i z j;split at c
    ·rename_i r x;obtain rfl:=Y5.1 c;simp only at f⊢;have q:n=.value u:=by
      have:DQ P o=true:=by
       unfold Ld at j;unfold DQ;cases B:D0 P o with
       |true=>rfl
       |false=>rw[B]at j;cases j
      obtain⟨v,rfl⟩:=(Rr (ρ:=a.eval) this).2 _ _ _ e;cases A;rfl
     subst q;have k:pb u=some b:=by
      have:(a.put (some d) u).eval (.tmp d)=u\/(a.put (some d) u).eval (.tmp d)=undef:=by
       simp only[Act.eval,Act.put,YD,PK];split
       ·rename_i h;split<;>simp_all
       ·simp_all
      rcases this with h|h
      ·rw[h]at f;exact f
      ·rw[h]at f;cases f
     obtain⟨s,t⟩:=g _ (Mg x) _ (oe j e k);exact⟨s,l _ t⟩
    ·cases c
   ·cases c
  ·rw[Y2]at c;have m:p.1≠d:=λhe=>by have:=c.2;rw[he,T3]at this;cases this
   rw[<-i,ev _ (λd' h=>by rw[i]at h;cases h;exact m)]at f;exact⟨(g p c.1 b f).1,l _ (g p c.1 b f).2⟩
def od(env:List (Nat×Nat))(o:Oper):Bool:=match o.dst with
 |none=>true
 |some d=>env.all λp=>!Nat.beq p.1 d
theorem J.keep(c:J β env a w)(k:XY P env o=true)(g:od env o=true)(e:(execOp a.eval o).run P w=.ok n w'){u:Value}:J β env (a.put o.dst u) w':=by
 have i:=(xe k c e).2;intro p h b f;have:(a.put o.dst u).eval (.tmp p.1)=a.eval (.tmp p.1):=Act.eval_put λd j hx=>by cases hx;unfold od at g;rw[j]at g;have:=Yv.1 g p h;rw[T3]at this;cases this
 rw[this]at f;exact⟨(c p h b f).1,i _ (c p h b f).2⟩
end
end Go.Eng
