import Derived.Test.YtalafnjhcecdpaaGreatDoorZa10
import Derived.Test.YtalafnjhcecdpaaGreatDoorZa00
namespace Go.Eng
set_option linter.all false
open Go Go.RowKit
def DF:Nat->List Blk->List (Ad×Blk)
 |_,[]=>[]
 |i,b::bs=>((0,i),b)::DF (i+1) bs
abbrev Cl:=(Ad->Prop)->Nat->Hp->(Nat->AV)->Prop
structure KO (P:Program) (f:FuncId) (os:Nat) (ys:List AV) (bi:List Blk) (Θ:Cl) {γ:Type} (M:Option γ) (e:γ->AV) (bs:γ->List Blk):Prop where
 k:∀l H (ks:List Ad) (gs:List Nat) (θ:Nat->AV),ks.length=os->Ko l ks->ks.Nodup->KH H (Cv l ks gs θ H) (DF 0 bi) 0 ks->Θ (λk=>k∈ks) l H θ->∀y,M=some y->
  Zc0 P f l (Ao (Cv l ks gs θ H) ys) H (λz H'=>z=ren (Cv l ks gs θ H) (e y)/\H'=DU H ks (C4 (Cv l ks gs θ H) 0 (bs y)))
mutual
def Ku(os:Nat):AV->Bool
 |.ref k _ _ _=>Nat.beq k.1 0&&Nat.ble (k.2+1) os
 |.ptr k _ _=>Nat.beq k.1 0&&Nat.ble (k.2+1) os
 |.mp k _=>Nat.beq k.1 0&&Nat.ble (k.2+1) os
 |.fn f xs ys=>(match f with|.yield _=>false|_=>true)&&JD os xs&&JD os ys
 |.agg xs=>JD os xs
 |.tup xs=>JD os xs
 |.top=>true
 |.d _=>true
 |.e0=>true
 |.p _=>true
 |.iptr _ _=>true
 |.ifc _ _ _=>true
def JD(os:Nat):List AV->Bool
 |[]=>true
 |x::xs=>Ku os x&&JD os xs
end
def N5(os:Nat)(r a:Ren):Prop:=∀q,q<os->r.κ (0,q)=a.κ (0,q)/\r.γ (0,q)=a.γ (0,q)
theorem eU{os:Nat}{r c:Ren}(hs:N5 os r c){k:Ad}(h:(Nat.beq k.1 0&&Nat.ble (k.2+1) os)=true):r.κ k=c.κ k/\r.γ k=c.γ k:=by simp only[Yb]at h;obtain⟨a,b⟩:=k;have d:=Ye h.1;have e:=Yj h.2;simp only at d e;subst d;exact hs b e
mutual
theorem eT{os:Nat}{r c:Ren}(hs:N5 os r c):∀x:AV,Ku os x=true->ren r x=ren c x
 |.ref k g off n,h=>by obtain⟨a,b⟩:=eU hs h;simp only[ren,a,b]
 |.ptr k g off,h=>by obtain⟨a,b⟩:=eU hs h;simp only[ren,a,b]
 |.mp k g,h=>by obtain⟨a,b⟩:=eU hs h;simp only[ren,a,b]
 |.fn f xs ys,h=>by simp only[Ku,Yb]at h;have a:=Nu hs xs h.1.2;have b:=Nu hs ys h.2;cases f<;>first|(simp only[ren,a,b];done)|(simp at h)
 |.agg xs,h=>by simp only[Ku]at h;simp only[ren,Nu hs xs h]
 |.tup xs,h=>by simp only[Ku]at h;simp only[ren,Nu hs xs h]
 |.top,_=>by simp[ren]
 |.d _,_=>by simp[ren]
 |.e0,_=>by simp[ren]
 |.p _,_=>by simp[ren]
 |.iptr _ _,_=>by simp[ren]
 |.ifc _ _ _,_=>by simp[ren]
theorem Nu{os:Nat}{r a:Ren}(hs:N5 os r a):∀xs:List AV,JD os xs=true->Ao r xs=Ao a xs
 |[],_=>by simp[Ao]
 |x::xs,h=>by simp only[JD,Yb]at h;simp only[Ao,eT hs x h.1,Nu hs xs h.2]
end
def Gj(os:Nat):List Blk->Prop
 |[]=>True
 |b::bs=>(IJ b.cells\/JD os b.cells=true)/\b.live=true/\Gj os bs
theorem Gj.ren{os:Nat}{r a:Ren}(hs:N5 os r a):∀(bs:List Blk) (i:Nat),i+bs.length<=os->Gj os bs->C4 r i bs=C4 a i bs
 |[],_,_,_=>rfl
 |b::bs,i,hl,h=>by
  simp only[D0]at hl;have d:Ao r b.cells=Ao a b.cells:=by
   rcases h.1 with c|e
   ·rw[JW c,JW c]
   ·exact Nu hs _ e
  simp only[C4,Gj.ren hs bs (i+1) ae h.2.2,AJ,d,(hs i ae).2]
theorem Gj.live{os:Nat}:∀{bs:List Blk},Gj os bs->∀b∈bs,b.live=true
 |c::bs,h,b,a=>by
  rcases Yy.1 a with rfl|a
  ·exact h.2.1
  ·exact Gj.live h.2.2 b a
theorem Ka:IJ []:=λx hx=>by cases hx
theorem Dj{P:Program}{T:Nat->Option TI}{n:Nat}{f:FuncId}{fn:Func}{ys:List AV}{bi:List Blk}{Θ:Cl}{γ:Type}{M:Option γ}{e:γ->AV}{bs:γ->List Blk}(I:P.funcs[f]?=some fn)(J:fn.ntmps=n)(F:Ba P T)(u:List ResultVar)(os:Nat)
  (h:∀C:Cx,CO C os->Θ C.no C.l C.H0 C.θ->∀y,M=some y->∀a:AV->List Blk->Prop,HL (λy=>a (e y) (bs y)) y->LW P n C (pa [] (At fn)) (Ab (DQ 0 ys) (DF 0 bi)) (FQ T u os a))
  (he:∀y,Ku os (e y)=true:=by intro y;kernel_rfl) (v:∀y,Gj os (bs y):=by intro y;repeat(first|exact trivial|refine⟨.inl (Ff _ _),rfl,?_⟩|refine⟨.inl Ka,rfl,?_⟩|refine⟨.inr aC,rfl,?_⟩)) (hl:∀y,(bs y).length=os:=by intro y;rfl) (o:IY os (DF 0 bi)=true:=by kernel_rfl)
  (G:fn.body=some (At fn):=by kernel_rfl) (c:(fn.name== "runtime.NumGoroutine")=false:=by kernel_rfl) (d:fn.results.toList=u:=by kernel_rfl) (hx:Nat.ble ys.length n=true:=by kernel_rfl):KO P f os ys bi Θ M e bs:=
 ⟨λl H ks g θ p i t D hΘ y hy=>by
  have hN:∀r,Jp l ks g r->N5 os r (Cv l ks g θ H):=λr d q K=>by obtain⟨w,x⟩:=d;exact⟨congrFun w _,x q ae⟩
  refine Zne u (At fn) ks g os θ ys (DF 0 bi) (e y) (bs y) (Y':=ren (Cv l ks g θ H) (e y)) (bs':=C4 (Cv l ks g θ H) 0 (bs y)) I G c J d (by rw[CR];exact Yj hx) F p i t o D rfl (hl y) (v y).live
   (λr d=>eT (hN r d) _ (he y)) (λr d=>Gj.ren (hN r d) _ _ (by rw[hl];omega) (v y)) (λC A E B s m L N j=>?_) ⟨rfl,rfl⟩
  refine h C ⟨A,E,B,λq K=>?_⟩ (by rw[j,s,m,L];exact hΘ) y hy (λz b=>z=e y/\b=bs y) ⟨rfl,rfl⟩;rw[j,N];show(match Bl ks q with|some k=>k|none=>(0,0))∈ks;rw[Cp,Yd ae];exact Hc _⟩
def Fw(r:Ren):List (Ad×Blk)->List Nat
 |[]=>[]
 |(k,b)::a=>(r.γ k+b.g)::Fw r a
def BE(r a:Ren):Nat->List Blk->List (Ad×Blk)->Prop
 |i,b::bs,(k,c)::cs=>(b.live=true->c.live=true/\AJ r (0,i) b=AJ a k c)/\r.γ (0,i)+b.g=a.γ k+c.g/\BE r a (i+1) bs cs
 |_,[],[]=>True
 |_,_,_=>False
def Hr:List Ad->Bool
 |[]=>true
 |k::ks=>!(ks.any (BD k))&&Hr ks
theorem P5{κ:Ad->Ad}{os:Nat}(a:∀q k:Ad,BH os q=true->BH os k=true->q≠k->κ q≠κ k):∀(ks:List Ad),Hr ks=true->ks.all (BH os)=true->(ks.map κ).Nodup
 |[],_,_=>List.nodup_nil
 |k::ks,h,b=>by simp only[Hr,Yb,YO]at h;simp only[Ju,Yb]at b;rw[YZ,List.nodup_cons];refine⟨λhm=>?_,P5 a ks h.2 b.2⟩;obtain⟨q,d,e⟩:=YV.1 hm;have c:q≠k:=λe'=>UT h.1 (e'▸d);grind
section
variable {P:Program} {f:FuncId} {os os':Nat} {ys:List AV} {bi:List Blk} {Θ:Cl} {γ:Type} {M:Option γ} {e:γ->AV} {bs:γ->List Blk} {C:Cx} {r:Ren} {xs:List AV} {x:AV} {y:γ}
theorem Vl{fx:List Nat}(co:COx C os' fx)(g:Gd C r):∀q k:Ad,BH os' q=true->BH os' k=true->q≠k->r.κ q≠r.κ k:=by
 intro q k m j l he;rw[g.κ]at he;rcases GG m with e|⟨e,h⟩<;>rcases GG j with f|⟨f,i⟩
 ·obtain⟨a,b⟩:=q;obtain⟨c,d⟩:=k;simp only at e f;subst e;subst f;rw[co.ok.own,co.ok.own]at he;grind
 ·obtain⟨a,b⟩:=q;obtain⟨c,d⟩:=k;simp only at e f i;subst e;subst f;rw[co.ok.own]at he;have:=co.ok.out d (by rw[co.O];exact i);grind
 ·obtain⟨a,b⟩:=q;obtain⟨c,d⟩:=k;simp only at e h f;subst e;subst f;rw[co.ok.own]at he;have:=co.ok.out b (by rw[co.O];exact h);grind
 ·obtain⟨a,b⟩:=q;obtain⟨c,d⟩:=k;simp only at e h f i;subst e;subst f;have:=co.ok.inj b d (by rw[co.O];exact h) (by rw[co.O];exact i) he;grind
theorem NP{fx:List Nat}(co:COx C os' fx)(g:Gd C r):∀(ks:List Ad),ks.all (BH os')=true->Ko (C.l+1) (ks.map r.κ)
 |[],_=>trivial
 |k::ks,h=>by
  simp only[Ju,Yb]at h;refine⟨?_,NP co g ks h.2⟩;rw[g.κ];obtain⟨a,b⟩:=k;rcases GG h.1 with c|⟨c,d⟩
  ·simp only at c;subst c;rw[co.ok.own];exact Yf _
  ·simp only at c d;subst c;exact R3 (co.ok.out b (by rw[co.O];exact d))
theorem Qf:∀(bi:List Blk) (i j:Nat),AB (DF i bi) (0,i+j)=(bi[j]?).getD Fv
 |[],i,j=>by simp[DF,AB]
 |b::bi,i,0=>by simp[DF,AB,BD]
 |b::bi,i,j+1=>by
  have a:=Qf bi (i+1) j;simp only[DF,AB];have:BD (0,i) (0,i+(j+1))=false:=by
   simp only[BD,Ia];right;cases h:Nat.beq i (i+(j+1))with
   |false=>rfl
   |true=>have:=Ye h;omega
  grind
theorem QJ{l:Ren}{d:Hp}:∀(bi:List Blk) (a:List (Ad×Blk)) (i:Nat) (B:List Blk),(∀j,AB (DF 0 B) (0,i+j)=(bi[j]?).getD Fv)->BE l r i bi a->
  (∀p∈a,(d (r.κ p.1)).g=r.γ p.1+p.2.g/\(p.2.live=true->d (r.κ p.1)=AJ r p.1 p.2))->KH d l (DF 0 B) i ((a.map (·.1)).map r.κ)
 |[],[],i,B,_,_,_=>trivial
 |b::bi,(k,c)::a,i,B,f,h,g=>by
  have e:=f 0;simp only[Gs,YI,E2]at e;obtain⟨o,q,m⟩:=h;refine⟨?_,QJ bi a (i+1) B (λj=>?_) m λp n=>g p (YH _ n)⟩
  ·rw[e];have s:=g _ (YJ ..);grind
  ·have:=f (j+1);grind
 |[],_::_,_,_,_,h,_=>h.elim
 |_::_,[],_,_,_,h,_=>h.elim
theorem Zuu{H:Hp}{k:Ad}:updH H k (H k)=H:=by
 funext q;by_cases h:q=k
 ·subst h;exact AS ..
 ·exact AF _ _ h
theorem dP{g:Ren}{d:Hp}:∀(bi:List Blk) (a:List (Ad×Blk)) (i:Nat),BE g r i bi a->(∀b∈bi,b.live=true)->(∀p∈a,p.2.live=true->d (r.κ p.1)=AJ r p.1 p.2)->DU d ((a.map (·.1)).map r.κ) (C4 g i bi)=d
 |[],[],_,_,_,_=>rfl
 |b::bi,(k,c)::a,i,h,hl,f=>by obtain⟨l,q,m⟩:=h;have e:=l (hl b (YJ ..));have j:=f _ (YJ ..) e.1;simp only[YZ,DU,C4];rw[e.2,<-j,Zuu];exact dP bi a (i+1) m (λb n=>hl b (YH _ n)) λp o=>f p (YH _ o)
 |[],_::_,_,h,_,_=>h.elim
 |_::_,[],_,h,_,_=>h.elim
theorem eD{j:Ren}:∀(d:List Blk) (f a:List (Ad×Blk)) (i:Nat) (g:Hp),BE j r i d a->(∀b∈d,b.live=true)->f.map (·.1)=a.map (·.1)->DU g ((f.map (·.1)).map r.κ) (C4 j i d)=Dq r a g
 |[],[],[],_,_,_,_,_=>rfl
 |[],_::_,[],_,_,_,_,h=>by cases h
 |b::d,[],_::_,_,_,_,_,h=>by cases h
 |b::d,(k,c)::f,(q,o)::a,i,g,h,hl,he=>by obtain⟨l,p,m⟩:=h;simp only[YZ,List.cons.injEq]at he;obtain⟨rfl,he⟩:=he;have e:=l (hl b (YJ ..));simp only[YZ,DU,C4,Dq];rw[e.2];exact eD d f a (i+1) _ m (λb n=>hl b (YH _ n)) he
 |_::_,_,[],_,_,h,_,_=>h.elim
 |[],_,_::_,_,_,h,_,_=>h.elim
def rC(C:Cx)(r:Ren)(a:List (Ad×Blk))(θ:Nat->AV)(H:Hp):Ren:=Cv (C.l+1) ((a.map (·.1)).map r.κ) (Fw r a) θ H
def Th(Θ:Cl)(C:Cx)(r:Ren)(b c:List (Ad×Blk))(θ:Nat->AV):Prop:=
 ∀a,(∀p∈c,(a (r.κ p.1)).g=r.γ p.1+p.2.g/\(p.2.live=true->a (r.κ p.1)=AJ r p.1 p.2))->(∀k:Ad,k.1<=C.l->¬r.no k->a k=r.H0 k)->Θ (λk=>k∈(b.map (·.1)).map r.κ) (C.l+1) a θ
theorem DA(K:KO P f os ys bi Θ M e bs)(hy:M=some y){fx:List Nat}(co:COx C os' fx)(g:Gd C r)(a k:List (Ad×Blk))(θ:Nat->AV)(hΘ:Th Θ C r a (a++k) θ)(l:∀H,BE (rC C r a θ H) r 0 bi a)(t:bs y=bi:=by rfl)(n:bi.all Blk.live=true:=by kernel_rfl)(i:(a++k).all (λp=>p.2.live)=true:=by kernel_rfl)(hx:∀H,Ao (rC C r a θ H) ys=Ao r xs:=by intro H;kernel_rfl)(u:∀H,ren (rC C r a θ H) (e y)=ren r x:=by intro H;kernel_rfl)
  (m:((a.map (·.1)).all (BH os')&&Hr (a.map (·.1))&&Nat.beq a.length os)=true:=by kernel_rfl):Hw P C.l r f xs (a++k) x:=by
 intro d v D;have s:∀b∈bi,b.live=true:=λb E=>Yu.1 n b E;have o:∀p∈a++k,p.2.live=true:=λp c=>Yu.1 i p c;have h:∀p∈a,p∈a++k:=λp c=>Ib _ c;simp only[Yb]at m;have q:∀p∈a++k,(d (r.κ p.1)).g=r.γ p.1+p.2.g/\(p.2.live=true->d (r.κ p.1)=AJ r p.1 p.2):=λp c=>⟨by rw[v p c (o p c)];rfl,v p c⟩;have:=K.k (C.l+1) d ((a.map (λp:Ad×Blk=>p.1)).map r.κ) (Fw r a) θ (by rw[YF,YF];exact Ye m.2) (NP co g _ m.1.1) (P5 (Vl co g) _ m.1.2 m.1.1)
  (QJ bi a 0 bi (λj=>by have:=Qf bi 0 j;rwa [YX]at this⊢) (l d) λp c=>q p (h p c)) (hΘ d q D) y hy
 rw[<-hx d];refine this.mono λz w ⟨A,B⟩=>⟨A.trans (u d),B.trans ?_⟩;rw[t];exact dP bi a 0 (l d) s λp c hl=>(q p (h p c)).2 hl
theorem ZxH(K:KO P f os ys bi Θ M e bs)(hy:M=some y){fx:List Nat}(co:COx C os' fx)(g:Gd C r)(a m c:List (Ad×Blk))(θ:Nat->AV)(hΘ:Th Θ C r a (a++m) θ)
  (n:∀H,BE (rC C r a θ H) r 0 bi a) (h:∀H,BE (rC C r a θ H) r 0 (bs y) c) (k:(bs y).all Blk.live=true:=by kernel_rfl) (hx:∀H,Ao (rC C r a θ H) ys=Ao r xs:=by intro H;kernel_rfl) (s:∀H,ren (rC C r a θ H) (e y)=ren r x:=by intro H;kernel_rfl)
  (i:((a.map (·.1)).all (BH os')&&Hr (a.map (·.1))&&Nat.beq a.length os)=true:=by kernel_rfl) (he:a.map (·.1)=c.map (·.1):=by rfl):IL P C.l r f xs (a++m) x c []:=by
 have o:∀b∈bs y,b.live=true:=λb B=>Yu.1 k b B;have l:∀p∈a,p∈a++m:=λp q=>Ib _ q;refine Zwh rfl rfl λd t A=>?_;simp only[Yb]at i;have:=K.k (C.l+1) d ((a.map (λp:Ad×Blk=>p.1)).map r.κ) (Fw r a) θ (by rw[YF,YF];exact Ye i.2) (NP co g _ i.1.1) (P5 (Vl co g) _ i.1.2 i.1.1)
  (QJ bi a 0 bi (λj=>by have:=Qf bi 0 j;rwa [YX]at this⊢) (n d) λp q=>t p (l p q)) (hΘ d t A) y hy
 rw[<-hx d];exact this.mono λz u ⟨v,w⟩=>⟨v.trans (s d),w.trans (eD (bs y) a c 0 d (h d) o he)⟩
end
structure CloM (P:Program) (C:Cx) (i:Nat) (xs:List AV) {γ:Type} (M:Option γ) (e:γ->AV):Prop where
 k:∀y,M=some y->B9 P C.l C.no C.H0 (C.θ i) xs (e y)
 x:∀r,Ao r xs=xs
 e:∀r y,ren r (e y)=e y
section
variable {os:Nat} {β γ:Type} [Inhabited γ]
theorem CloM.callF{P:Program}{i:Nat}{xs:List AV}{M:Option γ}{e:γ->AV}(E:Ev os β)(h:CloM P E.C i xs M e){y:γ}(hy:M=some y):N0 P E.E.l E.E.r i xs [] (e y):=
 Zwx (congrFun E.g.θ i) (by rw[E.hl,E.g.no,E.g.H];exact h.k y hy) (h.x _) (h.e _ _)
@[reducible] def cf(P:Program)(i:Nat)(xs:List AV)(M:Option γ)(e:γ->AV)(k:γ->PT os β):PT os β:=
 ⟨.call (e (M.getD default)) [] (k (M.getD default)).a,λE=>N0 P E.l E.r i xs [] (e (M.getD default))/\(k (M.getD default)).q E,M.bind λy=>(k y).m,λE=>CloM P E.C i xs M e/\∀y,(k y).n E,λE b y hm f=>by
  obtain⟨x,a,c⟩:=bind_some hm;have d:M.getD default=x:=by rw[a];rfl
  rw[d];exact⟨b.1.callF E a,(k x).ok E (b.2 x) y c f⟩⟩
@[reducible] def HQ(b:Bool)(P:Program)(i:Nat)(xs:List AV)(M:Option γ)(e:γ->AV)(k:γ->PT os β):PT os β:=
 ⟨.call (e (M.getD default)) [] (k (M.getD default)).a,λE=>(b=true->N0 P E.l E.r i xs [] (e (M.getD default)))/\(k (M.getD default)).q E,if(b=true->M.isSome=true)then(k (M.getD default)).m else none,λE=>CloM P E.C i xs M e/\∀y,(k y).n E,λE c y hm g=>by
  obtain⟨d,hm⟩:=BB hm;refine⟨λh=>?_,(k _).ok E (c.2 _) y hm g⟩;obtain⟨x,a⟩:=FH.1 (d h);have f:M.getD default=x:=by rw[a];rfl
  rw[f];exact c.1.callF E a⟩
@[reducible] def cs(P:Program)(f:FuncId)(xs:List AV)(ks:List Ad)(b:List (Ad×Blk))(M:Option γ)(e:γ->AV)(k:γ->PT os β):PT os β:=
 ⟨.call (e (M.getD default)) ks (k (M.getD default)).a,λE=>Hw P E.l E.r f xs b (e (M.getD default))/\(k (M.getD default)).q E,M.bind λy=>(k y).m,λE=>(∀y,M=some y->Hw P E.C.l E.E.r f xs b (e y))/\∀y,(k y).n E,λE c y hm h=>by
  obtain⟨x,a,d⟩:=bind_some hm;have g:M.getD default=x:=by rw[a];rfl
  rw[g];exact⟨by rw[E.hl];exact c.1 x a,(k x).ok E (c.2 x) y d h⟩⟩
@[reducible] def CF(b:Bool)(P:Program)(f:FuncId)(xs:List AV)(ks:List Ad)(a:List (Ad×Blk))(M:Option γ)(e:γ->AV)(k:γ->PT os β):PT os β:=
 ⟨.call (e (M.getD default)) ks (k (M.getD default)).a,λE=>(b=true->Hw P E.l E.r f xs a (e (M.getD default)))/\(k (M.getD default)).q E,if(b=true->M.isSome=true)then(k (M.getD default)).m else none,λE=>(∀y,M=some y->Hw P E.C.l E.E.r f xs a (e y))/\∀y,(k y).n E,λE d y hm i=>by
  obtain⟨g,hm⟩:=BB hm;refine⟨λa=>?_,(k _).ok E (d.2 _) y hm i⟩;obtain⟨x,c⟩:=FH.1 (g a);have h:M.getD default=x:=by rw[c];rfl
  rw[h,E.hl];exact d.1 x c⟩
@[reducible] def mv{α:Type}[Rw α](d q:Nat)(xs:List α)(k:PT os β)(a:Nat.ble (q+1) os=true:=by kernel_rfl):PT os β:=
 ⟨.mv d q k.a,λE=>FW (Ac Rw.e xs)/\(q<os/\E.r.no (E.r.κ (0,q)))/\k.q E,k.m,k.n,λE c y hm b=>
  ⟨q7 _ _,⟨Yj a,by rw[E.g.no,E.g.κ];exact E.co.W q (Yj a)⟩,k.ok E c y hm b⟩⟩
@[reducible] def mvc{α:Type}[Rw α](d q e i:Nat)(xs:List α)(k:PT os β)(a:Nat.ble (q+1) os=true:=by kernel_rfl):PT os β:=
 ⟨.mvc d q e i k.a,λE=>FW (Ac Rw.e xs)/\(q<os/\E.r.no (E.r.κ (0,q)))/\k.q E,k.m,k.n,λE c y hm b=>
  ⟨q7 _ _,⟨Yj a,by rw[E.g.no,E.g.κ];exact E.co.W q (Yj a)⟩,k.ok E c y hm b⟩⟩
end
section
variable {P:Program} {os os':Nat} {ys:List AV} {bi:List Blk} {Θ:Cl} {γ:Type} {M:Option γ} {e:γ->AV} {bs:γ->List Blk} {C:Cx} {r:Ren} {y:γ}
theorem Iu{f:FuncId}(K:KO P f os ys bi Θ M e bs)(hy:M=some y){fx:List Nat}(co:COx C os' fx)(g:Gd C r)(c i:List (Ad×Blk)){w:List (Ad×Blk)}{v:Hp}(L:∀p∈w,(v (r.κ p.1)).g=r.γ p.1+p.2.g/\(p.2.live=true->v (r.κ p.1)=AJ r p.1 p.2))(u:∀p∈c,p∈w)
  {G d:List AV} (θ:Nat->AV) (hΘ:∀l' a,Θ (λk=>k∈(c.map (·.1)).map r.κ) l' a θ) (o:∀l H,BE (Cv l ((c.map (·.1)).map r.κ) (Fw r c) θ H) r 0 bi c) (B:bs y=bi:=by rfl) (t:bi.all Blk.live=true:=by kernel_rfl)
  (hx:∀l H,Ao (Cv l ((c.map (·.1)).map r.κ) (Fw r c) θ H) ys=G++d:=by intro l H;kernel_rfl) (D:∀l H,ren (Cv l ((c.map (·.1)).map r.κ) (Fw r c) θ H) (e y)=e y:=by intro l H;kernel_rfl)
  (F:(((c++i).map (·.1)).all (BH os')&&Hr ((c++i).map (·.1))&&Nat.beq c.length os)=true:=by kernel_rfl):B9 P (C.l+1) (λk=>k∈(i.map (·.1)).map r.κ) v (.fn (.func f) [] d) G (e y):=by
 have A:∀b∈bi,b.live=true:=λb w=>Yu.1 t b w;refine⟨f,[],d,rfl,λl' a hl N=>?_⟩;simp only[Yb,D1,List.all_append]at F;obtain⟨⟨⟨E,Q⟩,R⟩,S⟩:=F;have m:=P5 (Vl co g) _ R (by rw[List.all_append,E,Q];rfl);rw[D1,List.nodup_append]at m;have x:∀p∈c,a (r.κ p.1)=v (r.κ p.1):=λp n=>by have hm:r.κ p.1∈(c.map (·.1)).map r.κ:=XF (XF n);exact N _ (US (NP co g _ E) _ hm) λh=>m.2.2 _ hm _ h rfl
 have q:∀p∈c,(a (r.κ p.1)).g=r.γ p.1+p.2.g/\(p.2.live=true->a (r.κ p.1)=AJ r p.1 p.2):=λp n=>by rw[x p n];exact L p (u p n)
 have s:Ko l' ((c.map (·.1)).map r.κ):=by
  have:=NP co g (c.map (·.1)) E;generalize (c.map (·.1)).map r.κ=ks at this
  induction ks with
  |nil=>trivial
  |cons k ks O=>exact⟨D2 this.1 hl,O this.2⟩
 have:=K.k l' a ((c.map (λp:Ad×Blk=>p.1)).map r.κ) (Fw r c) θ (by rw[YF,YF];exact Ye S) s m.1
  (QJ bi c 0 bi (λj=>by have:=Qf bi 0 j;rwa [YX]at this⊢) (o l' a) q) (hΘ l' a) y hy
 rw[He,<-hx l' a];refine this.mono λz T ⟨I,J⟩=>⟨I.trans (D l' a),J.trans ?_⟩;rw[B];exact dP bi c 0 (o l' a) A λp n hl=>(q p n).2 hl
theorem J2{f:FuncId}{xs:List AV}(K:KC P f xs M e)(hy:M=some y){l:Nat}{no:Ad->Prop}{H:Hp}:B9 P l no H (.fn (.func f) [] []) xs (e y):=Zxa λl' a=>K.k l' a y hy
end
theorem Bz{C:Cx}{r:Ren}{os':Nat}{P:Program}{i:Nat}{xs:List AV}{y:AV}{fx:List Nat}(co:COx C os' fx)(g:Gd C r)(m:List (Ad×Blk)){l:Hp}(p:∀k:Ad,k.1<=C.l->¬r.no k->l k=r.H0 k)(h:B9 P C.l C.no C.H0 (C.θ i) xs y)
  (o:((m.map (·.1)).all (BH os'))=true:=by kernel_rfl):B9 P (C.l+1) (λk=>k∈(m.map (·.1)).map r.κ) l (r.θ i) xs y:=by
 rw[g.θ];refine xC h (Nat.le_succ _) (λq f d hm=>?_) λq f d=>?_
 ·obtain⟨k,j,e⟩:=YV.1 hm;rw[g.κ]at e;obtain⟨a,b⟩:=k;rcases GG (Yu.1 o _ j)with c|⟨c,n⟩
  ·simp only at c;subst c;rw[co.ok.own]at e;rw[<-e]at f;simp only at f;omega
  ·simp only at c n;subst c;rw[<-e]at d;exact d (co.W b n)
 ·rw[<-g.H];exact p q f (by rw[g.no];exact d)
theorem GB{r b:Ren}{k k':Ad}{g a:Nat}{e:EK}{sz:Nat}{cs:List AV}(h:IJ cs)(c:r.γ k+g=b.γ k'+a):AJ r k ⟨g,true,e,sz,cs⟩=AJ b k' ⟨a,true,e,sz,cs⟩:=by simp only[AJ,JW h,c]
section
variable {P:Program} {T:Nat->Option TI} {n:Nat} {C:Cx} {τ:St} {Q:Exit->St->Prop} {os k:Nat} {c:Code} {β:Type} {L:β->Prop} {y:β}
theorem ZRG{fx:List Nat}(co:COx C os fx)(o:Ba P T)(m:Nat)(v:PT os β)(lf:Lf)(s:v.m=some y)(j:HL L y)(p:∀r (g:Gd C r),v.n ⟨⟨C.l,r,λ_ τ'=>LO P n C c (k+m) τ' Q,λ_ _=>False⟩,L,C,_,co,g,rfl⟩)
  (q:∀l r Q b,A9 r os v.a τ (λτ a=>Gg P T l n r ((B6 c).toList.map (·.dst)) (Ix m (HA k (B6 c).toList)) [] a (λτ' env d=>A9 r os d (DS env τ') (λτ _=>Ei fx lf τ (Q .normal))) τ)=v.q ⟨l,r,Q,b⟩:=by intro l r Q P;kernel_rfl):LO P n C c k τ Q:=
 ZHI co.ok o co.O co.F m v.a lf (λr Φ=>v.q ⟨C.l,r,λ_=>Φ,λ_ _=>False⟩) (λr Φ=>q _ r (λ_=>Φ) _) λr e f h i=>v.ok _ (p r ⟨e,f,h,i⟩) y s j
theorem ZQv{fx:List Nat}(co:COx C os fx)(m:Ba P T)(v:PT os β)(lf:Lf)(q:v.m=some y)(j:HL L y)(o:∀r (g:Gd C r),v.n ⟨⟨C.l,r,Q,λ_ _=>False⟩,L,C,_,co,g,rfl⟩)
  (p:∀l r Q b,A9 r os v.a τ (λτ a=>Gg P T l n r ((B6 c).toList.map (·.dst)) (HA k (B6 c).toList) [] a (λτ' env d=>A9 r os d (DS env τ') (λτ _=>Ei fx lf τ (Q .normal))) τ)=v.q ⟨l,r,Q,b⟩:=by intro l r Q P;kernel_rfl):LO P n C c k τ Q:=
 z6 co.ok m co.O co.F v.a lf (λr Q=>v.q ⟨C.l,r,Q,λ_ _=>False⟩) (λr Q=>p _ r Q _) λr e f h i=>v.ok _ (o r ⟨e,f,h,i⟩) y q j
theorem ZNR{γ:Type}{M:Option γ}{kk:γ->Option β}{ss:List (Nat×AV)}{hs:List (Ad×Blk)}{fx:List Nat}(co:COx C os fx)(hm:M.bind kk=some y)(f:FuncId)(xs:List AV)(ks:List Ad)(b:List (Ad×Blk))(e:γ->AV)(Av:γ->List (Ad×Blk))(fl:List Ad)
  (l:∀z,FF C (Av z)) (d:Kr (AB hs) fl) (a:∀z,M=some z->∀r,Gd C r->IL P C.l r f xs b (e z) (Av z) [])
  (h:∀z,kk z=some y->LO P n C c (k+1) (Ab (HD (F4 c k) (e z) (Ej [] ss)) (Av z++Dc ((Av z).map (·.1)) [] fl hs)) Q)
  (j:Ht c k=some (F4 c k,callF c k,Hy c k):=by kernel_rfl) (v:ev (Az ss) (callF c k)=.fn (.func f) [] []:=by kernel_rfl) (m:[]++(Hy c k).map (ev (Az ss))++[]=xs:=by kernel_rfl) (g:(ks.map λk=>(k,AB hs k))=b:=by kernel_rfl)
  (i:∀z,(DT os (Av z)&&Mw [] (Av z)&&NQ [] fx&&Iy hs&&Og n (F4 c k)&&ks.all (BH os))=true:=by intro z;kernel_rfl):LO P n C c k (Ab ss hs) Q:=by
 obtain⟨z,o,p⟩:=bind_some hm;exact se co.ok co.O co.F f [] [] xs j v m ks b g (e z) (Av z) [] fl (i z) (l z) d (λr q s t u=>a z o r ⟨q,s,t,u⟩) (h z p)
theorem s6 {f os os':Nat} {ys xs:List AV} {bi:List Blk} {γ:Type} {M:Option γ} {e:γ->AV} {bs:γ->List Blk} {z:γ} {x:AV} {r:Ren} (K:KO P f os ys bi (λ_ _ _ _=>True) M e bs) (hy:M=some z) {fx:List Nat} (co:COx C os' fx) (g:Gd C r) (a d:List (Ad×Blk)) (h:∀H,BE (rC C r a (Az []) H) r 0 bi a:=by
   intro H
   repeat(first|exact trivial|refine⟨λ_=>⟨rfl,GB (Ff _ _) aC⟩,aC,?_⟩|refine⟨λ_=>⟨rfl,GB Ka aC⟩,aC,?_⟩|refine⟨λ_=>⟨rfl,aC⟩,aC,?_⟩))
  (i:bs z=bi:=by rfl) (c:bi.all Blk.live=true:=by kernel_rfl) (b:(a++d).all (λp=>p.2.live)=true:=by kernel_rfl) (hx:∀H,Ao (rC C r a (Az []) H) ys=Ao r xs:=by intro H;kernel_rfl) (j:∀H,ren (rC C r a (Az []) H) (e z)=ren r x:=by intro H;kernel_rfl)
  (k:((a.map (·.1)).all (BH os')&&Hr (a.map (·.1))&&Nat.beq a.length os)=true:=by kernel_rfl):Hw P C.l r f xs (a++d) x:=
 DA K hy co g a d (Az []) (λ_ _ _=>trivial) h i c b hx j k
theorem c6{γ:Type}{M:Option γ}{kk:γ->Option β}{ss:List (Nat×AV)}{hs:List (Ad×Blk)}{f:FuncId}{os':Nat}{ys:List AV}{bi:List Blk}{Θ:Cl}{e0:γ->AV}{bs:γ->List Blk}{fx:List Nat}(co:COx C os fx)(hm:M.bind kk=some y)(K:KO P f os' ys bi Θ M e0 bs)
  (a b:List (Ad×Blk)) (e:γ->AV) (Av:γ->List (Ad×Blk)) (fl:List Ad)
  (h:∀z,kk z=some y->LO P n C c (k+1) (Ab (HD (F4 c k) (e z) (Ej [] ss)) (Av z++Dc ((Av z).map (·.1)) [] fl hs)) Q)
  (θ:Ren->Nat->AV:=λ_=>Az []) (hΘ:∀r,Gd C r->Th Θ C r a (a++b) (θ r):=by intro r g;exact λ_ _ _=>trivial) (xs:List AV:=[]++(Hy c k).map (ev (Az ss))++[])
  (q:∀z,FF C (Av z):=by intro z;repeat(first|exact trivial|refine⟨COx.W ‹_› _ (by decide),?_⟩))
  (j:Kr (AB hs) fl:=by repeat(first|exact trivial|refine⟨Ff _ _,?_⟩))
  (i:∀r H,BE (rC C r a (θ r) H) r 0 bi a:=by
   intro r H
   repeat(first|exact trivial|refine⟨λ_=>⟨rfl,GB (Ff _ _) aC⟩,aC,?_⟩|refine⟨λ_=>⟨rfl,GB Ka aC⟩,aC,?_⟩|refine⟨λ_=>⟨rfl,aC⟩,aC,?_⟩|refine⟨(λh=>nomatch h),aC,?_⟩))
  (d:∀z r H,BE (rC C r a (θ r) H) r 0 (bs z) (Av z):=by
   intro z r H
   repeat(first|exact trivial|refine⟨λ_=>⟨rfl,GB (Ff _ _) aC⟩,aC,?_⟩|refine⟨λ_=>⟨rfl,GB Ka aC⟩,aC,?_⟩|refine⟨λ_=>⟨rfl,aC⟩,aC,?_⟩))
  (hx:∀r H,Ao (rC C r a (θ r) H) ys=Ao r xs:=by intro r H;kernel_rfl) (s:[]++(Hy c k).map (ev (Az ss))++[]=xs:=by kernel_rfl) (t:∀z r H,ren (rC C r a (θ r) H) (e0 z)=ren r (e z):=by intro z r H;kernel_rfl)
  (p:Ht c k=some (F4 c k,callF c k,Hy c k):=by kernel_rfl) (u:ev (Az ss) (callF c k)=.fn (.func f) [] []:=by kernel_rfl)
  (l:(((a++b).map (·.1)).map λk=>(k,AB hs k))=a++b:=by kernel_rfl) (m:∀z,(bs z).all Blk.live=true:=by intro z;kernel_rfl) (he:∀z,a.map (·.1)=(Av z).map (·.1):=by intro z;rfl)
  (v:((a.map (·.1)).all (BH os)&&Hr (a.map (·.1))&&Nat.beq a.length os')=true:=by kernel_rfl)
  (o:∀z,(DT os (Av z)&&Mw [] (Av z)&&NQ [] fx&&Iy hs&&Og n (F4 c k)&&((a++b).map (·.1)).all (BH os))=true:=by intro z;kernel_rfl):LO P n C c k (Ab ss hs) Q:=
 ZNR co hm f xs _ (a++b) e Av fl q j (λz w r g=>ZxH K w co g a b (Av z) (θ r) (hΘ r g) (λH=>i r H) (λH=>d z r H) (m z) (λH=>hx r H) (λH=>t z r H) v (he z)) h p u s l o
theorem ZRv{fx:List Nat}(co:COx C os fx)(v:PT os β)(lf:Lf)(k:v.m=some y)(h:HL L y)(i:∀r (g:Gd C r),v.n ⟨⟨C.l,r,λ_ τ'=>LW P n C c τ' Q,λ_ _=>False⟩,L,C,_,co,g,rfl⟩)
  (j:∀l r Q a,A9 r os v.a τ (λτ _=>Ei fx lf τ (Q .normal))=v.q ⟨l,r,Q,a⟩:=by intro l r Q P;kernel_rfl):LW P n C c τ Q:=
 x7 co.ok co.O co.F v.a lf (λr Φ=>v.q ⟨C.l,r,λ_=>Φ,λ_ _=>False⟩) (λr Φ=>j _ r (λ_=>Φ) _) λr b d e f=>v.ok _ (i r ⟨b,d,e,f⟩) y k h
theorem BQ{q:Prop}[Decidable q]{m:Option β}{G:Prop}(hm:(if q then m else none)=some y)(h:q->m=some y->G):G:=h (BB hm).1 (BB hm).2
theorem rg{c:Code}(h:LO P n C c 0 τ Q)(hs:kb c=true:=by kernel_rfl):LW P n C c τ Q:=ZqX hs h
end
end Go.Eng
namespace Go.Eng
set_option linter.all false
open Go Go.RowKit
section
variable {α β:Type} (P:Program)
def Vp(s:Sem α):Prop:=∀w r a,s.run P w=.ok r a->a=w/\∀w2,s.run P w2=.ok r w2
def Rd(s:Sem α):Prop:=∀w r a,s.run P w=.ok r a->a=w
variable {P}
theorem Vp.rd{s:Sem α}(h:Vp P s):Rd P s:=λw r a e=>(h w r a e).1
theorem Vp.pure(a:α):Vp P (Pure.pure a:Sem α):=λw r b e=>by cases e;exact⟨rfl,λ_=>rfl⟩
theorem Vp.halt(h:Halt):Vp P (.halt h:Sem α):=λw r a e=>by cases e
theorem Vp.program:Vp P Go.program:=λw r a e=>by cases e;exact⟨rfl,λ_=>rfl⟩
theorem Vp.bind{s:Sem α}{f:α->Sem β}(h:Vp P s)(k:∀a,Vp P (f a)):Vp P (s>>=f):=λw r g e=>by
 rw[Sem.run_bind]at e;cases hs:s.run P w with
 |halt x w'=>rw[hs]at e;cases e
 |ok a w'=>
  rw[hs]at e;obtain⟨rfl,b⟩:=h w a w' hs;obtain⟨c,d⟩:=k a _ _ _ e;exact⟨c,λw2=>by rw[Sem.run_bind,b w2];exact d w2⟩
theorem Rd.bind{s:Sem α}{f:α->Sem β}(h:Rd P s)(k:∀a,Rd P (f a)):Rd P (s>>=f):=λw r c e=>by
 rw[Sem.run_bind]at e;cases hs:s.run P w with
 |halt x w'=>rw[hs]at e;cases e
 |ok a w'=>
  rw[hs]at e;have b:=h w a w' hs;subst b;exact k a _ _ _ e
theorem dl(t:TypeId):Vp P (typeInfo t):=by
 unfold typeInfo;refine Vp.program.bind λp=>?_;split
 ·exact .pure _
 ·exact .halt _
theorem JR(t:TypeId):Vp P (underlying t):=by
 unfold underlying;refine Vp.program.bind λp=>?_;split
 ·exact .pure _
 ·exact .halt _
theorem Fi(t:TypeId):Vp P (sizeOf t):=by unfold sizeOf;exact(dl t).bind λ_=>.pure _
theorem Nw(t:TypeId):Vp P (isAgg t):=by unfold isAgg;refine(JR t).bind λd=>?_;split<;>exact .pure _
theorem zj(t:TypeId)(cs:Array Value)(o:Nat):Vp P (part t cs o):=by
 unfold part;refine(Nw t).bind λb=>?_;cases b with
 |true=>exact(Fi t).bind λ_=>.pure _
 |false=>
  show Vp P (match cs[o]? with|some v=>_|none=>_);split
  ·exact .pure _
  ·exact .halt _
theorem TW:∀(l:List FieldStep) (t:TypeId) (x:Option Value),Vp P (followBlind l t x)
 |[],t,x=>.pure _
 |s::a,t,x=>by
  unfold followBlind;refine(JR _).bind λd=>?_;split
  ·split
   ·split
    ·exact .pure _
    ·exact TW a _ _
    ·exact .halt _
    ·exact .pure _
    ·exact(zj _ _ _).bind λ_=>TW a _ _
    ·exact .halt _
    ·exact TW a _ _
   ·exact .halt _
  ·exact .halt _
theorem qL:∀(n:Nat) (t:TypeId) (v:Value) (s:String),Vp P (nilAhead n t v s)
 |0,t,v,s=>.pure _
 |n+1,t,v,s=>by
  unfold nilAhead;refine(dl _).bind λi=>?_;split
  ·refine(TW _ _ _).bind λr=>?_;split
   ·exact .pure _
   ·split
    ·exact qL n _ _ _
    ·exact .pure _
    ·exact .halt _
    ·exact .pure _
    ·exact .pure _
    ·refine(JR _).bind λd=>?_;split<;>exact .pure _
  ·exact .halt _
def VV(P:Program)(s:Sem Next):Prop:=∀w r a,s.run P w=.ok r a->∃v,r=.value v
theorem VV.val{s:Sem Value}:VV P (s>>=λx=>Pure.pure (Next.value x):Sem Next):=λw r b e=>by
 rw[Sem.run_bind]at e;cases hs:s.run P w with
 |halt x w'=>rw[hs]at e;cases e
 |ok a w'=>rw[hs]at e;cases e;exact⟨a,rfl⟩
theorem Vp.val{s:Sem Value}(h:Vp P s):Vp P (s>>=λx=>Pure.pure (Next.value x):Sem Next):=h.bind λ_=>.pure _
theorem Rd.val{s:Sem Value}(h:Rd P s):Rd P (s>>=λx=>Pure.pure (Next.value x):Sem Next):=h.bind λ_=>(Vp.pure _).rd
end
theorem dB{P:Program}(t:TypeId):Vp P (zeroValue t):=by
 unfold zeroValue;refine(dl t).bind λi=>?_;split
 ·exact .pure _
 ·exact .halt _
theorem sX{α β:Type}{P:Program}{f:α->Sem β}(h:∀x,Vp P (f x)):∀l:List α,Vp P (l.mapM f)
 |[]=>by rw[List.mapM_nil];exact .pure _
 |x::l=>by rw[R9];exact(h x).bind λ_=>(sX h l).bind λ_=>.pure _
theorem yD{α β:Type}{P:Program}{f:α->Sem β}(h:∀x,Vp P (f x))(l:Array α):Vp P (l.mapM f):=by rw[iL];exact(sX h _).bind λ_=>.pure _
theorem ZxZ{P:Program}(t:TypeId)(ps:Array (Nat×Value)):Vp P (Instr.build t ps):=by
 unfold Instr.build;refine(dB t).bind λz=>(JR t).bind λd=>?_;split
 ·refine(yD (λf=>(Fi _).bind λ_=>.pure _) _).bind λa=>?_;split
  ·exact .pure _
  ·exact .halt _
 ·refine(Fi _).bind λn=>?_;split
  ·exact .pure _
  ·exact .halt _
 ·exact .halt _
def Nv{α:Type}(P:Program)(s:Sem α):Prop:=∀w r a,s.run P w≠.ok r a
theorem Nv.vp{α:Type}{P:Program}{s:Sem α}(h:Nv P s):Vp P s:=λw r a e=>absurd e (h w r a)
theorem rN{α:Type}{P:Program}(k:IntKind)(x y:Int)(c:BoundsCode):Nv P (boundsPanic k x y c:Sem α):=λw r b e=>by
 unfold boundsPanic at e;dsimp only at e;have d:∀(s:Bool) w r b,(runtimePanic (.bounds (IntKind.i64.wrap x) y s c):Sem α).run P w≠.ok r b:=λs w r b e=>by
  unfold runtimePanic at e;simp only[Sem.run_bind,run_program,Result.andThen_ok]at e
  repeat(first|(cases e;done)|split at e|(simp[goPanic,stuck,unsupported,Sem.run]at e;done))
 split at e
 all_goals
  rw[Sem.run_bind]at e;generalize hs:Sem.run P _ w=q at e;cases q with
  |halt x w'=>cases e
  |ok a w'=>exact d _ _ _ _ e
theorem ZHS{α:Type}{P:Program}:Nv P (runtimePanic .nilDeref:Sem α):=λw r a e=>by
 unfold runtimePanic at e;simp only[Sem.run_bind,run_program,Result.andThen_ok]at e
 repeat(first|(cases e;done)|split at e|(simp[goPanic,stuck,unsupported,Sem.run]at e;done))
theorem rc{P:Program}(v:Value):Vp P (asIntOf v):=by
 unfold asIntOf;split
 ·exact .pure _
 ·exact .halt _
 ·exact .halt _
theorem sW{P:Program}(v:Value):Vp P (Instr.sureAddr v):=by
 unfold Instr.sureAddr;split
 ·exact .pure _
 ·exact .halt _
theorem Zrp{P:Program}(v:Value):Vp P (asAddr v):=by
 unfold asAddr;split
 ·exact .pure _
 ·first|exact ZHS.vp|exact .halt _
 ·exact .halt _
theorem Zk0{P:Program}(x:Value)(y:Nat)(c:BoundsCode):Vp P (Instr.sliceBound x y c):=by
 unfold Instr.sliceBound;refine(rc _).bind λp=>?_;dsimp only;split
 ·exact .pure _
 ·exact(rN _ _ _ _).vp
theorem qy{P:Program}(b:Bool)(n m:Nat)(lo hi a:Option Value):Vp P (Instr.sliceBounds b n m lo hi a):=by
 unfold Instr.sliceBounds;dsimp only
 repeat' (first|exact Vp.pure _|exact Zk0 _ _ _|exact Vp.halt _|refine Vp.bind ?_ λ_=>?_|split)
theorem ZuP{P:Program}(t:TypeId)(x:Value)(lo hi a:Option Value):Vp P (Instr.slice t x lo hi a):=by
 unfold Instr.slice;dsimp only
 repeat' (first|exact Vp.pure _|exact qy _ _ _ _ _ _|exact JR _|exact Fi _|exact Zrp _|exact Vp.halt _|refine Vp.bind ?_ λ_=>?_|split)
theorem ZpX{P:Program}(t:TypeId)(x:Value)(lo hi a:Option Value):Vp P (Instr.sliceAt t x lo hi a):=by
 unfold Instr.sliceAt
 repeat' (first|exact Vp.pure _|exact qy _ _ _ _ _ _|exact JR _|exact Fi _|exact sW _|exact ZuP _ _ _ _ _|exact Vp.halt _|refine Vp.bind ?_ λ_=>?_|split)
theorem ZqY{P:Program}(t:TypeId)(x i:Value):Vp P (Instr.indexAt t x i):=by
 unfold Instr.indexAt;dsimp only
 repeat' (first|exact Vp.pure _|exact rc _|exact JR _|exact Fi _|exact sW _|exact(rN _ _ _ _).vp|exact Vp.halt _|refine Vp.bind ?_ λ_=>?_|split)
theorem ZpN{P:Program}(v:Value)(i:Nat):Vp P (Instr.extract v i):=by
 unfold Instr.extract;split
 ·split
  ·exact .pure _
  ·exact .halt _
 ·exact .halt _
def oV(P:Program)(c:Call):Bool:=match c.callee,c.args.toList,c.argTypes.toList with
 |.builtin .len,[_],[t]=>(match P.underlying t with|some (.slice _)=>true|some .string=>true|_=>false)
 |_,_,_=>false
theorem ZJO{P:Program}{t:TypeId}{ty:TypeId}(x:Value)(h:(match P.underlying t with|some (.slice _)=>true|some .string=>true|_=>false)=true):Vp P (Builtin.len_ #[t] ty #[x]):=by
 unfold Builtin.len_;simp only[iV,Gs];intro w r c e;have a:∃d,P.underlying t=some d/\((∃q,d=.slice q)\/d=.string):=by grind
 obtain⟨d,a,b⟩:=a;simp only[Sem.run_bind,run_underlying a,Result.andThen_ok]at e⊢;rcases b with⟨q,rfl⟩|rfl
 ·cases x<;>first|(cases e;exact⟨rfl,λ_=>rfl⟩)|(cases e;done)
 ·cases x<;>first|(cases e;exact⟨rfl,λ_=>rfl⟩)|(cases e;done)
def DH(P:Program)(o:Oper):Bool:=match o.op with
 |.build _ _=>true
 |.extract _ _=>true
 |.indexAddr _ _ _=>true
 |.slice _ _ _ _ _=>true
 |.makeFunc _ _ _=>true
 |.call c=>oV P c
 |.move _=>true
 |.assign _=>true
 |.nilCheck _=>true
 |.fieldAddr t _ i=>(match P.underlying t with|some (.struct a)=>(match a[i]? with|some f=>!(Nat.beq (P.cellsOf f.type) 0)|none=>false)|_=>false)
 |_=>false
def Dy(P:Program)(o:Oper):Bool:=DH P o||match o.op with|.load _ _=>true|_=>false
section
variable {P:Program} {ρ:Operand->Value} {o:Oper}
theorem UN(h:DH P o=true):Vp P (execOp ρ o)/\VV P (execOp ρ o):=by
 obtain⟨j,op,type,pos,after,guard⟩:=o;cases op<;>simp only[DH]at h<;>first|(cases h;done)|skip
 case move x=>exact⟨.pure _,λw r d e=>by cases e;exact⟨_,rfl⟩⟩
 case assign x=>exact⟨.pure _,λw r d e=>by cases e;exact⟨_,rfl⟩⟩
 case build t ps=>exact⟨(ZxZ _ _).val,VV.val⟩
 case makeFunc f a b=>exact⟨(Vp.pure _).val,VV.val⟩
 case extract x i=>exact⟨(ZpN _ _).val,VV.val⟩
 case indexAddr t x i=>exact⟨(ZqY _ _ _).val,VV.val⟩
 case slice t x a b c=>exact⟨(ZpX _ _ _ _ _).val,VV.val⟩
 case call c=>
  unfold oV at h;split at h
  ·rename_i x t l k n;obtain⟨z,u,D⟩:=c;simp only at l k n;subst l;have A:u=#[x]:=C8 (by simpa using k);have B:D=#[t]:=C8 (by simpa using n);subst A;subst B;have:execOp ρ ⟨j,.call ⟨.builtin .len,#[x],#[t]⟩,type,pos,after,guard⟩=(Builtin.len_ #[t] type #[ρ x]>>=λv=>(Pure.pure (Next.value v):Sem Next)):=(by simp[execOp,resolve,invoke,Go.builtin]);rw[this];exact⟨(ZJO _ h).val,VV.val⟩
  ·cases h
 case nilCheck x=>
  have F:∀v:Value,Vp P (pure (.value v):Sem Next)/\VV P (pure (.value v):Sem Next):=λv=>⟨.pure _,λw r d e=>by cases e;exact⟨_,rfl⟩⟩;have g:Vp P (runtimePanic .nilDeref:Sem Next)/\VV P (runtimePanic .nilDeref:Sem Next):=by
   have:∀w r d,(runtimePanic .nilDeref:Sem Next).run P w≠.ok r d:=λw r d e=>by
    unfold runtimePanic at e;simp only[Sem.run_bind,run_program,Result.andThen_ok]at e
    repeat(first|(cases e;done)|split at e|(simp[goPanic,stuck,unsupported,Sem.run]at e;done))
   exact⟨λw r d e=>absurd e (this w r d),λw r d e=>absurd e (this w r d)⟩
  show Vp P (execOp ρ _)/\_;simp only[execOp];split
  ·exact g
  ·exact g
  ·exact g
  ·split
   ·exact g
   ·refine⟨Vp.program.bind λp=>(qL _ _ _ _).bind λb=>?_,λw r d e=>?_⟩
    ·split
     ·exact .halt _
     grind
    ·simp only[Sem.run_bind,run_program,Result.andThen_ok]at e;cases hs:(nilAhead _ _ _ _).run P w with
     |halt x w'=>rw[hs]at e;cases e
     |ok a w'=>
      rw[hs]at e;simp only[Result.andThen_ok]at e;split at e
      ·cases e
      ·cases e;exact⟨_,rfl⟩
   grind
  ·grind
 case fieldAddr t x i=>
  refine⟨Vp.val ?_,VV.val⟩;unfold Instr.fieldAt;intro w r d e;split at h
  ·rename_i E q;split at h
   ·rename_i f m;have s:P.cellsOf f.type≠0:=λC=>by rw[C]at h;cases h
    have run:∀(ad:Addr) (w:World),(Instr.fieldAt t (.pointer (some ad)) i).run P w=.ok (.pointer (some (ad.add f.offset))) w:=λad w=>by simp[Instr.fieldAt,run_underlying q,m,Instr.sureAddr,fieldPlace,EB s,s]
    have y:∀v:Value,(∀ad,v≠.pointer (some ad))->(Instr.fieldAt t v i).run P w≠.ok r d:=λv G e=>by
     have hs:Instr.sureAddr v=.halt (.stuck "an address expected (no nilCheck in front?)"):=by
      unfold Instr.sureAddr;split
      ·grind
      ·rfl
     simp only[Instr.fieldAt,Sem.run_bind,run_underlying q,Result.andThen_ok,m,hs]at e;cases e
    change (Instr.fieldAt t (ρ x) i).run P w=.ok r d at e;show d=w/\∀w2,(Instr.fieldAt t (ρ x) i).run P w2=.ok r w2;grind
   ·cases h
  ·cases h
theorem UM(a:Addr):Rd P (load a):=λw r b e=>by unfold load at e;simp only[Sem.run]at e;grind
theorem T5(a:Addr):∀(n i:Nat) (b:Array Value),Rd P (loadCellsFrom a i n b)
 |0,i,b=>(Vp.pure _).rd
 |n+1,i,b=>by unfold loadCellsFrom;exact(UM _).bind λv=>T5 a n (i+1) _
theorem dG(t:TypeId)(a:Addr):Rd P (loadVar t a):=by
 unfold loadVar;refine(Nw t).rd.bind λb=>?_;cases b with
 |true=>exact(Fi t).rd.bind λn=>(T5 a n 0 _).bind λ_=>(Vp.pure _).rd
 |false=>exact UM a
theorem Qi(h:Dy P o=true):Rd P (execOp ρ o)/\VV P (execOp ρ o):=by
 unfold Dy at h;rw[YB]at h;rcases h with h|h
 ·obtain⟨c,d⟩:=UN (ρ:=ρ) h;exact⟨c.rd,d⟩
 ·obtain⟨b,op,type,pos,after,guard⟩:=o;cases op<;>simp only at h<;>first|(cases h;done)|skip
  refine⟨Rd.val ?_,VV.val⟩;unfold Instr.loadAt;refine Rd.bind ?_ λa=>dG _ _;unfold Instr.sureAddr;split
  ·exact(Vp.pure _).rd
  ·exact(Vp.halt _).rd
def GV(w a:World):Prop:=∀(k:Nat) (o:Obj),w.heap[k]?=some o->a.heap[k]?=some o
theorem GV.refl(w:World):GV w w:=λ_ _ h=>h
theorem GV.cell{w d:World}{a:Addr}{v:Value}(h:GV w d)(b:w.cell? a=some v):d.cell? a=some v:=by
 unfold World.cell? at b⊢;cases c:w.heap[a.block]? with
 |none=>rw[c]at b;cases b
 |some o=>rw[c]at b;rw[h _ _ c];exact b
theorem GV.seen{w d:World}{p:Program}{at_:Addr}{u:TypeId}{k:Addr}{b:Bool}(h:GV w d){r}(a:w.seen p at_ u k b=.ok r):d.seen p at_ u k b=.ok r:=by
 cases c:w.heap[at_.block]? with
 |none=>
  exfalso;unfold World.seen at a;rw[c]at a;have T:∀(α:Type) (e:String),(MonadExcept.throw e:Except String α)=.error e:=λ_ _=>rfl;simp only[bind,Except.bind,pure,Except.pure,throw,throwThe,T]at a;grind
 |some o=>
  unfold World.seen at a⊢;rw[h _ _ c];grind
theorem GV.far{w i:World}{p:Program}{a:Addr}{b:Bool}(h:GV w i){r}(c:w.farLoad p a b=.ok r):i.farLoad p a b=.ok r:=by
 unfold World.farLoad at c⊢;cases g:w.heap[a.block]? with
 |none=>rw[g]at c;cases c
 |some o=>
  rw[g]at c;rw[h _ _ g];cases o<;>simp only at c⊢<;>first|(cases c;done)|skip
  rename_i d u;cases f:w.viewLoad p d u a b with
  |error e=>rw[f]at c;cases c
  |ok q=>
   rw[f]at c;have:i.viewLoad p d u a b=.ok q:=by
    unfold World.viewLoad at f⊢;cases hs:w.seen p d u a b with
    |error e=>rw[hs]at f;cases f
    |ok z=>rw[hs]at f;rw[h.seen hs];exact f
   grind
variable {α β:Type}
def Gn(P:Program)(s:Sem α):Prop:=∀w r a w2,s.run P w=.ok r a->GV w w2->s.run P w2=.ok r w2
theorem Vp.sta{s:Sem α}(h:Vp P s):Gn P s:=λw r a w2 e _=>(h w r a e).2 w2
theorem Gn.bind{s:Sem α}{f:α->Sem β}(c:Rd P s)(h:Gn P s)(k:∀a,Gn P (f a)):Gn P (s>>=f):=λw r d w2 e hx=>by
 rw[Sem.run_bind]at e⊢;cases hs:s.run P w with
 |halt x w'=>rw[hs]at e;cases e
 |ok a w'=>
  rw[hs]at e;have b:=c w a w' hs;subst b;rw[h _ _ _ _ hs hx];exact k a _ _ _ _ e hx
theorem sj(a:Addr):Gn P (load a):=λw r g w2 e hx=>by
 unfold load at e⊢;simp only[Sem.run]at e⊢;cases d:w.cell? a with
 |some v=>rw[d]at e;rw[hx.cell d];cases e;rfl
 |none=>
  rw[d]at e;cases b:w.farLoad P a (Mode.plain==Mode.atomic)with
  |error x=>rw[b]at e;cases e
  |ok q=>
   have f:w2.cell? a=none:=by
    unfold World.farLoad at b;unfold World.cell?;cases c:w.heap[a.block]? with
    |none=>rw[c]at b;cases b
    |some o=>
     rw[c]at b;rw[hx _ _ c];grind
   rw[b]at e;rw[f,hx.far b];grind
theorem qF(a:Addr):∀(n i:Nat) (b:Array Value),Gn P (loadCellsFrom a i n b)
 |0,i,b=>(Vp.pure _).sta
 |n+1,i,b=>by unfold loadCellsFrom;exact .bind (UM _) (sj _) λv=>qF a n (i+1) _
theorem ZnT(t:TypeId)(a:Addr):Gn P (loadVar t a):=by
 unfold loadVar;refine .bind (Nw t).rd (Nw t).sta λb=>?_;cases b with
 |true=>exact .bind (Fi t).rd (Fi t).sta λn=>.bind (T5 a n 0 _) (qF a n 0 _) λ_=>(Vp.pure _).sta
 |false=>exact sj a
theorem Zv6(h:Dy P o=true):Gn P (execOp ρ o):=by
 unfold Dy at h;rw[YB]at h;rcases h with h|h
 ·exact(UN (ρ:=ρ) h).1.sta
 ·obtain⟨b,op,type,pos,after,guard⟩:=o;cases op<;>simp only at h<;>first|(cases h;done)|skip
  have hs:∀v:Value,Rd P (Instr.sureAddr v)/\Gn P (Instr.sureAddr v):=λv=>by
   unfold Instr.sureAddr;split
   ·exact⟨(Vp.pure _).rd,(Vp.pure _).sta⟩
   ·exact⟨(Vp.halt _).rd,(Vp.halt _).sta⟩
  refine Gn.bind (s:=Instr.loadAt _ _) (Rd.bind (hs _).1 λa=>dG _ _) (.bind (hs _).1 (hs _).2 λa=>ZnT _ _) λ_=>(Vp.pure _).sta
def Ks(o:Oper):Bool:=match o.op with|.buildSlice _ _ _=>true|.alloc _=>true|_=>false
theorem Zu8{w:World}{o:Obj}:GV w {w with heap:=w.heap.push o }:=λk a h=>by grind
def Gr(P:Program)(s:Sem α):Prop:=∀w r a,s.run P w=.ok r a->GV w a
theorem Rd.gr{s:Sem α}(h:Rd P s):Gr P s:=λw r a e=>by rw[h w r a e];exact .refl _
theorem Gr.bind{s:Sem α}{f:α->Sem β}(h:Gr P s)(k:∀a,Gr P (f a)):Gr P (s>>=f):=λw r c e=>by
 rw[Sem.run_bind]at e;cases hs:s.run P w with
 |halt x w'=>rw[hs]at e;cases e
 |ok a w'=>
  rw[hs]at e;exact λq o b=>k a _ _ _ e _ _ (h _ _ _ hs _ _ b)
theorem dS(t:TypeId)(cs:Array Value):Gr P (newRow t cs):=λw r a e=>by unfold newRow newObj at e;cases e;exact Zu8
theorem Zkz(t:TypeId)(n:Nat)(ps:Array (Nat×Value)):Gr P (Instr.buildSlice t n ps):=by
 unfold Instr.buildSlice;refine(JR t).rd.gr.bind λd=>?_;split
 ·refine(Fi _).rd.gr.bind λsize=>?_;by_cases a:n*size>2^24
  ·rw[Ym a];intro w r c e;cases e
  ·rw[Yk a];by_cases b:n*size=0
   ·rw[Ym b];refine Gr.bind (s:=Pure.pure _) (Vp.pure _).rd.gr λz=>?_;dsimp only;split
    ·exact(dS _ _).bind λ_=>(Vp.pure _).rd.gr
    ·exact(Vp.halt _).rd.gr
   ·rw[Yk b];refine(dB _).rd.gr.bind λz=>Gr.bind (s:=Pure.pure _) (Vp.pure _).rd.gr λz=>?_;dsimp only;split
    ·exact(dS _ _).bind λ_=>(Vp.pure _).rd.gr
    ·exact(Vp.halt _).rd.gr
 ·exact(Vp.halt _).rd.gr
theorem yo(h:Ks o=true):Gr P (execOp ρ o)/\VV P (execOp ρ o):=by
 obtain⟨a,op,type,pos,after,guard⟩:=o;cases op<;>simp only[Ks]at h<;>first|(cases h;done)|skip
 case buildSlice=>exact⟨(Zkz _ _ _).bind λ_=>(Vp.pure _).rd.gr,VV.val⟩
 case alloc t=>exact⟨Gr.bind (s:=Instr.alloc _ _ _) ((dB _).rd.gr.bind λz=>Gr.bind (s:=newVar _ _) (dS _ _ |>.bind λ_=>(Vp.pure _).rd.gr) λ_=>(Vp.pure _).rd.gr) λ_=>(Vp.pure _).rd.gr,VV.val⟩
theorem tv(h:(Dy P o||Ks o)=true):Gr P (execOp ρ o)/\VV P (execOp ρ o):=by
 rw[YB]at h;rcases h with h|h
 ·exact⟨(Qi h).1.gr,(Qi h).2⟩
 ·exact yo h
end
def Pm(P:Program)(L:List Oper)(listed:List Nat)(i:Nat)(a:Oper):Nat->List Oper->Bool
 |_,[]=>true
 |j,b::r=>(listed.any (Nat.beq j)||Nat.beq j i||QE L i L.length j||(a.apart L.toArray b&&(DH P a||(Dy P a&&(Dy P b||Ks b)))))&&Pm P L listed i a (j+1) r
def Rh(P:Program)(L:List Oper):List Nat->List Nat->Bool
 |listed,[]=>(List.range L.length).all λj=>listed.any (Nat.beq j)
 |listed,i::b=>(match Bl L i with
  |some a=>!(listed.any (Nat.beq i))&&a.after.toList.all (λe=>!Region.binds .any e||listed.any (Nat.beq e.on))&&(match DH P a with|true=>chkV P L listed i a 0 L|false=>Pm P L listed i a 0 L)
  |none=>false)&&Rh P L (i::listed) b
where chkV (P:Program) (L:List Oper) (listed:List Nat) (i:Nat) (a:Oper):Nat->List Oper->Bool
 |_,[]=>true
 |j,c::r=>(listed.any (Nat.beq j)||Nat.beq j i||c.after.toList.any (λe=>Region.binds .any e&&Nat.beq e.on i)||a.apart L.toArray c)&&chkV P L listed i a (j+1) r
theorem GC{l:List Nat}{j:Nat}:l.any (Nat.beq j)=true↔j∈l:=by rw[YU];exact⟨λ⟨x,hx,h⟩=>Ye h▸hx,λh=>⟨j,h,Sh j⟩⟩
theorem sZ{P:Program}{L:List Oper}{listed:List Nat}{i:Nat}{e:Oper}:∀{r:List Oper} {b k:Nat} {c:Oper},Pm P L listed i e b r=true->r[k]?=some c->
  (b+k)∈listed\/b+k=i\/Waits L.toArray (b+k) i\/(e.apart L.toArray c=true/\(DH P e=true\/Dy P e=true/\(Dy P c||Ks c)=true))
 |[],b,k,c,_,h=>by simp at h
 |q::r,b,k,c,d,h=>by
  unfold Pm at d;rw[Yb]at d;cases k with
  |zero=>
   simp only[Gs,Yn]at h;subst h;have a:=d.1;simp only[YB,Yb]at a;rcases a with((a|a)|a)|a
   ·exact .inl (GC.1 a)
   ·exact .inr (.inl (Ye a))
   ·exact .inr (.inr (.inl (dy _ _ a)))
   grind
  |succ k=>
   have:=sZ (k:=k) d.2 (by simpa using h);grind
theorem tJ{P:Program}{L:List Oper}{listed:List Nat}{i:Nat}{g:Oper}:∀{r:List Oper} {b k:Nat} {c:Oper},Rh.chkV P L listed i g b r=true->r[k]?=some c->
  (b+k)∈listed\/b+k=i\/(∃e∈c.after,Region.binds .any e=true/\e.on=i)\/g.apart L.toArray c=true
 |[],b,k,c,_,h=>by simp at h
 |q::r,b,k,c,d,h=>by
  unfold Rh.chkV at d;rw[Yb]at d;cases k with
  |zero=>
   simp only[Gs,Yn]at h;subst h;have a:=d.1;simp only[YB]at a;rcases a with((a|a)|a)|a
   ·exact .inl (GC.1 a)
   ·exact .inr (.inl (Ye a))
   ·obtain⟨e,he,f⟩:=YU.1 a;rw[Yb]at f;exact .inr (.inr (.inl ⟨e,by simpa using he,f.1,Ye f.2⟩))
   grind
  |succ k=>
   have:=tJ (k:=k) d.2 (by simpa using h);grind
def perm(π:List Nat):Code->Code
 |.region id ops _=>.region id (π.filterMap (Bl ops.toList)).toArray false
 |c=>c
def pb:Value->Option Nat
 |.pointer (some a)=>some a.block
 |_=>none
def EZ(w:World)(b:Nat):Prop:=∃C e f,w.heap[b]?=some (.cells C e f)
section
variable {P:Program} {α β:Type}
theorem uh{v:Value}{a:Addr}{w b:World}(h:(Instr.sureAddr v).run P w=.ok a b):v=.pointer (some a)/\b=w:=by
 unfold Instr.sureAddr at h;split at h
 ·cases h;exact⟨rfl,rfl⟩
 ·cases h
def Lo(b:Nat)(P:Program)(s:Sem α):Prop:=∀w r a w2,s.run P w=.ok r a->EZ w b->w2.heap[b]?=w.heap[b]?->s.run P w2=.ok r w2
theorem Vp.lo{b:Nat}{s:Sem α}(h:Vp P s):Lo b P s:=λw r a w2 e _ _=>(h w r a e).2 w2
theorem Lo.bind{b:Nat}{s:Sem α}{f:α->Sem β}(g:Rd P s)(h:Lo b P s)(k:∀a,Lo b P (f a)):Lo b P (s>>=f):=λw r i w2 e c d=>by
 rw[Sem.run_bind]at e⊢;cases hs:s.run P w with
 |halt x w'=>rw[hs]at e;cases e
 |ok a w'=>
  rw[hs]at e;have:=g w a w' hs;subst this;rw[h _ _ _ _ hs c d];exact k a _ _ _ _ e c d
theorem to(a:Addr):Lo a.block P (load a):=λw r h w2 e ⟨C,t,f,d⟩ c=>by
 unfold load at e⊢;simp only[Sem.run]at e⊢;have g:w2.cell? a=w.cell? a:=World.cell?_of_block c;rw[g];cases b:w.cell? a with
 |some v=>rw[b]at e;cases e;rfl
 |none=>
  rw[b]at e;have:w.farLoad P a (Mode.plain==Mode.atomic)=.error (w.noCell a "load: no such cell"):=by unfold World.farLoad;rw[d]
  grind
theorem qz(a:Addr):∀(n i:Nat) (b:Array Value),Lo a.block P (loadCellsFrom a i n b)
 |0,i,b=>(Vp.pure _).lo
 |n+1,i,b=>by unfold loadCellsFrom;refine .bind (UM _) ?_ λv=>qz a n (i+1) _;have:=to (P:=P) (a.add i);rwa [block_add]at this
theorem Zp7(t:TypeId)(a:Addr):Lo a.block P (loadVar t a):=by
 unfold loadVar;refine .bind (Nw t).rd (Nw t).lo λb=>?_;cases b with
 |true=>exact .bind (Fi t).rd (Fi t).lo λn=>.bind (T5 a n 0 _) (qz a n 0 _) λ_=>(Vp.pure _).lo
 |false=>exact to a
theorem zo{ρ:Operand->Value}{o:Oper}{t:TypeId}{x:Operand}{w w2:World}{v:Value}(g:o.op=.load t x)(e:(execOp ρ o).run P w=.ok (.value v) w):
  ∃b,pb (ρ x)=some b/\(EZ w b->w2.heap[b]?=w.heap[b]?->(execOp ρ o).run P w2=.ok (.value v) w2):=by
 obtain⟨c,op,type,pos,after,guard⟩:=o;cases g;change ((Instr.loadAt t (ρ x))>>=λy=>(pure (Next.value y):Sem Next)).run P w=_ at e;show∃b,pb (ρ x)=some b/\(_->_->((Instr.loadAt t (ρ x))>>=λy=>(pure (Next.value y):Sem Next)).run P w2=_);generalize ρ x=q at e⊢;have:∃a,q=.pointer (some a):=by
  cases hs:(Instr.sureAddr q).run P w with
  |halt _ _=>unfold Instr.loadAt at e;simp only[Sem.run_bind,hs]at e;cases e
  |ok a w'=>exact⟨a,(uh hs).1⟩
 obtain⟨a,rfl⟩:=this;exact⟨a.block,rfl,λd f=>Lo.bind (Rd.bind (Vp.pure a).rd λa=>dG t a) (Zp7 t a) (λ_=>(Vp.pure _).lo) _ _ _ _ e d f⟩
def So(b:Nat)(P:Program)(s:Sem α):Prop:=∀w r a,s.run P w=.ok r a->EZ w b->EZ a b/\∀k,k≠b->a.heap[k]?=w.heap[k]?
theorem Rd.so{b:Nat}{s:Sem α}(h:Rd P s):So b P s:=λw r c e a=>by rw[h w r c e];exact⟨a,λ_ _=>rfl⟩
theorem So.bind{b:Nat}{s:Sem α}{f:α->Sem β}(h:So b P s)(k:∀a,So b P (f a)):So b P (s>>=f):=λw r l e d=>by
 rw[Sem.run_bind]at e;cases hs:s.run P w with
 |halt x w'=>rw[hs]at e;cases e
 |ok a w'=>
  rw[hs]at e;obtain⟨c,g⟩:=h _ _ _ hs d;obtain⟨i,j⟩:=k a _ _ _ e c;grind
theorem Zxj(a:Addr)(v:Value):So a.block P (store a v):=λw r b e ⟨C,t,f,c⟩=>by
 unfold store at e;have key:∀b,b=w.setCell a v->EZ b a.block/\∀k,k≠a.block->b.heap[k]?=w.heap[k]?:=λb e=>by
  subst e;unfold World.setCell;constructor
  ·refine⟨(if a.spot.isSome then C else C.setIfInBounds a.off v),t,f,?_⟩;show(w.heap.modify a.block _)[a.block]?=_;rw[iZ,c];simp
  ·intro k g;show(w.heap.modify a.block _)[k]?=_;rw[iZ];simp[Ne.symm g]
 cases v<;>simp only[Sem.run]at e<;>first
  |(cases e;done)
  |(cases d:w.cell? a with
    |some x=>
     rw[d]at e;simp only at e;split at e
     ·cases e
     ·cases e;exact key _ rfl
    |none=>
     rw[d]at e;unfold World.farStore at e;rw[c]at e;cases e)
theorem qG(a:Addr):∀(vs:List Value) (i:Nat),So a.block P (storeCells a vs i)
 |[],i=>(Vp.pure _).rd.so
 |v::r,i=>by unfold storeCells;refine So.bind ?_ λ_=>qG a r (i+1);have:=Zxj (P:=P) (a.add i) v;rwa [block_add]at this
theorem ZnH(t:TypeId)(a:Addr)(v:Value):So a.block P (storeVar t a v):=by
 unfold storeVar;refine(Fi t).rd.so.bind λn=>?_;by_cases h:v.cells.size≠n
 ·rw[Ym h];intro w r b e;cases e
 ·rw[Yk h];exact qG a _ 0
theorem yf{ρ:Operand->Value}{o:Oper}{t:TypeId}{x y:Operand}{w c:World}{r:Next}(h:o.op=.store t x y)(e:(execOp ρ o).run P w=.ok r c):
  r=.skip/\∃b,pb (ρ x)=some b/\(EZ w b->EZ c b/\∀k,k≠b->c.heap[k]?=w.heap[k]?):=by
 obtain⟨d,op,type,pos,after,guard⟩:=o;cases h;change ((Instr.storeAt t (ρ x) (ρ y))>>=λ_=>(pure Next.skip:Sem Next)).run P w=_ at e;generalize ρ x=q at e⊢;generalize ρ y=v at e;have f:r=.skip:=by
  rw[Sem.run_bind]at e;cases hs:(Instr.storeAt t q v).run P w with
  |halt _ _=>rw[hs]at e;cases e
  |ok _ _=>rw[hs]at e;cases e;rfl
 refine⟨f,?_⟩;have:∃a,q=.pointer (some a):=by
  cases hs:(Instr.sureAddr q).run P w with
  |halt _ _=>unfold Instr.storeAt at e;simp only[Sem.run_bind,hs]at e;cases e
  |ok a w'=>exact⟨a,(uh hs).1⟩
 obtain⟨a,rfl⟩:=this;exact⟨a.block,rfl,λg=>So.bind (ZnH t a v) (λ_=>(Vp.pure _).rd.so) _ _ _ e g⟩
end
def J9(z:Nat):List (Nat×Nat)->Option Nat
 |[]=>none
 |(d,r)::l=>match Nat.beq d z with|true=>some r|false=>J9 z l
theorem Lw{z r:Nat}:∀{l:List (Nat×Nat)},J9 z l=some r->(z,r)∈l
 |(d,q)::l,h=>by
  unfold J9 at h;split at h
  ·rename_i e;cases h;rw[Ye e];exact YJ ..
  ·exact YH _ (Lw h)
def LX:Operand->Option Nat
 |.tmp z=>some z
 |_=>none
def J5(P:Program)(o:Oper):Option Nat:=match DH P o with
 |true=>(match o.op with
  |.fieldAddr _ x _=>LX x
  |.move x=>LX x
  |.nilCheck x=>LX x
  |_=>none)
 |false=>none
def Dp(P:Program)(env:List (Nat×Nat))(o:Oper):List (Nat×Nat):=match o.dst with
 |none=>env
 |some d=>(match J5 P o with|some z=>(match J9 z env with|some r=>[(d,r)]|none=>[])|none=>[])++env.filter λp=>!Nat.beq p.1 d
def Wc(P:Program)(env:List (Nat×Nat))(o:Oper):Bool:=Dy P o||Ks o||match o.op with
 |.store _ (.tmp y) _=>(J9 y env).isSome
 |_=>false
def J(β:Nat->Nat)(env:List (Nat×Nat))(a:Act)(w:World):Prop:=∀p∈env,∀b,pb (a.eval (.tmp p.1))=some b->b=β p.2/\EZ w b
def ub:Next->Option Value
 |.value v=>some v
 |.skip=>some undef
 |_=>none
section
variable {P:Program} {β:Nat->Nat} {env:List (Nat×Nat)} {a:Act} {w w':World} {o:Oper} {n:Next}
theorem sr(h:Wc P env o=true)(l:J β env a w)(e:(execOp a.eval o).run P w=.ok n w'):(∃u,ub n=some u)/\∀b,EZ w b->EZ w' b:=by
 unfold Wc at h;rw[YB]at h;rcases h with h|h
 ·obtain⟨c,d⟩:=tv (ρ:=a.eval) h;obtain⟨v,rfl⟩:=d _ _ _ e;exact⟨⟨v,rfl⟩,λb ⟨C,t,f,g⟩=>⟨C,t,f,c _ _ _ e _ _ g⟩⟩
 ·split at h
  ·rename_i t y v p;obtain⟨rfl,i,c,d⟩:=yf p e;obtain⟨r,q⟩:=FH.1 h;obtain⟨_,j⟩:=l _ (Lw q) _ c;obtain⟨s,k⟩:=d j;refine⟨⟨_,rfl⟩,λb ⟨C,t,f,g⟩=>?_⟩;by_cases m:b=i
   ·grind
   ·exact⟨C,t,f,(k b m).trans g⟩
  ·cases h
theorem Ut{x:Operand}{z:Nat}(h:LX x=some z):x=.tmp z:=by
 cases x<;>simp only[LX]at h<;>first|(cases h;done)|skip
 grind
theorem vK{z:Nat}{b:Nat}{v:Value}(hs:J5 P o=some z)(e:(execOp a.eval o).run P w=.ok (.value v) w')(c:pb v=some b):pb (a.eval (.tmp z))=some b:=by
 unfold J5 at hs;cases d:DH P o with
 |false=>rw[d]at hs;cases hs
 |true=>
  rw[d]at hs;obtain⟨l,op,type,pos,after,guard⟩:=o;cases op<;>simp only at hs<;>first|(cases hs;done)|skip
  case move x=>rw[<-Ut hs];cases e;exact c
  case nilCheck x=>
   rw[<-Ut hs];have s:∀w r k,(runtimePanic .nilDeref:Sem Next).run P w≠.ok r k:=λw r k e=>by
    unfold runtimePanic at e;simp only[Sem.run_bind,run_program,Result.andThen_ok]at e
    repeat(first|(cases e;done)|split at e|(simp[goPanic,stuck,unsupported,Sem.run]at e;done))
   simp only[execOp]at e;split at e
   ·grind
   ·grind
   ·grind
   ·split at e
    ·grind
    ·simp only[Sem.run_bind,run_program,Result.andThen_ok]at e;cases hs:(nilAhead _ _ _ _).run P w with
     |halt x w'=>rw[hs]at e;cases e
     |ok q w'=>
      rw[hs]at e;simp only[Result.andThen_ok]at e;split at e
      ·cases e
      ·cases e;first|exact c|cases c
    ·cases e;first|exact c|cases c
   ·cases e;first|exact c|cases c
  case fieldAddr t x i=>
   rw[<-Ut hs];simp only[DH]at d;split at d
   ·rename_i p h;split at d
    ·rename_i f g;have j:P.cellsOf f.type≠0:=λm=>by rw[m]at d;cases d
     have run:∀(ad:Addr) (w:World),(Instr.fieldAt t (.pointer (some ad)) i).run P w=.ok (.pointer (some (ad.add f.offset))) w:=λad w=>by simp[Instr.fieldAt,run_underlying h,g,Instr.sureAddr,fieldPlace,EB j,j]
     change ((Instr.fieldAt t (a.eval x) i)>>=λy=>(pure (Next.value y):Sem Next)).run P w=_ at e;generalize a.eval x=q at e⊢;by_cases n:∃ad,q=.pointer (some ad)
     ·obtain⟨ad,rfl⟩:=n;rw[Sem.run_bind,run]at e;cases e;simp only[pb,block_add]at c;exact c
     ·exfalso;have hs:Instr.sureAddr q=.halt (.stuck "an address expected (no nilCheck in front?)"):=by
       unfold Instr.sureAddr;split
       ·grind
       ·rfl
      simp only[Instr.fieldAt,Sem.run_bind,run_underlying h,Result.andThen_ok,g,hs]at e;cases e
    grind
   ·cases d
theorem J.put(g:J β env a w)(y:Wc P env o=true)(e:(execOp a.eval o).run P w=.ok n w'){u:Value}(A:ub n=some u):J β (Dp P env o) (a.put o.dst u) w':=by
 have l:=(sr y g e).2;unfold Dp;have ev:∀z:Nat,(∀d,o.dst=some d->z≠d)->(a.put o.dst u).eval (.tmp z)=a.eval (.tmp z):=λz j=>Act.eval_put λd i hx=>j d i (by cases hx;rfl);cases i:o.dst with
 |none=>
  intro p c b f;rw[<-i,ev _ (λd h=>by rw[i]at h;cases h)]at f;exact⟨(g p c b f).1,l _ (g p c b f).2⟩
 |some d=>
  intro p c b f;rw[Hg]at c;rcases c with c|c
  ·split at c
   ·rename_i z j;split at c
    ·rename_i r x;obtain rfl:=Hb.1 c;simp only at f⊢;have q:n=.value u:=by
      have:Dy P o=true:=by
       unfold J5 at j;unfold Dy;cases B:DH P o with
       |true=>rfl
       |false=>rw[B]at j;cases j
      obtain⟨v,rfl⟩:=(Qi (ρ:=a.eval) this).2 _ _ _ e;cases A;rfl
     subst q;have k:pb u=some b:=by
      have:(a.put (some d) u).eval (.tmp d)=u\/(a.put (some d) u).eval (.tmp d)=undef:=by
       simp only[Act.eval,Act.put,Yz,OL];split
       ·rename_i h;split<;>simp_all
       ·simp_all
      rcases this with h|h
      ·rw[h]at f;exact f
      ·rw[h]at f;cases f
     obtain⟨s,t⟩:=g _ (Lw x) _ (vK j e k);exact⟨s,l _ t⟩
    ·cases c
   ·cases c
  ·rw[Hf]at c;have m:p.1≠d:=λhe=>by have:=c.2;rw[he,Sh]at this;cases this
   rw[<-i,ev _ (λd' h=>by rw[i]at h;cases h;exact m)]at f;exact⟨(g p c.1 b f).1,l _ (g p c.1 b f).2⟩
def uV(env:List (Nat×Nat))(o:Oper):Bool:=match o.dst with
 |none=>true
 |some d=>env.all λp=>!Nat.beq p.1 d
theorem J.keep(c:J β env a w)(k:Wc P env o=true)(g:uV env o=true)(e:(execOp a.eval o).run P w=.ok n w'){u:Value}:J β env (a.put o.dst u) w':=by
 have i:=(sr k c e).2;intro p h b f;have:(a.put o.dst u).eval (.tmp p.1)=a.eval (.tmp p.1):=Act.eval_put λd j hx=>by cases hx;unfold uV at g;rw[j]at g;have:=Yu.1 g p h;rw[Sh]at this;cases this
 rw[this]at f;exact⟨(c p h b f).1,i _ (c p h b f).2⟩
end
end Go.Eng
