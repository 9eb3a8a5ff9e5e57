import Derived.Test.YthcplkfhnnlafaaGreatZm08
import Derived.Shelf.Spec.SlicesGrow
import Derived.Test.YthcplkfhnnlafaaGreatZm00
namespace Go.Eng
set_option linter.all false
open Go Go.RowKit
theorem IL{α:Type}(e:α->List D)(x:α)(xs:List α):Ab e (x::xs)=(e x).map .d++Ab e xs:=by simp[Ab]
theorem Q9{α:Type}{e:α->List D}{sz:Nat}(hl:∀x,(e x).length=sz):∀(xs:List α) (j:Nat),(Ab e xs).drop (j*sz)=Ab e (xs.drop j)
 |[],j=>by simp[Ab]
 |x::xs,0=>by simp
 |x::xs,j+1=>by
  have a:((e x).map AV.d).length=sz:=by rw[YF,hl]
  rw[IL,Y3,Nf,PL,<-PS,List.drop_left' a,Q9 hl xs j];rfl
theorem gI{α:Type}{e:α->List D}{sz:Nat}(hl:∀x,(e x).length=sz):∀(xs:List α) (j:Nat),(Ab e xs).take (j*sz)=Ab e (xs.take j)
 |[],j=>by simp[Ab]
 |x::xs,0=>by simp[Ab]
 |x::xs,j+1=>by
  have a:((e x).map AV.d).length=sz:=by rw[YF,hl]
  rw[IL,List.take_succ_cons,IL,Y3,Nf,PL,List.take_append,a,TV,gI hl xs j,J2 ae]
theorem zf{α:Type}{xs:List α}{j:Nat}{z:α}(a:j<xs.length):xs.drop j=xs.getD j z::xs.drop (j+1):=by rw[IH a,Yj,Ye a];rfl
theorem vR{α:Type}{e e':α->List D}{xs:List α}{j sz:Nat}{z:α}(a:j<xs.length)(hl:∀x,(e x).length=sz)(he:∀x,e x=e' x):Er (Ab e xs) (j*sz) ((e' (xs.getD j z)).map .d):=by unfold Er;rw[Q9 hl,zf (z:=z) a,IL,he,List.take_left]
theorem Zng{α:Type}{e e':α->List D}{xs:List α}{j sz o:Nat}{z:α}{c:List AV}(b:j<xs.length)(hl:∀x,(e x).length=sz)(he:∀x,e x=e' x)
  (a:(((e' (xs.getD j z)).map .d).drop o).take c.length=c) (f:o+c.length<=sz):Er (Ab e xs) (j*sz+o) c:=by
 unfold Er;have d:((e' (xs.getD j z)).map AV.d).length=sz:=by rw[YF,<-he,hl]
 rw[<-PS,Q9 hl,zf (z:=z) b,IL,he,aE ae,TU (by rw[DS];omega),a]
theorem ZFh{α:Type}{e:α->List D}{xs:List α}{j sz:Nat}{y:α}(b:j<xs.length)(hl:∀x,(e x).length=sz):Ix (Ab e xs) (j*sz) ((e y).map .d) (Ab e (xs.set j y)):=by
 have a:((e y).map AV.d).length=sz:=by rw[YF,hl]
 have c:(j+1)*sz<=xs.length*sz:=EG _ b;rw[Y3,Nf]at c;refine⟨by rw[a,Gs hl];omega,?_⟩;rw[a,gI hl,show j*sz+sz=(j+1)*sz from by rw[Y3,Nf],Q9 hl,lu,Yi b,Wr,IL,DB]
end Go.Eng
namespace Go.Eng
set_option linter.all false
open Go Go.RowKit
def DH(r:Ren):List (Ad×Blk)->Hp->Hp
 |[],H=>H
 |(k,b)::a,H=>DH r a (updH H (r.κ k) (AP r k b))
def I0(P:Program)(l:Nat)(r:Ren)(f:FuncId)(xs:List AV)(d:List (Ad×Blk))(x:AV)(Av:List (Ad×Blk))(fr:List Ad):Prop:=
 ∀a,(∀p∈d,(a (r.κ p.1)).g=r.γ p.1+p.2.g/\(p.2.live=true->a (r.κ p.1)=AP r p.1 p.2))->(∀k:Ad,k.1<=l->¬r.no k->a k=r.H0 k)->
  Zdm P f (l+1) (Aq r xs) a (λy b=>∃c:Ad->Nat,(∀k,k∉fr->c k=r.γ k)/\y=ren ⟨r.κ,c,r.θ,r.H0,r.no⟩ x/\b=DH ⟨r.κ,c,r.θ,r.H0,r.no⟩ Av a)
mutual
def H3(fr:List Ad):AV->Bool
 |.ref k _ _ _=>fr.any (BM k)
 |.ptr k _ _=>fr.any (BM k)
 |.mp k _=>fr.any (BM k)
 |.fn _ xs ys=>IR fr xs||IR fr ys
 |.agg xs=>IR fr xs
 |.tup xs=>IR fr xs
 |.top=>false
 |.d _=>false
 |.e0=>false
 |.p _=>false
 |.iptr _ _=>false
 |.ifc _ _ _=>false
def IR(fr:List Ad):List AV->Bool
 |[]=>false
 |x::xs=>H3 fr x||IR fr xs
end
def EM(fr:List Ad):List (Nat×AV)->List (Nat×AV)
 |[]=>[]
 |(j,x)::r=>(j,match H3 fr x with|true=>.top|false=>x)::EM fr r
def Ds(ks fr fl:List Ad):List (Ad×Blk)->List (Ad×Blk)
 |[]=>[]
 |(k,b)::r=>match ks.any (BM k),fl.any (BM k)||!IR fr b.cells with
  |false,true=>(k,b)::Ds ks fr fl r
  |_,_=>Ds (k::ks) fr fl r
def Ij:Option Nat->AV->List (Nat×AV)->List (Nat×AV)
 |some d,x,r=>(d,x)::r
 |none,_,r=>r
def BO(os:Nat)(k:Ad):Bool:=Nat.beq k.1 1||(Nat.beq k.1 0&&Nat.ble (k.2+1) os)
def Ea(os:Nat):List (Ad×Blk)->Bool
 |[]=>true
 |(k,b)::r=>BO os k&&b.live&&!(r.any λp=>BM k p.1)&&Ea os r
mutual
theorem wt{r:Ren}{b:Ad->Nat}{fr:List Ad}(a:∀k,k∉fr->b k=r.γ k):∀(x:AV),H3 fr x=false->ren ⟨r.κ,b,r.θ,r.H0,r.no⟩ x=ren r x
 |.ref k g off n,h=>by simp only[H3]at h;simp only[ren];rw[a k (WG h)]
 |.ptr k g off,h=>by simp only[H3]at h;simp only[ren];rw[a k (WG h)]
 |.mp k g,h=>by simp only[H3]at h;simp only[ren];rw[a k (WG h)]
 |.fn f xs ys,h=>by simp only[H3,IF]at h;have c:=Oc a xs h.1;have d:=Oc a ys h.2;cases f<;>simp only[ren,c,d]
 |.agg xs,h=>by simp only[H3]at h;simp only[ren,Oc a xs h]
 |.tup xs,h=>by simp only[H3]at h;simp only[ren,Oc a xs h]
 |.top,_=>by simp[ren]
 |.d _,_=>by simp[ren]
 |.e0,_=>by simp[ren]
 |.p _,_=>by simp[ren]
 |.iptr _ _,_=>by simp[ren]
 |.ifc _ _ _,_=>by simp[ren]
theorem Oc{r:Ren}{b:Ad->Nat}{fr:List Ad}(a:∀k,k∉fr->b k=r.γ k):∀(xs:List AV),IR fr xs=false->Aq ⟨r.κ,b,r.θ,r.H0,r.no⟩ xs=Aq r xs
 |[],_=>by simp[Aq]
 |x::xs,h=>by simp only[IR,IF]at h;simp only[Aq,wt a x h.1,Oc a xs h.2]
theorem WG{k:Ad}{fr:List Ad}(h:fr.any (BM k)=false):k∉fr:=λhm=>by have:fr.any (BM k)=true:=YP.2 ⟨k,hm,CL.2 rfl⟩;grind
end
def Cf:Code->Array Oper
 |.region _ ops _=>ops
 |_=>#[]
def pc:Code->Bool
 |.region _ _ false=>true
 |_=>false
def Ia{α:Type}:Nat->List α->List α
 |0,l=>l
 |_+1,[]=>[]
 |n+1,_::l=>Ia n l
def Jd{α:Type}:Nat->List α->List α
 |0,_=>[]
 |_+1,[]=>[]
 |n+1,x::l=>x::Jd n l
theorem hJ{α:Type}:∀(n:Nat) (l:List α),Ia n l=l.drop n
 |0,l=>rfl
 |n+1,[]=>rfl
 |n+1,x::l=>hJ n l
theorem Wt{α:Type}:∀(n:Nat) (l:List α),Jd n l=l.take n
 |0,l=>rfl
 |n+1,[]=>rfl
 |n+1,x::l=>by rw[Jd,Wt n l];rfl
def LO(P:Program)(n:Nat)(C:Cx)(c:Code)(k:Nat)(τ:St)(Q:Exit->St->Prop):Prop:=
 ∀γ σ a w,C.G γ->RG (C.r γ) C.l C.outs [] τ σ->R C.l n C.B σ a w->wpList P (Cf c) (λe d w'=>∃b,Is n C (Q e) b/\R C.l n C.B b d w') ((Cf c).toList.drop k) a w
def H2(c:Code)(k:Nat):Option (Option Nat×Operand×List Operand):=
 match Bp (Cf c).toList k with
 |some o=>(match o.guard,o.op with
  |none,.call cl=>(match cl.callee with|.value f=>some (o.dst,f,cl.args.toList)|_=>none)
  |_,_=>none)
 |none=>none
def Ga(C:Cx):List (Ad×Blk)->Prop
 |[]=>True
 |(k,_)::r=>match Nat.beq k.1 1 with|true=>Ga C r|false=>C.no (C.κ k)/\Ga C r
def Ll(H:Hp):List Ad->Prop
 |[]=>True
 |k::r=>Jc (H k).cells/\Ll H r
def NN(fr:List Ad)(Av:List (Ad×Blk)):Bool:=fr.all λk=>Av.any λp=>BM k p.1
def OB(fr:List Ad)(fx:List Nat):Bool:=fr.all λk=>!(Nat.beq k.1 0&&fx.any (Nat.beq k.2))
def Ja:List (Ad×Blk)->Bool
 |[]=>true
 |(_,b)::r=>Nat.beq b.g 0&&Ja r
def ti:Option Nat->(Nat->AV)->AV->Nat->AV
 |some d,s,v=>upd s d v
 |none,s,_=>s
def OQ(n:Nat):Option Nat->Bool
 |some d=>Nat.ble (d+1) n
 |none=>true
section
variable {P:Program} {T:Nat->Option TI} {n:Nat} {C:Cx} {τ:St} {Q:Exit->St->Prop}
theorem Zrc{c:Code}(b:pc c=true)(h:LO P n C c 0 τ Q):LW P n C c τ Q:=by
 cases c with
 |region id ops d=>
  cases d with
  |true=>cases b
  |false=>
   obtain⟨i,rfl⟩:∃l:List Oper,ops=l.toArray:=⟨ops.toList,by simp⟩;intro γ σ g e a w f;have:=h γ σ a w g e f;simp only[Cf,HQ]at this;exact wp_region_lit this
 |_=>cases b
theorem ZJY(d:CxOk C)(A:Bi P T){os:Nat}{fx:List Nat}(y:C.outs=os)(v:C.fx=fx){c:Code}{k:Nat}(m:Nat)(a:AT)(lf:Lf)(q:Ren->(St->Prop)->Prop)
  (E:∀r Φ,Bg r os a τ (λτ a=>GS P T C.l n r ((Cf c).toList.map (·.dst)) (Jd m (Ia k (Cf c).toList)) [] a (λτ' env f=>Bg r os f (Eh env τ') (λτ _=>EO fx lf τ Φ)) τ)=q r Φ)
  (h:∀r,r.θ=C.θ->r.H0=C.H0->r.κ=C.κ->r.no=C.no->q r (λτ'=>LO P n C c (k+m) τ' Q)):LO P n C c k τ Q:=by
 subst y;subst v;intro γ σ g w D x z;have o:=h (C.r γ) rfl rfl rfl rfl;rw[<-E]at o;obtain⟨R,p,N,u,i,j⟩:=Cv (n:=n) d a o x;have e:(Cf c).toList.drop k=Jd m (Ia k (Cf c).toList)++(Cf c).toList.drop (k+m):=by rw[Wt,hJ,<-PS,IB]
 rw[e];refine Oe (d.ren γ) A (B:=C.B) _ (λτ' l f U b w' J K L=>?_) _ [] p R N g w u i (j _ _ z);obtain⟨V,s,t⟩:=Q6 (n:=n) K;obtain⟨X,S,W,f1,f2,f3⟩:=Cv (n:=n) d f J s;obtain⟨M,Y,O,F,G,H,I⟩:=IM (n:=n) d f1 D f2;exact G M O b w' F H (I _ _ (f3 _ _ (t _ _ L)))
theorem ZKn(b:CxOk C)(A:Bi P T){os:Nat}{fx:List Nat}(y:C.outs=os)(v:C.fx=fx){c:Code}{k:Nat}(a:AT)(lf:Lf)(q:Ren->(Exit->St->Prop)->Prop)
  (E:∀r Φ,Bg r os a τ (λτ a=>GS P T C.l n r ((Cf c).toList.map (·.dst)) (Ia k (Cf c).toList) [] a (λτ' env d=>Bg r os d (Eh env τ') (λτ _=>EO fx lf τ (Φ .normal))) τ)=q r Φ)
  (h:∀r,r.θ=C.θ->r.H0=C.H0->r.κ=C.κ->r.no=C.no->q r Q):LO P n C c k τ Q:=by
 subst y;subst v;intro γ σ f w D x z;have m:=h (C.r γ) rfl rfl rfl rfl;rw[<-E]at m;obtain⟨O,p,N,u,g,i⟩:=Cv (n:=n) b a m x;have e:(Cf c).toList.drop k=Ia k (Cf c).toList++[]:=by rw[hJ,Iy]
 rw[e];refine Oe (b.ren γ) A (B:=C.B) _ (λτ' l d U j w' J K L=>?_) _ [] p O N f w u g (i _ _ z);obtain⟨V,s,t⟩:=Q6 (n:=n) K;obtain⟨X,S,W,f1,f2,f3⟩:=Cv (n:=n) b d J s;obtain⟨M,R,o,F,G,H,I⟩:=IM (n:=n) b f1 D f2;unfold wpList;exact⟨o,⟨M,R,o,F,G,H,Wk.refl _⟩,I _ _ (f3 _ _ (t _ _ L))⟩
theorem Wx:∀{hs:List (Ad×Blk)},Ja hs=true->∀k,(AF hs k).g=0
 |[],_,k=>rfl
 |(k',b)::r,h,k=>by
  simp only[Ja,Yc]at h;simp only[AF];split
  ·exact Yd h.1
  ·exact Wx h.2 k
theorem xj{k:Ad}{ks:List Ad}:ks.any (BM k)=true↔k∈ks:=by rw[YP];exact⟨λ⟨q,a,b⟩=>by rw[CL.1 b];exact a,λh=>⟨k,h,CL.2 rfl⟩⟩
theorem ZFq(a b:List (Ad×Blk))(k:Ad):AF (a++b) k=if k∈a.map (·.1)then AF a k else AF b k:=by
 induction a with
 |nil=>simp
 |cons p a f=>
  obtain⟨q,d⟩:=p;simp only[HO,AF,YY,Yx];cases c:BM q k with
  |true=>rw[Yi (.inl (CL.1 c).symm)]
  |false=>
   have:k≠q:=λe=>by rw[CL.2 e.symm]at c;cases c
   grind
theorem Q5{fr fl:List Ad}:∀(hs:List (Ad×Blk)) (ks:List Ad) (k:Ad),(k∈ks->AF (Ds ks fr fl hs) k=F1)/\(k∉ks->(AF (Ds ks fr fl hs) k=AF hs k/\(k∈fl\/IR fr (AF hs k).cells=false))\/AF (Ds ks fr fl hs) k=F1)
 |[],ks,k=>⟨λ_=>rfl,λ_=>.inr rfl⟩
 |(q,b)::r,ks,k=>by
  simp only[Ds];split
  ·rename_i d a;have f:q∉ks:=λhm=>by rw[xj.2 hm]at d;cases d
   simp only[AF];cases c:BM q k with
   |true=>
    have c:=CL.1 c;subst c;refine⟨λh=>absurd h f,λ_=>.inl ⟨rfl,?_⟩⟩;simp only[YG,YM]at a;rcases a with a|a
    ·exact .inl (xj.1 a)
    grind
   |false=>exact Q5 r ks k
  ·obtain⟨d,a⟩:=Q5 (fr:=fr) (fl:=fl) r (q::ks) k;refine⟨λh=>d (YI _ h),λh=>?_⟩;by_cases c:k=q
   ·grind
   ·rcases a (λhm=>(Yx.1 hm).elim c h)with⟨i,j⟩|e
    ·have:BM q k=false:=by
      cases g:BM q k with
      |true=>exact absurd (CL.1 g).symm c
      |false=>rfl
     simp only[AF,this];grind
    grind
theorem VZ{r:Ren}:∀(Av:List (Ad×Blk)) (H:Hp) (q:Ad),(∀p∈Av,r.κ p.1≠q)->DH r Av H q=H q
 |[],H,q,h=>rfl
 |(k,b)::a,H,q,h=>by simp only[DH];rw[VZ a _ q (λp c=>h p (YI _ c)),AI _ _ (λe=>h (k,b) (YH ..) e.symm)]
theorem xn{r:Ren}{os:Nat}(d:∀q k:Ad,BO os q=true->BO os k=true->q≠k->r.κ q≠r.κ k):∀(Av:List (Ad×Blk)) (H:Hp),Ea os Av=true->∀k b,(k,b)∈Av->DH r Av H (r.κ k)=AP r k b/\AF Av k=b/\BO os k=true/\b.live=true
 |[],H,_,k,b,hm=>by cases hm
 |(q,c)::rest,H,g,k,b,hm=>by
  simp only[Ea,Yc,YM]at g;obtain⟨⟨⟨i,u⟩,j⟩,m⟩:=g;have f:∀p∈rest,p.1≠q:=λp a e=>by have:(rest.any λp=>BM q p.1)=true:=YP.2 ⟨p,a,CL.2 e.symm⟩;rw[this]at j;cases j
  have h:∀(l:List (Ad×Blk)),Ea os l=true->∀p∈l,BO os p.1=true:=by
   intro l
   induction l with
   |nil=>intro _ p a;cases a
   |cons p l w=>
    obtain⟨x,y⟩:=p;intro hl p a;simp only[Ea,Yc]at hl;rcases Yx.1 a with rfl|a
    ·exact hl.1.1.1
    ·exact w hl.2 p a
  simp only[DH];rcases Yx.1 hm with e|hm
  ·cases e;refine⟨?_,by simp only[AF,CL.2 rfl],i,u⟩;rw[VZ rest _ _ (λp a=>d _ _ (h rest m p a) i (f p a)),AX]
  ·obtain⟨n,o,s,t⟩:=xn d rest (updH H (r.κ q) (AP r q c)) m k b hm;refine⟨n,?_,s,t⟩;have:BM q k=false:=by
    cases v:BM q k with
    |true=>exact absurd (CL.1 v).symm (f _ hm)
    |false=>rfl
   simp only[AF,this];exact o
theorem iT:∀{Av:List (Ad×Blk)},Ga C Av->∀p∈Av,p.1.1≠1->C.no (C.κ p.1)
 |(k,b)::r,h,p,c,a=>by
  simp only[Ga]at h;split at h
  ·rename_i d;rcases Yx.1 c with rfl|c
   ·exact absurd (Yd d) a
   ·exact iT h p c a
  ·rcases Yx.1 c with rfl|c
   ·exact h.1
   ·exact iT h.2 p c a
theorem jM{H:Hp}:∀{ks:List Ad},Ll H ks->∀k∈ks,Jc (H k).cells
 |q::r,h,k,a=>by
  rcases Yx.1 a with rfl|a
  ·exact h.1
  ·exact jM h.2 k a
theorem Ho{os:Nat}{k:Ad}(h:BO os k=true):k.1=1\/(k.1=0/\k.2<os):=by
 simp only[BO,YG,Yc]at h;rcases h with h|⟨a,b⟩
 ·exact .inl (Yd h)
 ·exact .inr ⟨Yd a,Ym b⟩
theorem xi{fr:List Ad}:∀(ss:List (Nat×AV)) (j:Nat),AB (EM fr ss) j=.top\/(AB (EM fr ss) j=AB ss j/\H3 fr (AB ss j)=false)
 |[],j=>.inl rfl
 |(i,x)::r,j=>by
  simp only[EM,AB];split
  ·grind
  ·exact xi r j
theorem Zz1(hC:CxOk C){os:Nat}{fx:List Nat}(hO:C.outs=os)(hF:C.fx=fx){c:Code}{k:Nat}{ss:List (Nat×AV)}{hs:List (Ad×Blk)}(l:Option Nat)(fo:Operand)(aZ:List Operand)(m:H2 c k=some (l,fo,aZ))
  (f:FuncId) (first u xs:List AV) (hf:ev (AB ss) fo=.fn (.func f) first u) (hxs:first++aZ.map (ev (AB ss))++u=xs) (ks:List Ad) (J:List (Ad×Blk)) (hhb:(ks.map λk=>(k,AF hs k))=J)
  {ι:Type} (I:ι->Prop) (xF:ι->AV) (s:ι->List (Ad×Blk)) (fr fl:List Ad) (M:(OB fr fx&&Ja hs&&OQ n l&&ks.all (BO os))=true) (t:∀i,(Ea os (s i)&&NN fr (s i))=true) (H:∀i,Ga C (s i)) (hfl:Ll (AF hs) fl)
  (T:∀r:Ren,r.θ=C.θ->r.H0=C.H0->r.κ=C.κ->r.no=C.no->∀V,(∀p∈J,(V (r.κ p.1)).g=r.γ p.1+p.2.g/\(p.2.live=true->V (r.κ p.1)=AP r p.1 p.2))->(∀k:Ad,k.1<=C.l->¬r.no k->V k=r.H0 k)->
   Zdm P f (C.l+1) (Aq r xs) V (λy W=>∃i,I i/\∃a:Ad->Nat,(∀k,k∉fr->a k=r.γ k)/\y=ren ⟨r.κ,a,r.θ,r.H0,r.no⟩ (xF i)/\W=DH ⟨r.κ,a,r.θ,r.H0,r.no⟩ (s i) V))
  (h:∀i,I i->LO P n C c (k+1) (Ac (Ij l (xF i) (EM fr ss)) (s i++Ds ((s i).map (·.1)) fr fl hs)) Q):LO P n C c k (Ac ss hs) Q:=by
 subst hO;subst hF;simp only[Yc]at M;obtain⟨⟨⟨k3,k4⟩,k5⟩,k6⟩:=M;intro γ σ act w hg z hR;have hr:=hC.ren γ;have hs':∀j,σ.s j=ren (C.r γ) (AB ss j):=λj=>(z.s j).1 A9;have A:∀y:Operand,ev σ.s y=ren (C.r γ) (ev (AB ss) y):=λy=>My (c:=[]) z A9 (by cases y<;>rfl);unfold H2 at m;split at m
 case h_2=>cases m
 rename_i o ho;split at m
 case h_2=>cases m
 rename_i cl hgd hopc;split at m
 case h_2=>cases m
 rename_i fo' hcal;simp only[Yo,HM]at m;obtain⟨hd,rfl,rfl⟩:=m;rw[CC]at ho;have hlt:k<(Cf c).toList.length:=by grind
 have U:(Cf c).toList.drop k=o::(Cf c).toList.drop (k+1):=by rw[IH hlt];grind
 rw[U];have L:∀q k:Ad,BO C.outs q=true->BO C.outs k=true->q≠k->(C.r γ).κ q≠(C.r γ).κ k:=λq k Z h2 h3=>hr.ne (Ho Z) (Ho h2) h3;have hA:=T (C.r γ) rfl rfl rfl rfl σ.H (λp E=>by
  rw[<-hhb]at E;obtain⟨q,g,rfl⟩:=YV.1 E;have hq':=Ho (Yv.1 k6 q g);refine⟨?_,λhl=>z.h q hl⟩;obtain⟨q1,q2⟩:=q;simp only at hq';rcases hq' with rfl|⟨rfl,h2⟩
  ·have:=z.g q2;rw[<-hr.own]at this;exact this
  ·exact z.go q2 h2) z.o
 have S:Aq (C.r γ) xs=Aq (C.r γ) first++cl.args.toList.map (ev σ.s)++Aq (C.r γ) u:=by rw[<-hxs,HX,HX];congr 2;rw[Gt,J8];exact El λy _=>(A y).symm
 have hfe:ev σ.s fo'=.fn (.func f) (Aq (C.r γ) first) (Aq (C.r γ) u):=by rw[A,hf];simp[ren]
 have hrop:BI P C.l n o (λσ'=>∃i,I i/\∃a:Ad->Nat,(∀q,q∉fr->a q=γ q)/\σ'=⟨ti l σ.s (ren (C.r a) (xF i)),DH (C.r a) (s i) σ.H⟩) σ:=by
  unfold BI;rw[hopc];simp only[hcal,hfe];rw[S]at hA;refine hA.mono λy W ⟨i,hi,a,N,e2,e3⟩=>?_;unfold Qx CY;rw[hd];cases l with
  |none=>exact⟨i,hi,a,N,by rw[e3];rfl⟩
  |some d=>exact⟨Ym k5,i,hi,a,N,by rw[e2,e3];rfl⟩
 refine fN (by simp[Region.wanted,hgd]) (Mh hrop) hR λσ' Y w' hK O=>?_;obtain⟨i,hi,a,N,rfl⟩:=hK;have h:=h i hi;have H:=H i;have t:=t i;generalize s i=Av at h H t O;generalize xF i=x at h O;simp only[Yc]at t;obtain⟨k1,k2⟩:=t;have hsub:∀q,q∈fr->∃b,(q,b)∈Av:=λq g=>by obtain⟨p,E,hk⟩:=YP.1 (Yv.1 k2 q g);rw[CL.1 hk];exact⟨p.2,E⟩
 let τ2:St:=Ac (Ij l x (EM fr ss)) (Av++Ds (Av.map (·.1)) fr fl hs);have D:∀q,AF (Av++Ds (Av.map (·.1)) fr fl hs) q=if q∈Av.map (·.1)then AF Av q else AF (Ds (Av.map (·.1)) fr fl hs) q:=λq=>ZFq _ _ _
 have hin:∀q,q∈Av.map (·.1)->∃b,(q,b)∈Av:=λq g=>by obtain⟨p,E,rfl⟩:=YV.1 g;exact⟨p.2,E⟩
 have F:∀q b,(q,b)∈Av->DH (C.r a) Av σ.H ((C.r a).κ q)=AP (C.r a) q b/\AF Av q=b/\BO C.outs q=true/\b.live=true:=xn (r:=C.r a) L Av σ.H k1;have B:∀q,q∉Av.map (·.1)->BO C.outs q=true->DH (C.r a) Av σ.H ((C.r a).κ q)=σ.H ((C.r a).κ q)/\a q=γ q:=λq g v=>by refine⟨VZ _ _ _ λp E=>L _ _ (F p.1 p.2 E).2.2.1 v λe=>g (YV.2 ⟨p,E,e⟩),N q λhf=>?_⟩;grind
 have K:∀q,BO C.outs q=true->(σ.H (C.κ q)).g=γ q->(DH (C.r a) Av σ.H (C.κ q)).g=a q+(AF (Av++Ds (Av.map (·.1)) fr fl hs) q).g:=λq v hq0=>by
  rw[D];split
  ·rename_i hm;obtain⟨b,J⟩:=hin q hm;obtain⟨a1,X,_⟩:=F q b J;rw[show C.κ q=(C.r a).κ q from rfl,a1,X];rfl
  ·rename_i hm;obtain⟨a1,X⟩:=B q hm v;rw[show C.κ q=(C.r a).κ q from rfl,a1,X];have:(AF (Ds (Av.map (·.1)) fr fl hs) q).g=0:=by
    rcases(Q5 (fr:=fr) (fl:=fl) hs (Av.map (·.1)) q).2 hm with⟨e,_⟩|e
    ·rw[e];exact Wx k4 q
    ·rw[e];rfl
   rw[this];exact hq0
 have hG2:RG (C.r a) C.l C.outs [] τ2 ⟨λj=>ren (C.r a) (τ2.s j),DH (C.r a) Av σ.H⟩:=by
  refine⟨λj=>⟨λ_=>rfl,λhn=>absurd A9 hn⟩,λq g=>?_,λd=>?_,λi hi=>?_,λq g=>?_,λq g hn=>?_⟩
  ·show DH (C.r a) Av σ.H ((C.r a).κ q)=AP (C.r a) q (AF (Av++Ds (Av.map (·.1)) fr fl hs) q);replace g:(AF (Av++Ds (Av.map (·.1)) fr fl hs) q).live=true:=g;rw[D]at g⊢;split at g
   ·grind
   ·rename_i hm;rw[Yh hm];rcases(Q5 (fr:=fr) (fl:=fl) hs (Av.map (·.1)) q).2 hm with⟨e,e'⟩|e
    ·rw[e]at g⊢;have v:=z.k q g;have t:BO C.outs q=true:=by
      obtain⟨q1,q2⟩:=q;simp only at v;simp only[BO,YG,Yc];rcases v with rfl|⟨rfl,h2⟩
      ·exact .inl rfl
      ·exact .inr ⟨rfl,lC h2⟩
     obtain⟨a1,X⟩:=B q hm t;rw[a1];have J:=z.h q g;have G:Aq (C.r a) (AF hs q).cells=Aq (C.r γ) (AF hs q).cells:=by
      rcases e' with e'|e'
      ·rw[KN (jM hfl q e'),KN (jM hfl q e')]
      ·exact Oc (r:=C.r γ) N _ e'
     show σ.H ((C.r γ).κ q)=_;rw[J];simp only[AP];rw[G,show(C.r a).γ q=a q from rfl,X];rfl
    ·rw[e]at g;cases g
  ·have:=K (1,d) rfl (by have:=z.g d;rw[show((Ac ss hs).H (1,d)).g=0 from Wx k4 _]at this;rw[hC.own];exact this);rw[hC.own]at this;exact this
  ·exact K (0,i) (by simp only[BO,YG,Yc];exact .inr ⟨rfl,lC hi⟩) (by have:=z.go i hi;rw[show((Ac ss hs).H (0,i)).g=0 from Wx k4 _]at this;exact this)
  ·replace g:(AF (Av++Ds (Av.map (·.1)) fr fl hs) q).live=true:=g;rw[D]at g;split at g
   ·rename_i hm;obtain⟨b,J⟩:=hin q hm;exact Ho (F q b J).2.2.1
   ·rename_i hm;rcases(Q5 (fr:=fr) (fl:=fl) hs (Av.map (·.1)) q).2 hm with⟨e,e'⟩|e
    ·rw[e]at g;exact z.k q g
    ·rw[e]at g;cases g
  ·show DH (C.r a) Av σ.H q=C.H0 q;rw[VZ _ _ _ λp E e=>?_]
   ·exact z.o q g hn
   ·by_cases Z:p.1.1=1
    ·obtain⟨⟨p1,p2⟩,p3⟩:=p;simp only at Z;subst Z;rw[show(C.r a).κ (1,p2)=(C.l+1,p2)from hC.own p2]at e;grind
    ·exact hn (by rw[<-e];exact iT H p E Z)
 refine h a _ Y w' (hC.G γ a (λi hi=>N _ λhm=>?_) hg) hG2 (R.weaken O λj=>?_)
 ·have:=Yv.1 k3 _ hm;simp only[YM,IC]at this;rcases this with h|h
  ·cases h
  ·have:(C.fx.any (Nat.beq i))=true:=YP.2 ⟨i,hi,by simp⟩;grind
 ·have old:ren (C.r a) (AB (EM fr ss) j)=σ.s j\/ren (C.r a) (AB (EM fr ss) j)=.top:=by
   rcases xi (fr:=fr) ss j with e|⟨e,e'⟩
   ·right;rw[e];simp[ren]
   ·left;rw[e,hs' j];exact wt (r:=C.r γ) N _ e'
  show ren (C.r a) (AB (Ij l x (EM fr ss)) j)=_\/ren (C.r a) (AB (Ij l x (EM fr ss)) j)=.top;cases l with
  |none=>exact old
  |some d=>
   simp only[Ij,AB,ti,upd];cases hj:Nat.beq d j with
   |true=>
    have:=Yd hj;grind
   |false=>
    have:j≠d:=λe=>by rw[e]at hj;simp at hj
    grind
theorem ZFY(D:CxOk C){os:Nat}{fx:List Nat}(F:C.outs=os)(E:C.fx=fx){c:Code}{k:Nat}{ss:List (Nat×AV)}{hs:List (Ad×Blk)}(e:Option Nat)(l:Operand)(j:List Operand)(q:H2 c k=some (e,l,j))
  (f:FuncId) (first d xs:List AV) (G:ev (AB ss) l=.fn (.func f) first d) (t:first++j.map (ev (AB ss))++d=xs) (ks:List Ad) (m:List (Ad×Blk)) (p:(ks.map λk=>(k,AF hs k))=m)
  (x:AV) (Av:List (Ad×Blk)) (fr fl:List Ad) (i:(Ea os Av&&NN fr Av&&OB fr fx&&Ja hs&&OQ n e&&ks.all (BO os))=true) (s:Ga C Av) (o:Ll (AF hs) fl)
  (g:∀r:Ren,r.θ=C.θ->r.H0=C.H0->r.κ=C.κ->r.no=C.no->I0 P C.l r f xs m x Av fr)
  (h:LO P n C c (k+1) (Ac (Ij e x (EM fr ss)) (Av++Ds (Av.map (·.1)) fr fl hs)) Q):LO P n C c k (Ac ss hs) Q:=by
 simp only[Yc]at i;obtain⟨⟨⟨⟨⟨I,J⟩,K⟩,L⟩,M⟩,N⟩:=i;exact Zz1 D F E e l j q f first d xs G t ks m p (ι:=Unit) (λ_=>True) (λ_=>x) (λ_=>Av) fr fl (by simp only[Yc];exact⟨⟨⟨K,L⟩,M⟩,N⟩) (λ_=>by simp only[Yc];exact⟨I,J⟩) (λ_=>s) o
  (λr w z A B u a b=>(g r w z A B u a b).mono λy v H=>⟨(),trivial,H⟩) λ_ _=>h
end
def ED(l:Nat)(ks:List Ad):Ad->Ad
 |(0,i)=>match Bp ks i with|some k=>k|none=>(0,0)
 |(_+1,d)=>(l+1,d)
def It(a:List Nat):Ad->Nat
 |(0,i)=>match Bp a i with|some g=>g|none=>0
 |(_+1,_)=>0
def CI(l:Nat)(ks:List Ad)(a:List Nat)(θ:Nat->AV)(H:Hp):Ren:=⟨ED l ks,It a,θ,H,λk=>k∈ks⟩
def J1(l:Nat)(ks:List Ad)(a:List Nat)(r:Ren):Prop:=r.κ=ED l ks/\∀i,i<ks.length->r.γ (0,i)=It a (0,i)
def Dk(r:Ren):Nat->List Blk->List Blk
 |_,[]=>[]
 |i,b::a=>AP r (0,i) b::Dk r (i+1) a
def Ed(H:Hp):List Ad->List Blk->Hp
 |k::ks,b::a=>Ed (updH H k b) ks a
 |_,_=>H
theorem fV:∀(ks:List Ad) (a:List Blk) (H:Hp) (q:Ad),q∉ks->Ed H ks a q=H q
 |[],a,H,q,h=>by cases a<;>rfl
 |k::ks,[],H,q,h=>rfl
 |k::ks,b::a,H,q,h=>by simp only[Ed];rw[fV ks a _ q (λhm=>h (YI _ hm)),AI _ _ (λe=>h (by rw[e];exact YH ..))]
theorem zC:∀(ks:List Ad) (a:List Blk) (H:Hp),ks.Nodup->∀(j:Nat) (k:Ad) (b:Blk),ks[j]?=some k->a[j]?=some b->Ed H ks a k=b
 |[],a,H,_,j,k,b,h,_=>by simp at h
 |q::ks,[],H,_,_,_,_,_,h=>by simp at h
 |q::ks,c::a,H,e,j,k,b,d,hb=>by
  simp only[Ed];rw[List.nodup_cons]at e;cases j with
  |zero=>
   simp only[G7,Yo]at d hb;subst d;subst hb;rw[fV ks a _ _ e.1,AX]
  |succ j=>
   simp only[M9]at d hb;exact zC ks a _ e.2 j k b d hb
theorem xT{r:Ren}:∀(a:List Blk) (i j:Nat),(Dk r i a)[j]?=(a[j]?).map (AP r (0,i+j))
 |[],i,j=>by simp[Dk]
 |b::a,i,0=>by simp[Dk]
 |b::a,i,j+1=>by simp only[Dk,M9,xT a (i+1) j,show i+1+j=i+(j+1)from by omega]
theorem vQ{P:Program}{T:Nat->Option TI}{n:Nat}{f:FuncId}{fn:Func}(J:List ResultVar)(c:Code){l:Nat}{xs:List AV}{H:Hp}{g:AV->Hp->Prop}(ks:List Ad)(t:List Nat)(fx:List Nat)(θ:Nat->AV)(ys:List AV)(hs:List (Ad×Blk))(LPost:AV->List Blk->Prop)
  (V:P.funcs[f]?=some fn) (hb:fn.body=some c) (s:(fn.name== "runtime.NumGoroutine")=false) (Z:fn.ntmps=n) (hr:fn.results.toList=J) (hx:xs.length<=n) (S:Bi P T)
  (D:∀k∈ks,k.1<=l) (u:ks.Nodup) (W:∀d,AF hs (1,d)=F1) (F:∀k,(AF hs k).live=true->k.1=0/\k.2<ks.length)
  (R:∀i k,ks[i]?=some k->(H k).g=It t (0,i)+(AF hs (0,i)).g/\((AF hs (0,i)).live=true->H k=AP (CI l ks t θ H) (0,i) (AF hs (0,i))))
  (I:Aq (CI l ks t θ H) ys=xs)
  (h:∀C,CxOk C->C.outs=ks.length->C.fx=fx->C.l=l->C.H0=H->C.θ=θ->C.κ=ED l ks->C.no=(λk=>k∈ks)->LW P n C c (Ac (D7 0 ys) hs) (FQ T J ks.length LPost))
  (v:∀y b,LPost y b->b.length=ks.length/\(∀x∈b,x.live=true)/\∀r:Ren,r.κ=ED l ks->r.θ=θ->r.H0=H->r.no=(λk=>k∈ks)->(∀i∈fx,r.γ (0,i)=It t (0,i))->g (ren r y) (Ed H ks (Dk r 0 b))):Zdm P f l xs H g:=by
 let C:Base->Cx:=λB=>⟨l,B,ED l ks,θ,H,ks.length,λk=>k∈ks,fx,λγ=>∀i∈fx,γ (0,i)=It t (0,i)⟩;have a:∀i,i<ks.length->ks[i]?=some (ED l ks (0,i)):=λi hi=>by show _=some (match Bp ks i with|some k=>k|none=>(0,0));rw[CC,Ye hi]
 have E:∀(i:Nat) (k:Ad),ks[i]?=some k->i<ks.length:=λi k hi=>by grind
 have K:∀B,CxOk (C B):=λB=>by
  refine⟨λ_=>rfl,λi hi=>D _ (Yg (a i hi)),λi j hi Y e=>?_,λk w=>?_,λγ γ' he A i hi=>by rw[he i hi];exact A i hi⟩
  ·have m:=a i hi;have o:=a j Y;rw[show ED l ks (0,i)=ED l ks (0,j)from e]at m;have Q:ks[i]?=ks[j]?:=m.trans o.symm;exact(List.getElem?_inj hi u).1 Q
  ·obtain⟨i,hi⟩:=YJ.1 (show k∈ks from w);grind
 refine xy J C (γ:=It t) (LPost:=LPost) (ys:=ys) (hs:=hs) V hb s Z hr hx S K (λB=>⟨rfl,rfl,rfl,λi _=>rfl⟩) (λB=>I) (λ_=>rfl) W (λB k w=>?_) (λB i hi=>?_) (λB γ y b N A hy L _=>?_) (λB=>h _ (K B) rfl rfl rfl rfl rfl rfl rfl)
 ·obtain⟨m,o⟩:=F k w;obtain⟨k1,M⟩:=k;simp only at m o;subst m;exact⟨rfl,o,(R M _ (a M o)).2 w⟩
 ·grind
 ·obtain⟨U,z,v⟩:=v y b hy;have v:=v ((C B).r γ) rfl rfl rfl rfl λi hi=>A i hi;have O:N=Ed H ks (Dk ((C B).r γ) 0 b):=by
   funext q;by_cases G:q∈ks
   ·obtain⟨i,hi⟩:=YJ.1 G;have X:=E i q hi;have p:b[i]?=some b[i]:=Ye ae;have m:=L.live i _ p (z _ (Yg p));have o:ED l ks (0,i)=q:=(by grind);rw[show(C B).κ (0,i)=q from o]at m;rw[m,zC ks _ H u i q (AP ((C B).r γ) (0,i) b[i]) hi];rw[xT,p,YU];rfl
   ·rw[fV ks _ H q G];exact L.o q G
  rw[O];exact v
theorem Zn7{P:Program}{T:Nat->Option TI}{n:Nat}{f:FuncId}{fn:Func}(w:List ResultVar)(c:Code){l:Nat}{xs:List AV}{H:Hp}{a:AV->Hp->Prop}(ks:List Ad)(e:List Nat)(fx:List Nat)(θ:Nat->AV)(ys:List AV)(hs:List (Ad×Blk))(LPost:AV->List Blk->Prop)
  (G:P.funcs[f]?=some fn) (hb:fn.body=some c) (g:(fn.name== "runtime.NumGoroutine")=false) (J:fn.ntmps=n) (K:fn.results.toList=w) (hx:xs.length<=n) (E:Bi P T)
  (q:∀k∈ks,k.1<=l) (t:ks.Nodup) (p:∀i,i<ks.length->i∈fx) (I:∀d,AF hs (1,d)=F1) (s:∀k,(AF hs k).live=true->k.1=0/\k.2<ks.length)
  (D:∀i k,ks[i]?=some k->(H k).g=It e (0,i)+(AF hs (0,i)).g/\((AF hs (0,i)).live=true->H k=AP (CI l ks e θ H) (0,i) (AF hs (0,i))))
  (v:Aq (CI l ks e θ H) ys=xs)
  (h:∀C,CxOk C->C.outs=ks.length->C.fx=fx->C.l=l->C.H0=H->C.θ=θ->C.κ=ED l ks->C.no=(λk=>k∈ks)->LW P n C c (Ac (D7 0 ys) hs) (FQ T w ks.length LPost))
  (u:∀y b,LPost y b->b.length=ks.length/\(∀x∈b,x.live=true)/\∃Y' bs',(∀r,J1 l ks e r->ren r y=Y')/\(∀r,J1 l ks e r->Dk r 0 b=bs')/\a Y' (Ed H ks bs')):Zdm P f l xs H a:=by
 refine vQ w c ks e fx θ ys hs LPost G hb g J K hx E q t I s D v h λy b hy=>?_;obtain⟨m,o,Y',bs',F,B,u⟩:=u y b hy;refine⟨m,o,λr z _ _ _ A=>?_⟩;have j:J1 l ks e r:=⟨z,λi hi=>A i (p i hi)⟩;rw[F _ j,B _ j];exact u
theorem Zq8{P:Program}{T:Nat->Option TI}{n:Nat}{f:FuncId}{fn:Func}(v:List ResultVar)(c:Code){l:Nat}{xs:List AV}{H:Hp}{a:AV->Hp->Prop}(ks:List Ad)(g:List Nat)(fx:List Nat)(θ:Nat->AV)(ys:List AV)(hs:List (Ad×Blk))(Y:AV)(j:List Blk){Y':AV}{bs':List Blk}
  (E:P.funcs[f]?=some fn) (hb:fn.body=some c) (e:(fn.name== "runtime.NumGoroutine")=false) (G:fn.ntmps=n) (J:fn.results.toList=v) (hx:xs.length<=n) (B:Bi P T)
  (q:∀k∈ks,k.1<=l) (t:ks.Nodup) (p:∀i,i<ks.length->i∈fx) (F:∀d,AF hs (1,d)=F1) (s:∀k,(AF hs k).live=true->k.1=0/\k.2<ks.length)
  (A:∀i k,ks[i]?=some k->(H k).g=It g (0,i)+(AF hs (0,i)).g/\((AF hs (0,i)).live=true->H k=AP (CI l ks g θ H) (0,i) (AF hs (0,i))))
  (u:Aq (CI l ks g θ H) ys=xs) (m:j.length=ks.length) (o:∀b∈j,b.live=true) (D:∀r,J1 l ks g r->ren r Y=Y') (z:∀r,J1 l ks g r->Dk r 0 j=bs')
  (h:∀C,CxOk C->C.outs=ks.length->C.fx=fx->C.l=l->C.H0=H->C.θ=θ->C.κ=ED l ks->C.no=(λk=>k∈ks)->LW P n C c (Ac (D7 0 ys) hs) (FQ T v ks.length (λy b=>y=Y/\b=j)))
  (I:a Y' (Ed H ks bs')):Zdm P f l xs H a:=by
 exact Zn7 v c ks g fx θ ys hs (λy b=>y=Y/\b=j) E hb e G J hx B q t p F s A u h λy b ⟨w,x⟩=>by subst w;subst x;exact⟨m,o,Y',bs',D,z,I⟩
section
variable {P:Program} {l:Nat} {r:Ren} {f:FuncId} {xs xs':List AV} {hb Av:List (Ad×Blk)} {x x':AV}
theorem ZzP(e:Aq r xs=xs')(g:ren r x=x')(h:∀a,(∀p∈hb,(a (r.κ p.1)).g=r.γ p.1+p.2.g/\(p.2.live=true->a (r.κ p.1)=AP r p.1 p.2))->(∀k:Ad,k.1<=l->¬r.no k->a k=r.H0 k)->Zdm P f (l+1) xs' a (λy b=>y=x'/\b=DH r Av a)):
  I0 P l r f xs hb x Av []:=λa hb i=>by
 rw[e];exact(h a hb i).mono λy b ⟨c,d⟩=>⟨r.γ,λ_ _=>rfl,by rw[c,<-g],d⟩
end
theorem ZzK{α:Type}{e:α->List D}{r:Ren}{k:Ad}(xs:List α):GN r k (Ab e xs):=by unfold GN;rw[KN (FI e xs)];refine Yv.2 λx hx=>?_;obtain⟨d,_,rfl⟩:=YV.1 hx;rfl
theorem yd{r:Ren}{k:Ad}{vs:List AV}(h:(Aq r vs).all (AV.low (r.κ k).1)=true):GN r k vs:=h
theorem HY{r:Ren}{k:Ad}(ds:List D):GN r k (ds.map .d):=by unfold GN;rw[IX];refine Yv.2 λx hx=>?_;obtain⟨d,_,rfl⟩:=YV.1 hx;rfl
theorem wh{α:Type}(e:α->List D)(xs:List α):Gx (Ab e xs):=λx hx=>by obtain⟨d,_,rfl⟩:=YV.1 hx;rfl
theorem Zzg{α:Type}{e:α->List D}{xs:List α}{off cn sz:Nat}{z:List AV}(hl:∀x,(e x).length=sz)(h:off+cn<=xs.length):
  dN (Ab e xs) off cn sz z ((Ab e xs).take (off*sz)++(List.replicate cn z).flatten++(Ab e xs).drop ((off+cn)*sz)):=by
 refine⟨?_,rfl⟩;rw[Gs hl];exact EG _ h
theorem ZAc{α:Type}{e:α->List D}{xs:List α}{off sz:Nat}{A B:List AV}(hl:∀x,(e x).length=sz)(h:off<=xs.length):∃m,((Ab e xs).take (off*sz)++A++B).take m=Ab e (xs.take off):=by
 refine⟨off*sz,?_⟩;have a:((Ab e xs).take (off*sz)).length=off*sz:=by rw[Yz,Gs hl];exact Gc (EG _ h)
 rw[DB,TU ae,J2 ae,gI hl]
def JD(n:Nat):List (Ad×Blk)->Bool
 |[]=>true
 |(k,_)::r=>Nat.beq k.1 0&&Nat.ble (k.2+1) n&&JD n r
theorem ij{n:Nat}:∀{hs:List (Ad×Blk)},JD n hs=true->∀k,(AF hs k).live=true->k.1=0/\k.2<n
 |[],_,k,h=>by simp[AF,F1]at h
 |(q,b)::r,hi,k,h=>by
  simp only[JD,Yc]at hi;simp only[AF]at h;split at h
  ·rename_i a;have a:=CL.1 a;subst a;exact⟨Yd hi.1.1,Ym hi.1.2⟩
  ·exact ij hi.2 k h
theorem gL{n:Nat}:∀{hs:List (Ad×Blk)},JD n hs=true->∀d,AF hs (1,d)=F1
 |[],_,d=>rfl
 |(q,b)::r,hi,d=>by
  simp only[JD,Yc]at hi;simp only[AF];split
  ·rename_i a;have a:=CL.1 a;subst a;have:=Yd hi.1.1;grind
  ·exact gL hi.2 d
def Lx(H:Hp)(r:Ren)(hs:List (Ad×Blk)):Nat->List Ad->Prop
 |_,[]=>True
 |i,k::ks=>((H k).g=r.γ (0,i)+(AF hs (0,i)).g/\((AF hs (0,i)).live=true->H k=AP r (0,i) (AF hs (0,i))))/\Lx H r hs (i+1) ks
theorem jj{H:Hp}{r:Ren}{hs:List (Ad×Blk)}:∀{ks:List Ad} {i:Nat},Lx H r hs i ks->∀j k,ks[j]?=some k->(H k).g=r.γ (0,i+j)+(AF hs (0,i+j)).g/\((AF hs (0,i+j)).live=true->H k=AP r (0,i+j) (AF hs (0,i+j)))
 |[],i,_,j,k,h=>by simp at h
 |q::ks,i,h,0,k,a=>by simp only[G7,Yo]at a;subst a;exact h.1
 |q::ks,i,h,j+1,k,a=>by have:=jj h.2 j k (by simpa using a);grind
def Kf(l:Nat):List Ad->Prop
 |[]=>True
 |k::ks=>k.1<=l/\Kf l ks
theorem WD{l:Nat}:∀{ks:List Ad},Kf l ks->∀k∈ks,k.1<=l
 |q::ks,h,k,a=>by
  rcases Yx.1 a with rfl|a
  ·exact h.1
  ·exact WD h.2 k a
def Km:Nat->List Nat
 |0=>[]
 |n+1=>Km n++[n]
theorem Ww:∀{n i:Nat},i<n->i∈Km n
 |n+1,i,h=>by
  simp only[Km,DT,Y5];rcases YN i n with a|a
  ·exact .inl (Ww a)
  grind
theorem ZoM{P:Program}{T:Nat->Option TI}{n:Nat}{f:FuncId}{fn:Func}(u:List ResultVar)(c:Code){l:Nat}{xs:List AV}{H:Hp}{a:AV->Hp->Prop}(ks:List Ad)(g:List Nat)(os:Nat)(θ:Nat->AV)(ys:List AV)(hs:List (Ad×Blk))(Y:AV)(e:List Blk){Y':AV}{bs':List Blk}
  (A:P.funcs[f]?=some fn) (hb:fn.body=some c) (d:(fn.name== "runtime.NumGoroutine")=false) (D:fn.ntmps=n) (F:fn.results.toList=u) (hx:xs.length<=n) (x:Bi P T) (s:ks.length=os)
  (p:Kf l ks) (q:ks.Nodup) (j:JD os hs=true) (w:Lx H (CI l ks g θ H) hs 0 ks) (t:Aq (CI l ks g θ H) ys=xs) (m:e.length=os) (o:∀b∈e,b.live=true) (z:∀r,J1 l ks g r->ren r Y=Y') (v:∀r,J1 l ks g r->Dk r 0 e=bs')
  (h:∀C,CxOk C->C.outs=os->C.fx=Km os->C.l=l->C.H0=H->C.θ=θ->C.κ=ED l ks->C.no=(λk=>k∈ks)->LW P n C c (Ac (D7 0 ys) hs) (FQ T u os (λy b=>y=Y/\b=e)))
  (E:a Y' (Ed H ks bs')):Zdm P f l xs H a:=by
 subst s;exact Zq8 u c ks g (Km ks.length) θ ys hs Y e A hb d D F hx x (WD p) q (λi hi=>Ww hi) (gL j) (ij j) (λi k B=>by have:=jj w i k B;rw[YU]at this;exact this) t m o z v h E
theorem ZqG{α:Type}{e e':α->List D}{xs:List α}{j sz:Nat}{x:α}(hx:xs[j]?=some x)(hl:∀x,(e x).length=sz)(he:∀x,e x=e' x):Er (Ab e xs) (j*sz) ((e' x).map .d):=by
 have a:j<xs.length:=by grind
 have:=vR (z:=x) a hl he;grind
theorem ZDa{P:Program}{l o:Nat}{no b:Ad->Prop}{H j:Hp}{c:AV}{m:List AV}{y:AV}(h:B6 P l no H c m y)(hl:l<=o)(i:∀q:Ad,q.1<=l->¬no q->¬b q)(r:∀q:Ad,q.1<=l->¬no q->j q=H q):B6 P o b j c m y:=by obtain⟨f,first,a,e,h⟩:=h;exact⟨f,first,a,e,λl' p g s=>h l' p (EF hl g) λk d n=>by rw[s k (EF d hl) (i k d n),r k d n]⟩
def nD:Code->Operand
 |.cond o _ _=>o
 |_=>.tmp 0
def GB(c:Code)(k:Nat):Option Nat:=match H2 c k with|some (d,_,_)=>d|none=>none
def callF(c:Code)(k:Nat):Operand:=match H2 c k with|some (_,f,_)=>f|none=>.tmp 0
def H4(c:Code)(k:Nat):List Operand:=match H2 c k with|some (_,_,xs)=>xs|none=>[]
theorem xd{P:Program}{n:Nat}{C:Cx}{Q:Exit->St->Prop}(m:CxOk C){os:Nat}{fx:List Nat}(p:C.outs=os)(o:C.fx=fx){c:Code}{k:Nat}{ss:List (Nat×AV)}{hs:List (Ad×Blk)}
  (f:FuncId) (first a xs:List AV) (i:H2 c k=some (GB c k,callF c k,H4 c k)) (q:ev (AB ss) (callF c k)=.fn (.func f) first a) (l:first++(H4 c k).map (ev (AB ss))++a=xs) (ks:List Ad) (hb:List (Ad×Blk)) (e:(ks.map λk=>(k,AF hs k))=hb)
  (x:AV) (Av:List (Ad×Blk)) (fr fl:List Ad) (g:(Ea os Av&&NN fr Av&&OB fr fx&&Ja hs&&OQ n (GB c k)&&ks.all (BO os))=true) (j:Ga C Av) (d:Ll (AF hs) fl)
  (b:∀r:Ren,r.θ=C.θ->r.H0=C.H0->r.κ=C.κ->r.no=C.no->I0 P C.l r f xs hb x Av fr)
  (h:LO P n C c (k+1) (Ac (Ij (GB c k) x (EM fr ss)) (Av++Ds (Av.map (·.1)) fr fl hs)) Q):LO P n C c k (Ac ss hs) Q:=
 ZFY m p o _ _ _ i f first a xs q l ks hb e x Av fr fl g j d b h
end Go.Eng
namespace Go.Eng
open Go
set_option linter.all false
end Go.Eng
namespace Go.Eng
set_option linter.all false
open Go Go.RowKit Go.Shelf
theorem ZnL{w:World}{S:Nat->Prop}{H:Hp}{m:Mu}{l:Nat}{vs:Array Value}{n:Int}(f:Mm w S H m l [.e0,.d (.int .i64 n)] vs):∃a,vs=#[.slice a 0 0,.int .i64 n]:=by
 obtain⟨hs,b⟩:=f;obtain⟨l⟩:=vs
 match l,hs,b with
 |[v0,g],_,b=>
  have e:=b 0 .e0 v0 rfl rfl;have c:=b 1 (.d (.int .i64 n)) g rfl rfl;cases e with
  |e0 a=>
   cases c with
   |d _ _ c=>
    cases c with
    |int=>exact⟨a,rfl⟩
theorem gx{P:Program}{ρ:Go.Shelf.Ren}(L:Go.Proofs.Lays8.n4 P ρ)(i0:TypeInfo)(z:Value)(r:P.info? (ρ.t 25)=some i0)(t:i0.zero=some z)(s:0<i0.size)(u:z.cells.size=i0.size)(p:i0.bytes<=256)
  (E:∃fn c,P.funcs[ρ.f 4]?=some fn/\fn.body=some c/\(fn.name== "runtime.NumGoroutine")=false) {ℓ:Nat} {ℋ:Hp} {k:Ad} (d:k.1<=ℓ) {g:Nat} (F:(ℋ k).g=g) (n:Nat) (K:n<549755813888) {b:AV->Hp->Prop}
  (h:b (.ref k (g+1) 0 0) (updH ℋ k ⟨g+1,true,ρ.t 25,i0.size,[]⟩)):Zdm P (ρ.f 4) ℓ [.e0,.d (.int .i64 n)] ℋ b:=
 ⟨E,λm S w vs B D=>by
  obtain⟨a,rfl⟩:=ZnL D;subst F;by_cases C:n=0
  ·subst C;refine(Go.Proofs.Any8.slices_Grow_room L a 0 0 0 w ae ae ae ae).mono λe w' ⟨f,o⟩=>?_;subst o;obtain⟨y,A⟩:=B.overEmpty k d ((ℋ k).g+1) (ρ.t 25) i0.size ae ⟨0,0,0⟩ rfl;refine⟨_,_,_,_,_,f,h,y,?_,A⟩;have:=RepA.refL (w:=w') (S:=S) (H:=updH ℋ k ⟨(ℋ k).g+1,true,ρ.t 25,i0.size,[]⟩) (m:=Bf m k ⟨0,0,0⟩) (l:=ℓ) k 0 0 a d (by rw[AX]) ae (λq=>by rw[A4]at q;exact absurd q (PU 0));rw[AX,A4]at this;exact this
  ·have Av:n*i0.bytes<=549755813888*256:=Nat.mul_le_mul ae p;refine(Go.Proofs.Any8.slices_Grow_grow L i0 z r t s a 0 0 n [] w ae ae (by rw[YU];omega) ae (by simp) (λ_=>rfl) (λ_ _ j v I=>by simp at I)).mono λe w' ⟨f,o⟩=>?_;have J:n<=grownCap w (0+n) 0 (ρ.t 25):=(by have:=grownCap_ge w (0+n) 0 (ρ.t 25);omega);generalize grownCap w (0+n) 0 (ρ.t 25)=G at*;subst o;obtain⟨y,A⟩:=B.alloc k d (ρ.t 25) i0.size G [] (([]:List Value).toArray++Builtin.zeroCells z.cells (0+n-0)++Builtin.zeroCells z.cells (G-(0+n))) ae
    (by simp only[Array.size_append,fI,u];rw[show([]:List Value).toArray.size=0 from rfl,YU,<-Y3,show 0+n-0+(G-(0+n))=G from by omega]) (B8 _) (λi x v hx=>by simp at hx)
    (w.drew.alloc (.cells (([]:List Value).toArray++Builtin.zeroCells z.cells (0+n-0)++Builtin.zeroCells z.cells (G-(0+n))) (ρ.t 25))) rfl rfl rfl rfl
   refine⟨_,_,_,_,_,f,h,y,?_,A⟩;have:=RepA.refL (w:=w.drew.alloc (.cells (([]:List Value).toArray++Builtin.zeroCells z.cells (0+n-0)++Builtin.zeroCells z.cells (G-(0+n))) (ρ.t 25))) (S:=S) (H:=updH ℋ k ⟨(ℋ k).g+1,true,ρ.t 25,i0.size,[]⟩) (m:=Bf m k ⟨w.heap.size,0,G⟩) (l:=ℓ) k 0 0 (some ⟨w.heap.size,0,none⟩) d (by rw[AX]) ae (λ_=>by rw[A4];simp);rw[AX,A4]at this;exact this⟩
theorem zb{α:Type}{e:α->List D}{xs:List α}{l h:Nat}(q:FD l h xs.length):FD l h (xs.map e).length:=by rw[YF];exact q
theorem ZFO{α:Type}{e:α->List D}{xs:List α}{sz:Nat}(he:∀x,(e x).length=sz):∀d,d∈xs.map e->d.length=sz:=λd h=>by grind
theorem yy{α:Type}{e:α->List D}{xs:List α}{sz l h:Nat}(he:∀x,(e x).length=sz):PG (xs.map e) sz l h (((xs.drop l).take (h-l)).map e):=
 ⟨ZFO he,by rw[<-List.map_drop,<-List.map_take]⟩
theorem ZvF{i:Int}{len sz:Nat}(a:0<=i)(h:i<len):ND i len 0 sz (i.toNat*sz):=⟨a,h,by simp⟩
theorem ZwO{α:Type}{e:α->List D}{xs:List α}{j sz a:Nat}{z y:α}{vs:List D}(b:j<xs.length)(hl:∀x,(e x).length=sz)(g:a+vs.length<=sz)(he:e y=(e (xs.getD j z)).take a++vs++(e (xs.getD j z)).drop (a+vs.length)):
  Ix (Ab e xs) (j*sz+a) (vs.map .d) (Ab e (xs.set j y)):=by
 have d:(j+1)*sz<=xs.length*sz:=EG _ b;rw[Y3,Nf]at d;refine⟨by rw[YF,Gs hl];omega,?_⟩;have hx:xs.getD j z=xs[j]:=by rw[Yj,Ye b];rfl
 rw[hx]at he;have hs:Ab e xs=Ab e (xs.take j)++((e xs[j]).map .d++Ab e (xs.drop (j+1))):=by
  conv=>lhs;rw[<-IB j xs,IH b,Wr,IL]
 have c:(Ab e (xs.take j)).length=j*sz:=by rw[Gs hl,Yz,Gc ae]
 have f:((e xs[j]).map AV.d).length=sz:=by rw[YF,hl]
 rw[hs,List.take_append,J2 (by omega:(Ab e (xs.take j)).length<=j*sz+a),c,show j*sz+a-j*sz=a from by omega,TU ae,
  List.drop_append,aA (by rw[c];omega),c,Ge,show j*sz+a+(vs.map AV.d).length-j*sz=a+vs.length from by rw[YF];omega,aE ae,
  lu,Yi b,Wr,IL,he]
 simp only[Df,List.map_take,List.map_drop,DB]
end Go.Eng
namespace Go.Eng
set_option linter.all false
theorem h9{α:Type}{l:List α}{p:α->Bool}:((match l.findIdx? p with|some k=>(k:Int)|none=>-1)>=0)↔l.any p=true:=by
 rw[YP];cases h:l.findIdx? p with
 |none=>
  rw[Nb]at h;constructor
  ·intro e;exact absurd e (by decide)
  ·rintro⟨x,hx,a⟩;rw[h x hx]at a;cases a
 |some k=>
  obtain⟨b,c,_⟩:=Nc.1 h;exact⟨λ_=>⟨l[k],G3 b,c⟩,λ_=>Int.natCast_nonneg k⟩
theorem Zwz{α:Type}{e e':α->List D}{xs:List α}{j sz:Nat}{y:α}(a:j<xs.length)(hl:∀x,(e x).length=sz)(he:∀x,e x=e' x):Ix (Ab e xs) (j*sz) ((e' y).map .d) (Ab e (xs.set j y)):=by rw[<-he];exact ZFh a hl
theorem wL{α:Type}{sz:Nat}{e e':α->List D}{y:α}(C:List AV)(hl:∀x,(e x).length=sz)(he:∀x,e x=e' x):Ey sz C (.d (.list [e' y])) 1 (Ab e [y]):=by rw[ZwG,he];exact ZyL C (by rw[<-he];exact hl y)
theorem ZFb{C:List AV}{o n m sz:Nat}{a:List (List D)}(h:n=m)(k:Iw C o m sz a):Iw C o n sz a:=h▸k
theorem ZGA{α:Type}{e:α->List D}{xs:List α}{n m off sz:Nat}(a:n=m)(h:off<=xs.length)(hl:∀x,(e x).length=sz):n=m/\off*sz<=(Ab e xs).length/\(Ab e xs).drop (off*sz)=Ab e (xs.drop off):=
 ⟨a,by rw[Gs hl];exact EG _ h,Q9 hl xs off⟩
theorem ZFM{α:Type}{e:α->List D}{z:α}{c:List AV}(a:(e z).map .d=c)(m:Nat):(List.replicate m c).flatten=Ab e (List.replicate m z):=by
 subst a
 induction m with
 |zero=>rfl
 |succ m b=>rw[au,Lz,b,au,IL]
end Go.Eng
namespace Go.Eng
set_option linter.all false
open Go Go.RowKit
section
variable {P:Program} {T:Nat->Option TI} {n:Nat} {C:Cx} {τ:St} {Q:Exit->St->Prop}
theorem ZGE(f:CxOk C){os:Nat}{fx:List Nat}(k:C.outs=os)(i:C.fx=fx){c:Code}(a:AT)(lf:Lf)(q:Ren->(St->Prop)->Prop)
  (m:∀r Φ,Bg r os a τ (λτ _=>EO fx lf τ Φ)=q r Φ) (h:∀r,r.θ=C.θ->r.H0=C.H0->r.κ=C.κ->r.no=C.no->q r (λτ'=>LW P n C c τ' Q)):LW P n C c τ Q:=by
 subst k;subst i;intro γ σ l j;have e:=h (C.r γ) rfl rfl rfl rfl;rw[<-m]at e;obtain⟨y,w,x,g,b,d⟩:=Cv (n:=n) f a e j;obtain⟨u,z,v,o,p,s,t⟩:=IM (n:=n) f g l b;exact BT.weak (p u v o s) (d.trans t)
end
theorem wZ{s:ByteArray}{i:Int}(a:0<=i)(h:i<s.size):Kg s i ((s.data.toList.getD i.toNat 0).toNat:Int):=by have:=yX (s:=s) (i:=i.toNat) ae;rwa [Int.toNat_of_nonneg a]at this
end Go.Eng
