import Derived.Test.YtalafnjhcecdpaaGreatDoorZa08
import Derived.Shelf.Spec.SlicesGrow
import Derived.Test.YtalafnjhcecdpaaGreatDoorZa00
namespace Go.Eng
set_option linter.all false
open Go Go.RowKit
theorem Ij{α:Type}(e:α->List D)(x:α)(xs:List α):Ac e (x::xs)=(e x).map .d++Ac e xs:=by simp[Ac]
theorem P7{α:Type}{e:α->List D}{sz:Nat}(hl:∀x,(e x).length=sz):∀(xs:List α) (j:Nat),(Ac e xs).drop (j*sz)=Ac e (xs.drop j)
 |[],j=>by simp[Ac]
 |x::xs,0=>by simp
 |x::xs,j+1=>by
  have a:((e x).map AV.d).length=sz:=by rw[YF,hl]
  rw[Ij,Y1,Mo,ON,<-OY,List.drop_left' a,P7 hl xs j];rfl
theorem dM{α:Type}{e:α->List D}{sz:Nat}(hl:∀x,(e x).length=sz):∀(xs:List α) (j:Nat),(Ac e xs).take (j*sz)=Ac e (xs.take j)
 |[],j=>by simp[Ac]
 |x::xs,0=>by simp[Ac]
 |x::xs,j+1=>by
  have a:((e x).map AV.d).length=sz:=by rw[YF,hl]
  rw[Ij,List.take_succ_cons,Ij,Y1,Mo,ON,List.take_append,a,Nat.add_sub_cancel_left,dM hl xs j,Jr ae]
theorem tW{α:Type}{xs:List α}{j:Nat}{z:α}(a:j<xs.length):xs.drop j=xs.getD j z::xs.drop (j+1):=by rw[H7 a,Yg,Yd a];rfl
theorem q5{α:Type}{e e':α->List D}{xs:List α}{j sz:Nat}{z:α}(a:j<xs.length)(hl:∀x,(e x).length=sz)(he:∀x,e x=e' x):D3 (Ac e xs) (j*sz) ((e' (xs.getD j z)).map .d):=by unfold D3;rw[P7 hl,tW (z:=z) a,Ij,he,List.take_left]
theorem ZlV{α:Type}{e e':α->List D}{xs:List α}{j sz o:Nat}{z:α}{c:List AV}(b:j<xs.length)(hl:∀x,(e x).length=sz)(he:∀x,e x=e' x)
  (a:(((e' (xs.getD j z)).map .d).drop o).take c.length=c) (f:o+c.length<=sz):D3 (Ac e xs) (j*sz+o) c:=by
 unfold D3;have d:((e' (xs.getD j z)).map AV.d).length=sz:=by rw[YF,<-he,hl]
 rw[<-OY,P7 hl,tW (z:=z) b,Ij,he,XI ae,RY (by rw[Dz];omega),a]
theorem xf{α:Type}{e:α->List D}{xs:List α}{j sz:Nat}{y:α}(b:j<xs.length)(hl:∀x,(e x).length=sz):Jq (Ac e xs) (j*sz) ((e y).map .d) (Ac e (xs.set j y)):=by
 have a:((e y).map AV.d).length=sz:=by rw[YF,hl]
 have c:(j+1)*sz<=xs.length*sz:=Y8 _ b;rw[Y1,Mo]at c;refine⟨by rw[a,GA hl];omega,?_⟩;rw[a,dM hl,show j*sz+sz=(j+1)*sz from by rw[Y1,Mo],P7 hl,iM,Ym b,UI,Ij,DZ]
def W0:D->Option Value
 |.int k n=>some (.int k n)
 |.bool b=>some (.bool b)
 |.str s=>some (.string s)
 |.list _=>none
 |.map _ _=>none
theorem ZJv{w:World}{S:Nat->Prop}{d:D}{u v:Value}(h:W0 d=some v)(a:RepD w S d u):u=v:=by cases a<;>simp only[W0,Yn]at h<;>first|exact h|cases h
theorem xW{w:World}{S:Nat->Prop}{H:Hp}{m:Mu}{l:Nat}{ds:List D}{V:List Value}{vs:Array Value}(h:ds.map W0=V.map some)(f:LF w S H m l (ds.map .d) vs):vs=V.toArray:=by
 have hl:ds.length=V.length:=by simpa using congrArg List.length h
 apply C8;apply List.ext_getElem?;intro i;obtain⟨b,e⟩:=f;have b:ds.length=vs.size:=by simpa using b
 rcases YL i ds.length with hi|hi
 ·have c:vs[i]?=some vs[i]:=Yv ae;have j:=e i (.d ds[i]) vs[i] (by simp[Yd hi]) c;have a:=congrArg (λl=>l[i]?) h;simp only[YR,Yd hi,Yd (show i<V.length by omega),Y7,Yn]at a;rw[YG,c,Yd (show i<V.length by omega)];cases j with|d _ _ g=>rw[ZJv a g]
 grind
end Go.Eng
namespace Go.Eng
set_option linter.all false
open Go Go.RowKit
def Dq(r:Ren):List (Ad×Blk)->Hp->Hp
 |[],H=>H
 |(k,b)::a,H=>Dq r a (updH H (r.κ k) (AJ r k b))
def IL(P:Program)(l:Nat)(r:Ren)(f:FuncId)(xs:List AV)(d:List (Ad×Blk))(x:AV)(Av:List (Ad×Blk))(fr:List Ad):Prop:=
 ∀a,(∀p∈d,(a (r.κ p.1)).g=r.γ p.1+p.2.g/\(p.2.live=true->a (r.κ p.1)=AJ r p.1 p.2))->(∀k:Ad,k.1<=l->¬r.no k->a k=r.H0 k)->
  Zc0 P f (l+1) (Ao r xs) a (λy b=>∃c:Ad->Nat,(∀k,k∉fr->c k=r.γ k)/\y=ren ⟨r.κ,c,r.θ,r.H0,r.no⟩ x/\b=Dq ⟨r.κ,c,r.θ,r.H0,r.no⟩ Av a)
mutual
def Hs(fr:List Ad):AV->Bool
 |.ref k _ _ _=>fr.any (BD k)
 |.ptr k _ _=>fr.any (BD k)
 |.mp k _=>fr.any (BD k)
 |.fn _ xs ys=>Il fr xs||Il fr ys
 |.agg xs=>Il fr xs
 |.tup xs=>Il fr xs
 |.top=>false
 |.d _=>false
 |.e0=>false
 |.p _=>false
 |.iptr _ _=>false
 |.ifc _ _ _=>false
def Il(fr:List Ad):List AV->Bool
 |[]=>false
 |x::xs=>Hs fr x||Il fr xs
end
def Ej(fr:List Ad):List (Nat×AV)->List (Nat×AV)
 |[]=>[]
 |(j,x)::r=>(j,match Hs fr x with|true=>.top|false=>x)::Ej fr r
def Dc(ks fr fl:List Ad):List (Ad×Blk)->List (Ad×Blk)
 |[]=>[]
 |(k,b)::r=>match ks.any (BD k),fl.any (BD k)||!Il fr b.cells with
  |false,true=>(k,b)::Dc ks fr fl r
  |_,_=>Dc (k::ks) fr fl r
def HD:Option Nat->AV->List (Nat×AV)->List (Nat×AV)
 |some d,x,r=>(d,x)::r
 |none,_,r=>r
def BH(os:Nat)(k:Ad):Bool:=Nat.beq k.1 1||(Nat.beq k.1 0&&Nat.ble (k.2+1) os)
def DT(os:Nat):List (Ad×Blk)->Bool
 |[]=>true
 |(k,b)::r=>BH os k&&b.live&&!(r.any λp=>BD k p.1)&&DT os r
mutual
theorem qU{r:Ren}{b:Ad->Nat}{fr:List Ad}(a:∀k,k∉fr->b k=r.γ k):∀(x:AV),Hs fr x=false->ren ⟨r.κ,b,r.θ,r.H0,r.no⟩ x=ren r x
 |.ref k g off n,h=>by simp only[Hs]at h;simp only[ren];rw[a k (UT h)]
 |.ptr k g off,h=>by simp only[Hs]at h;simp only[ren];rw[a k (UT h)]
 |.mp k g,h=>by simp only[Hs]at h;simp only[ren];rw[a k (UT h)]
 |.fn f xs ys,h=>by simp only[Hs,Ic]at h;have c:=Nk a xs h.1;have d:=Nk a ys h.2;cases f<;>simp only[ren,c,d]
 |.agg xs,h=>by simp only[Hs]at h;simp only[ren,Nk a xs h]
 |.tup xs,h=>by simp only[Hs]at h;simp only[ren,Nk a xs h]
 |.top,_=>by simp[ren]
 |.d _,_=>by simp[ren]
 |.e0,_=>by simp[ren]
 |.p _,_=>by simp[ren]
 |.iptr _ _,_=>by simp[ren]
 |.ifc _ _ _,_=>by simp[ren]
theorem Nk{r:Ren}{b:Ad->Nat}{fr:List Ad}(a:∀k,k∉fr->b k=r.γ k):∀(xs:List AV),Il fr xs=false->Ao ⟨r.κ,b,r.θ,r.H0,r.no⟩ xs=Ao r xs
 |[],_=>by simp[Ao]
 |x::xs,h=>by simp only[Il,Ic]at h;simp only[Ao,qU a x h.1,Nk a xs h.2]
theorem UT{k:Ad}{fr:List Ad}(h:fr.any (BD k)=false):k∉fr:=λhm=>by have:fr.any (BD k)=true:=YU.2 ⟨k,hm,Cw.2 rfl⟩;grind
end
def B6:Code->Array Oper
 |.region _ ops _=>ops
 |_=>#[]
def kb:Code->Bool
 |.region _ _ false=>true
 |_=>false
def HA{α:Type}:Nat->List α->List α
 |0,l=>l
 |_+1,[]=>[]
 |n+1,_::l=>HA n l
def Ix{α:Type}:Nat->List α->List α
 |0,_=>[]
 |_+1,[]=>[]
 |n+1,x::l=>x::Ix n l
theorem eG{α:Type}:∀(n:Nat) (l:List α),HA n l=l.drop n
 |0,l=>rfl
 |n+1,[]=>rfl
 |n+1,x::l=>eG n l
theorem UC{α:Type}:∀(n:Nat) (l:List α),Ix n l=l.take n
 |0,l=>rfl
 |n+1,[]=>rfl
 |n+1,x::l=>by rw[Ix,UC n l];rfl
def LO(P:Program)(n:Nat)(C:Cx)(c:Code)(k:Nat)(τ:St)(Q:Exit->St->Prop):Prop:=
 ∀γ σ a w,C.G γ->RG (C.r γ) C.l C.outs [] τ σ->R C.l n C.B σ a w->wpList P (B6 c) (λe d w'=>∃b,Is n C (Q e) b/\R C.l n C.B b d w') ((B6 c).toList.drop k) a w
def Ht(c:Code)(k:Nat):Option (Option Nat×Operand×List Operand):=
 match Bl (B6 c).toList k with
 |some o=>(match o.guard,o.op with
  |none,.call cl=>(match cl.callee with|.value f=>some (o.dst,f,cl.args.toList)|_=>none)
  |_,_=>none)
 |none=>none
def FF(C:Cx):List (Ad×Blk)->Prop
 |[]=>True
 |(k,_)::r=>match Nat.beq k.1 1 with|true=>FF C r|false=>C.no (C.κ k)/\FF C r
def Kr(H:Hp):List Ad->Prop
 |[]=>True
 |k::r=>IJ (H k).cells/\Kr H r
def Mw(fr:List Ad)(Av:List (Ad×Blk)):Bool:=fr.all λk=>Av.any λp=>BD k p.1
def NQ(fr:List Ad)(fx:List Nat):Bool:=fr.all λk=>!(Nat.beq k.1 0&&fx.any (Nat.beq k.2))
def Iy:List (Ad×Blk)->Bool
 |[]=>true
 |(_,b)::r=>Nat.beq b.g 0&&Iy r
def qc:Option Nat->(Nat->AV)->AV->Nat->AV
 |some d,s,v=>upd s d v
 |none,s,_=>s
def Og(n:Nat):Option Nat->Bool
 |some d=>Nat.ble (d+1) n
 |none=>true
section
variable {P:Program} {T:Nat->Option TI} {n:Nat} {C:Cx} {τ:St} {Q:Exit->St->Prop}
theorem ZqX{c:Code}(b:kb c=true)(h:LO P n C c 0 τ Q):LW P n C c τ Q:=by
 cases c with
 |region id ops d=>
  cases d with
  |true=>cases b
  |false=>
   obtain⟨i,rfl⟩:∃l:List Oper,ops=l.toArray:=⟨ops.toList,by simp⟩;intro γ σ g e a w f;have:=h γ σ a w g e f;simp only[B6,Hh]at this;exact wp_region_lit this
 |_=>cases b
theorem ZHI(d:CxOk C)(A:Ba P T){os:Nat}{fx:List Nat}(y:C.outs=os)(v:C.fx=fx){c:Code}{k:Nat}(m:Nat)(a:AT)(lf:Lf)(q:Ren->(St->Prop)->Prop)
  (E:∀r Φ,A9 r os a τ (λτ a=>Gg P T C.l n r ((B6 c).toList.map (·.dst)) (Ix m (HA k (B6 c).toList)) [] a (λτ' env f=>A9 r os f (DS env τ') (λτ _=>Ei fx lf τ Φ)) τ)=q r Φ)
  (h:∀r,r.θ=C.θ->r.H0=C.H0->r.κ=C.κ->r.no=C.no->q r (λτ'=>LO P n C c (k+m) τ' Q)):LO P n C c k τ Q:=by
 subst y;subst v;intro γ σ g w D x z;have o:=h (C.r γ) rfl rfl rfl rfl;rw[<-E]at o;obtain⟨R,p,N,u,i,j⟩:=Ci (n:=n) d a o x;have e:(B6 c).toList.drop k=Ix m (HA k (B6 c).toList)++(B6 c).toList.drop (k+m):=by rw[UC,eG,<-OY,H9]
 rw[e];refine Np (d.ren γ) A (B:=C.B) _ (λτ' l f U b w' J K L=>?_) _ [] p R N g w u i (j _ _ z);obtain⟨V,s,t⟩:=P6 (n:=n) K;obtain⟨X,S,W,f1,f2,f3⟩:=Ci (n:=n) d f J s;obtain⟨M,Y,O,F,G,H,I⟩:=Ii (n:=n) d f1 D f2;exact G M O b w' F H (I _ _ (f3 _ _ (t _ _ L)))
theorem z6(b:CxOk C)(A:Ba P T){os:Nat}{fx:List Nat}(y:C.outs=os)(v:C.fx=fx){c:Code}{k:Nat}(a:AT)(lf:Lf)(q:Ren->(Exit->St->Prop)->Prop)
  (E:∀r Φ,A9 r os a τ (λτ a=>Gg P T C.l n r ((B6 c).toList.map (·.dst)) (HA k (B6 c).toList) [] a (λτ' env d=>A9 r os d (DS env τ') (λτ _=>Ei fx lf τ (Φ .normal))) τ)=q r Φ)
  (h:∀r,r.θ=C.θ->r.H0=C.H0->r.κ=C.κ->r.no=C.no->q r Q):LO P n C c k τ Q:=by
 subst y;subst v;intro γ σ f w D x z;have m:=h (C.r γ) rfl rfl rfl rfl;rw[<-E]at m;obtain⟨O,p,N,u,g,i⟩:=Ci (n:=n) b a m x;have e:(B6 c).toList.drop k=HA k (B6 c).toList++[]:=by rw[eG,KP]
 rw[e];refine Np (b.ren γ) A (B:=C.B) _ (λτ' l d U j w' J K L=>?_) _ [] p O N f w u g (i _ _ z);obtain⟨V,s,t⟩:=P6 (n:=n) K;obtain⟨X,S,W,f1,f2,f3⟩:=Ci (n:=n) b d J s;obtain⟨M,R,o,F,G,H,I⟩:=Ii (n:=n) b f1 D f2;unfold wpList;exact⟨o,⟨M,R,o,F,G,H,Wk.refl _⟩,I _ _ (f3 _ _ (t _ _ L))⟩
theorem Ur:∀{hs:List (Ad×Blk)},Iy hs=true->∀k,(AB hs k).g=0
 |[],_,k=>rfl
 |(k',b)::r,h,k=>by
  simp only[Iy,Yb]at h;simp only[AB];split
  ·exact Ye h.1
  ·exact Ur h.2 k
theorem sU{k:Ad}{ks:List Ad}:ks.any (BD k)=true↔k∈ks:=by rw[YU];exact⟨λ⟨q,a,b⟩=>by rw[Cw.1 b];exact a,λh=>⟨k,h,Cw.2 rfl⟩⟩
theorem xM(a b:List (Ad×Blk))(k:Ad):AB (a++b) k=if k∈a.map (·.1)then AB a k else AB b k:=by
 induction a with
 |nil=>simp
 |cons p a f=>
  obtain⟨q,d⟩:=p;simp only[H5,AB,YZ,Yy];cases c:BD q k with
  |true=>rw[Ym (.inl (Cw.1 c).symm)]
  |false=>
   have:k≠q:=λe=>by rw[Cw.2 e.symm]at c;cases c
   grind
theorem P4{fr fl:List Ad}:∀(hs:List (Ad×Blk)) (ks:List Ad) (k:Ad),(k∈ks->AB (Dc ks fr fl hs) k=Fv)/\(k∉ks->(AB (Dc ks fr fl hs) k=AB hs k/\(k∈fl\/Il fr (AB hs k).cells=false))\/AB (Dc ks fr fl hs) k=Fv)
 |[],ks,k=>⟨λ_=>rfl,λ_=>.inr rfl⟩
 |(q,b)::r,ks,k=>by
  simp only[Dc];split
  ·rename_i d a;have f:q∉ks:=λhm=>by rw[sU.2 hm]at d;cases d
   simp only[AB];cases c:BD q k with
   |true=>
    have c:=Cw.1 c;subst c;refine⟨λh=>absurd h f,λ_=>.inl ⟨rfl,?_⟩⟩;simp only[YB,YO]at a;rcases a with a|a
    ·exact .inl (sU.1 a)
    grind
   |false=>exact P4 r ks k
  ·obtain⟨d,a⟩:=P4 (fr:=fr) (fl:=fl) r (q::ks) k;refine⟨λh=>d (YH _ h),λh=>?_⟩;by_cases c:k=q
   ·grind
   ·rcases a (λhm=>(Yy.1 hm).elim c h)with⟨i,j⟩|e
    ·have:BD q k=false:=by
      cases g:BD q k with
      |true=>exact absurd (Cw.1 g).symm c
      |false=>rfl
     simp only[AB,this];grind
    grind
theorem Ud{r:Ren}:∀(Av:List (Ad×Blk)) (H:Hp) (q:Ad),(∀p∈Av,r.κ p.1≠q)->Dq r Av H q=H q
 |[],H,q,h=>rfl
 |(k,b)::a,H,q,h=>by simp only[Dq];rw[Ud a _ q (λp c=>h p (YH _ c)),AF _ _ (λe=>h (k,b) (YJ ..) e.symm)]
theorem sf{r:Ren}{os:Nat}(d:∀q k:Ad,BH os q=true->BH os k=true->q≠k->r.κ q≠r.κ k):∀(Av:List (Ad×Blk)) (H:Hp),DT os Av=true->∀k b,(k,b)∈Av->Dq r Av H (r.κ k)=AJ r k b/\AB Av k=b/\BH os k=true/\b.live=true
 |[],H,_,k,b,hm=>by cases hm
 |(q,c)::rest,H,g,k,b,hm=>by
  simp only[DT,Yb,YO]at g;obtain⟨⟨⟨i,u⟩,j⟩,m⟩:=g;have f:∀p∈rest,p.1≠q:=λp a e=>by have:(rest.any λp=>BD q p.1)=true:=YU.2 ⟨p,a,Cw.2 e.symm⟩;rw[this]at j;cases j
  have h:∀(l:List (Ad×Blk)),DT os l=true->∀p∈l,BH os p.1=true:=by
   intro l
   induction l with
   |nil=>intro _ p a;cases a
   |cons p l w=>
    obtain⟨x,y⟩:=p;intro hl p a;simp only[DT,Yb]at hl;rcases Yy.1 a with rfl|a
    ·exact hl.1.1.1
    ·exact w hl.2 p a
  simp only[Dq];rcases Yy.1 hm with e|hm
  ·cases e;refine⟨?_,by simp only[AB,Cw.2 rfl],i,u⟩;rw[Ud rest _ _ (λp a=>d _ _ (h rest m p a) i (f p a)),AS]
  ·obtain⟨n,o,s,t⟩:=sf d rest (updH H (r.κ q) (AJ r q c)) m k b hm;refine⟨n,?_,s,t⟩;have:BD q k=false:=by
    cases v:BD q k with
    |true=>exact absurd (Cw.1 v).symm (f _ hm)
    |false=>rfl
   simp only[AB,this];exact o
theorem fH:∀{Av:List (Ad×Blk)},FF C Av->∀p∈Av,p.1.1≠1->C.no (C.κ p.1)
 |(k,b)::r,h,p,c,a=>by
  simp only[FF]at h;split at h
  ·rename_i d;rcases Yy.1 c with rfl|c
   ·exact absurd (Ye d) a
   ·exact fH h p c a
  ·rcases Yy.1 c with rfl|c
   ·exact h.1
   ·exact fH h.2 p c a
theorem fk{H:Hp}:∀{ks:List Ad},Kr H ks->∀k∈ks,IJ (H k).cells
 |q::r,h,k,a=>by
  rcases Yy.1 a with rfl|a
  ·exact h.1
  ·exact fk h.2 k a
theorem GG{os:Nat}{k:Ad}(h:BH os k=true):k.1=1\/(k.1=0/\k.2<os):=by
 simp only[BH,YB,Yb]at h;rcases h with h|⟨a,b⟩
 ·exact .inl (Ye h)
 ·exact .inr ⟨Ye a,Yj b⟩
theorem sv{fr:List Ad}:∀(ss:List (Nat×AV)) (j:Nat),Az (Ej fr ss) j=.top\/(Az (Ej fr ss) j=Az ss j/\Hs fr (Az ss j)=false)
 |[],j=>.inl rfl
 |(i,x)::r,j=>by
  simp only[Ej,Az];split
  ·grind
  ·exact sv r j
theorem ZvD(hC:CxOk C){os:Nat}{fx:List Nat}(hO:C.outs=os)(hF:C.fx=fx){c:Code}{k:Nat}{ss:List (Nat×AV)}{hs:List (Ad×Blk)}(l:Option Nat)(fo:Operand)(aZ:List Operand)(m:Ht c k=some (l,fo,aZ))
  (f:FuncId) (first u xs:List AV) (hf:ev (Az ss) fo=.fn (.func f) first u) (hxs:first++aZ.map (ev (Az ss))++u=xs) (ks:List Ad) (J:List (Ad×Blk)) (hhb:(ks.map λk=>(k,AB hs k))=J)
  {ι:Type} (I:ι->Prop) (xF:ι->AV) (s:ι->List (Ad×Blk)) (fr fl:List Ad) (M:(NQ fr fx&&Iy hs&&Og n l&&ks.all (BH os))=true) (t:∀i,(DT os (s i)&&Mw fr (s i))=true) (H:∀i,FF C (s i)) (hfl:Kr (AB hs) fl)
  (T:∀r:Ren,r.θ=C.θ->r.H0=C.H0->r.κ=C.κ->r.no=C.no->∀V,(∀p∈J,(V (r.κ p.1)).g=r.γ p.1+p.2.g/\(p.2.live=true->V (r.κ p.1)=AJ r p.1 p.2))->(∀k:Ad,k.1<=C.l->¬r.no k->V k=r.H0 k)->
   Zc0 P f (C.l+1) (Ao r xs) V (λy W=>∃i,I i/\∃a:Ad->Nat,(∀k,k∉fr->a k=r.γ k)/\y=ren ⟨r.κ,a,r.θ,r.H0,r.no⟩ (xF i)/\W=Dq ⟨r.κ,a,r.θ,r.H0,r.no⟩ (s i) V))
  (h:∀i,I i->LO P n C c (k+1) (Ab (HD l (xF i) (Ej fr ss)) (s i++Dc ((s i).map (·.1)) fr fl hs)) Q):LO P n C c k (Ab ss hs) Q:=by
 subst hO;subst hF;simp only[Yb]at M;obtain⟨⟨⟨k3,k4⟩,k5⟩,k6⟩:=M;intro γ σ act w hg z hR;have hr:=hC.ren γ;have hs':∀j,σ.s j=ren (C.r γ) (Az ss j):=λj=>(z.s j).1 A8;have A:∀y:Operand,ev σ.s y=ren (C.r γ) (ev (Az ss) y):=λy=>LJ (c:=[]) z A8 (by cases y<;>rfl);unfold Ht at m;split at m
 case h_2=>cases m
 rename_i o ho;split at m
 case h_2=>cases m
 rename_i cl hgd hopc;split at m
 case h_2=>cases m
 rename_i fo' hcal;simp only[Yn,Hi]at m;obtain⟨hd,rfl,rfl⟩:=m;rw[Cp]at ho;have hlt:k<(B6 c).toList.length:=by grind
 have U:(B6 c).toList.drop k=o::(B6 c).toList.drop (k+1):=by rw[H7 hlt];grind
 rw[U];have L:∀q k:Ad,BH C.outs q=true->BH C.outs k=true->q≠k->(C.r γ).κ q≠(C.r γ).κ k:=λq k Z h2 h3=>hr.ne (GG Z) (GG h2) h3;have hA:=T (C.r γ) rfl rfl rfl rfl σ.H (λp E=>by
  rw[<-hhb]at E;obtain⟨q,g,rfl⟩:=YV.1 E;have hq':=GG (Yu.1 k6 q g);refine⟨?_,λhl=>z.h q hl⟩;obtain⟨q1,q2⟩:=q;simp only at hq';rcases hq' with rfl|⟨rfl,h2⟩
  ·have:=z.g q2;rw[<-hr.own]at this;exact this
  ·exact z.go q2 h2) z.o
 have S:Ao (C.r γ) xs=Ao (C.r γ) first++cl.args.toList.map (ev σ.s)++Ao (C.r γ) u:=by rw[<-hxs,Hn,Hn];congr 2;rw[FS,Jv];exact Fa λy _=>(A y).symm
 have hfe:ev σ.s fo'=.fn (.func f) (Ao (C.r γ) first) (Ao (C.r γ) u):=by rw[A,hf];simp[ren]
 have hrop:BA P C.l n o (λσ'=>∃i,I i/\∃a:Ad->Nat,(∀q,q∉fr->a q=γ q)/\σ'=⟨qc l σ.s (ren (C.r a) (xF i)),Dq (C.r a) (s i) σ.H⟩) σ:=by
  unfold BA;rw[hopc];simp only[hcal,hfe];rw[S]at hA;refine hA.mono λy W ⟨i,hi,a,N,e2,e3⟩=>?_;unfold Pe CM;rw[hd];cases l with
  |none=>exact⟨i,hi,a,N,by rw[e3];rfl⟩
  |some d=>exact⟨Yj k5,i,hi,a,N,by rw[e2,e3];rfl⟩
 refine dj (by simp[Region.wanted,hgd]) (Lu hrop) hR λσ' Y w' hK O=>?_;obtain⟨i,hi,a,N,rfl⟩:=hK;have h:=h i hi;have H:=H i;have t:=t i;generalize s i=Av at h H t O;generalize xF i=x at h O;simp only[Yb]at t;obtain⟨k1,k2⟩:=t;have hsub:∀q,q∈fr->∃b,(q,b)∈Av:=λq g=>by obtain⟨p,E,hk⟩:=YU.1 (Yu.1 k2 q g);rw[Cw.1 hk];exact⟨p.2,E⟩
 let τ2:St:=Ab (HD l x (Ej fr ss)) (Av++Dc (Av.map (·.1)) fr fl hs);have D:∀q,AB (Av++Dc (Av.map (·.1)) fr fl hs) q=if q∈Av.map (·.1)then AB Av q else AB (Dc (Av.map (·.1)) fr fl hs) q:=λq=>xM _ _ _
 have hin:∀q,q∈Av.map (·.1)->∃b,(q,b)∈Av:=λq g=>by obtain⟨p,E,rfl⟩:=YV.1 g;exact⟨p.2,E⟩
 have F:∀q b,(q,b)∈Av->Dq (C.r a) Av σ.H ((C.r a).κ q)=AJ (C.r a) q b/\AB Av q=b/\BH C.outs q=true/\b.live=true:=sf (r:=C.r a) L Av σ.H k1;have B:∀q,q∉Av.map (·.1)->BH C.outs q=true->Dq (C.r a) Av σ.H ((C.r a).κ q)=σ.H ((C.r a).κ q)/\a q=γ q:=λq g v=>by refine⟨Ud _ _ _ λp E=>L _ _ (F p.1 p.2 E).2.2.1 v λe=>g (YV.2 ⟨p,E,e⟩),N q λhf=>?_⟩;grind
 have K:∀q,BH C.outs q=true->(σ.H (C.κ q)).g=γ q->(Dq (C.r a) Av σ.H (C.κ q)).g=a q+(AB (Av++Dc (Av.map (·.1)) fr fl hs) q).g:=λq v hq0=>by
  rw[D];split
  ·rename_i hm;obtain⟨b,J⟩:=hin q hm;obtain⟨a1,X,_⟩:=F q b J;rw[show C.κ q=(C.r a).κ q from rfl,a1,X];rfl
  ·rename_i hm;obtain⟨a1,X⟩:=B q hm v;rw[show C.κ q=(C.r a).κ q from rfl,a1,X];have:(AB (Dc (Av.map (·.1)) fr fl hs) q).g=0:=by
    rcases(P4 (fr:=fr) (fl:=fl) hs (Av.map (·.1)) q).2 hm with⟨e,_⟩|e
    ·rw[e];exact Ur k4 q
    ·rw[e];rfl
   rw[this];exact hq0
 have hG2:RG (C.r a) C.l C.outs [] τ2 ⟨λj=>ren (C.r a) (τ2.s j),Dq (C.r a) Av σ.H⟩:=by
  refine⟨λj=>⟨λ_=>rfl,λhn=>absurd A8 hn⟩,λq g=>?_,λd=>?_,λi hi=>?_,λq g=>?_,λq g hn=>?_⟩
  ·show Dq (C.r a) Av σ.H ((C.r a).κ q)=AJ (C.r a) q (AB (Av++Dc (Av.map (·.1)) fr fl hs) q);replace g:(AB (Av++Dc (Av.map (·.1)) fr fl hs) q).live=true:=g;rw[D]at g⊢;split at g
   ·grind
   ·rename_i hm;rw[Yk hm];rcases(P4 (fr:=fr) (fl:=fl) hs (Av.map (·.1)) q).2 hm with⟨e,e'⟩|e
    ·rw[e]at g⊢;have v:=z.k q g;have t:BH C.outs q=true:=by
      obtain⟨q1,q2⟩:=q;simp only at v;simp only[BH,YB,Yb];rcases v with rfl|⟨rfl,h2⟩
      ·exact .inl rfl
      ·exact .inr ⟨rfl,iX h2⟩
     obtain⟨a1,X⟩:=B q hm t;rw[a1];have J:=z.h q g;have G:Ao (C.r a) (AB hs q).cells=Ao (C.r γ) (AB hs q).cells:=by
      rcases e' with e'|e'
      ·rw[JW (fk hfl q e'),JW (fk hfl q e')]
      ·exact Nk (r:=C.r γ) N _ e'
     show σ.H ((C.r γ).κ q)=_;rw[J];simp only[AJ];rw[G,show(C.r a).γ q=a q from rfl,X];rfl
    ·rw[e]at g;cases g
  ·have:=K (1,d) rfl (by have:=z.g d;rw[show((Ab ss hs).H (1,d)).g=0 from Ur k4 _]at this;rw[hC.own];exact this);rw[hC.own]at this;exact this
  ·exact K (0,i) (by simp only[BH,YB,Yb];exact .inr ⟨rfl,iX hi⟩) (by have:=z.go i hi;rw[show((Ab ss hs).H (0,i)).g=0 from Ur k4 _]at this;exact this)
  ·replace g:(AB (Av++Dc (Av.map (·.1)) fr fl hs) q).live=true:=g;rw[D]at g;split at g
   ·rename_i hm;obtain⟨b,J⟩:=hin q hm;exact GG (F q b J).2.2.1
   ·rename_i hm;rcases(P4 (fr:=fr) (fl:=fl) hs (Av.map (·.1)) q).2 hm with⟨e,e'⟩|e
    ·rw[e]at g;exact z.k q g
    ·rw[e]at g;cases g
  ·show Dq (C.r a) Av σ.H q=C.H0 q;rw[Ud _ _ _ λp E e=>?_]
   ·exact z.o q g hn
   ·by_cases Z:p.1.1=1
    ·obtain⟨⟨p1,p2⟩,p3⟩:=p;simp only at Z;subst Z;rw[show(C.r a).κ (1,p2)=(C.l+1,p2)from hC.own p2]at e;grind
    ·exact hn (by rw[<-e];exact fH H p E Z)
 refine h a _ Y w' (hC.G γ a (λi hi=>N _ λhm=>?_) hg) hG2 (R.weaken O λj=>?_)
 ·have:=Yu.1 k3 _ hm;simp only[YO,Ia]at this;rcases this with h|h
  ·cases h
  ·have:(C.fx.any (Nat.beq i))=true:=YU.2 ⟨i,hi,by simp⟩;grind
 ·have old:ren (C.r a) (Az (Ej fr ss) j)=σ.s j\/ren (C.r a) (Az (Ej fr ss) j)=.top:=by
   rcases sv (fr:=fr) ss j with e|⟨e,e'⟩
   ·right;rw[e];simp[ren]
   ·left;rw[e,hs' j];exact qU (r:=C.r γ) N _ e'
  show ren (C.r a) (Az (HD l x (Ej fr ss)) j)=_\/ren (C.r a) (Az (HD l x (Ej fr ss)) j)=.top;cases l with
  |none=>exact old
  |some d=>
   simp only[HD,Az,qc,upd];cases hj:Nat.beq d j with
   |true=>
    have:=Ye hj;grind
   |false=>
    have:j≠d:=λe=>by rw[e]at hj;simp at hj
    grind
theorem y2(D:CxOk C){os:Nat}{fx:List Nat}(F:C.outs=os)(E:C.fx=fx){c:Code}{k:Nat}{ss:List (Nat×AV)}{hs:List (Ad×Blk)}(e:Option Nat)(l:Operand)(j:List Operand)(q:Ht c k=some (e,l,j))
  (f:FuncId) (first d xs:List AV) (G:ev (Az ss) l=.fn (.func f) first d) (t:first++j.map (ev (Az ss))++d=xs) (ks:List Ad) (m:List (Ad×Blk)) (p:(ks.map λk=>(k,AB hs k))=m)
  (x:AV) (Av:List (Ad×Blk)) (fr fl:List Ad) (i:(DT os Av&&Mw fr Av&&NQ fr fx&&Iy hs&&Og n e&&ks.all (BH os))=true) (s:FF C Av) (o:Kr (AB hs) fl)
  (g:∀r:Ren,r.θ=C.θ->r.H0=C.H0->r.κ=C.κ->r.no=C.no->IL P C.l r f xs m x Av fr)
  (h:LO P n C c (k+1) (Ab (HD e x (Ej fr ss)) (Av++Dc (Av.map (·.1)) fr fl hs)) Q):LO P n C c k (Ab ss hs) Q:=by
 simp only[Yb]at i;obtain⟨⟨⟨⟨⟨I,J⟩,K⟩,L⟩,M⟩,N⟩:=i;exact ZvD D F E e l j q f first d xs G t ks m p (ι:=Unit) (λ_=>True) (λ_=>x) (λ_=>Av) fr fl (by simp only[Yb];exact⟨⟨⟨K,L⟩,M⟩,N⟩) (λ_=>by simp only[Yb];exact⟨I,J⟩) (λ_=>s) o
  (λr w z A B u a b=>(g r w z A B u a b).mono λy v H=>⟨(),trivial,H⟩) λ_ _=>h
end
def Ed(l:Nat)(ks:List Ad):Ad->Ad
 |(0,i)=>match Bl ks i with|some k=>k|none=>(0,0)
 |(_+1,d)=>(l+1,d)
def HT(a:List Nat):Ad->Nat
 |(0,i)=>match Bl a i with|some g=>g|none=>0
 |(_+1,_)=>0
def Cv(l:Nat)(ks:List Ad)(a:List Nat)(θ:Nat->AV)(H:Hp):Ren:=⟨Ed l ks,HT a,θ,H,λk=>k∈ks⟩
def Jp(l:Nat)(ks:List Ad)(a:List Nat)(r:Ren):Prop:=r.κ=Ed l ks/\∀i,i<ks.length->r.γ (0,i)=HT a (0,i)
def C4(r:Ren):Nat->List Blk->List Blk
 |_,[]=>[]
 |i,b::a=>AJ r (0,i) b::C4 r (i+1) a
def DU(H:Hp):List Ad->List Blk->Hp
 |k::ks,b::a=>DU (updH H k b) ks a
 |_,_=>H
theorem dF:∀(ks:List Ad) (a:List Blk) (H:Hp) (q:Ad),q∉ks->DU H ks a q=H q
 |[],a,H,q,h=>by cases a<;>rfl
 |k::ks,[],H,q,h=>rfl
 |k::ks,b::a,H,q,h=>by simp only[DU];rw[dF ks a _ q (λhm=>h (YH _ hm)),AF _ _ (λe=>h (by rw[e];exact YJ ..))]
theorem ts:∀(ks:List Ad) (a:List Blk) (H:Hp),ks.Nodup->∀(j:Nat) (k:Ad) (b:Blk),ks[j]?=some k->a[j]?=some b->DU H ks a k=b
 |[],a,H,_,j,k,b,h,_=>by simp at h
 |q::ks,[],H,_,_,_,_,_,h=>by simp at h
 |q::ks,c::a,H,e,j,k,b,d,hb=>by
  simp only[DU];rw[List.nodup_cons]at e;cases j with
  |zero=>
   simp only[Gs,Yn]at d hb;subst d;subst hb;rw[dF ks a _ _ e.1,AS]
  |succ j=>
   simp only[Mn]at d hb;exact ts ks a _ e.2 j k b d hb
theorem sB{r:Ren}:∀(a:List Blk) (i j:Nat),(C4 r i a)[j]?=(a[j]?).map (AJ r (0,i+j))
 |[],i,j=>by simp[C4]
 |b::a,i,0=>by simp[C4]
 |b::a,i,j+1=>by simp only[C4,Mn,sB a (i+1) j,show i+1+j=i+(j+1)from by omega]
theorem qX{P:Program}{T:Nat->Option TI}{n:Nat}{f:FuncId}{fn:Func}(J:List ResultVar)(c:Code){l:Nat}{xs:List AV}{H:Hp}{g:AV->Hp->Prop}(ks:List Ad)(t:List Nat)(fx:List Nat)(θ:Nat->AV)(ys:List AV)(hs:List (Ad×Blk))(LPost:AV->List Blk->Prop)
  (V:P.funcs[f]?=some fn) (hb:fn.body=some c) (s:(fn.name== "runtime.NumGoroutine")=false) (Z:fn.ntmps=n) (hr:fn.results.toList=J) (hx:xs.length<=n) (S:Ba P T)
  (D:∀k∈ks,k.1<=l) (u:ks.Nodup) (W:∀d,AB hs (1,d)=Fv) (F:∀k,(AB hs k).live=true->k.1=0/\k.2<ks.length)
  (R:∀i k,ks[i]?=some k->(H k).g=HT t (0,i)+(AB hs (0,i)).g/\((AB hs (0,i)).live=true->H k=AJ (Cv l ks t θ H) (0,i) (AB hs (0,i))))
  (I:Ao (Cv l ks t θ H) ys=xs)
  (h:∀C,CxOk C->C.outs=ks.length->C.fx=fx->C.l=l->C.H0=H->C.θ=θ->C.κ=Ed l ks->C.no=(λk=>k∈ks)->LW P n C c (Ab (DQ 0 ys) hs) (FQ T J ks.length LPost))
  (v:∀y b,LPost y b->b.length=ks.length/\(∀x∈b,x.live=true)/\∀r:Ren,r.κ=Ed l ks->r.θ=θ->r.H0=H->r.no=(λk=>k∈ks)->(∀i∈fx,r.γ (0,i)=HT t (0,i))->g (ren r y) (DU H ks (C4 r 0 b))):Zc0 P f l xs H g:=by
 let C:Base->Cx:=λB=>⟨l,B,Ed l ks,θ,H,ks.length,λk=>k∈ks,fx,λγ=>∀i∈fx,γ (0,i)=HT t (0,i)⟩;have a:∀i,i<ks.length->ks[i]?=some (Ed l ks (0,i)):=λi hi=>by show _=some (match Bl ks i with|some k=>k|none=>(0,0));rw[Cp,Yd hi]
 have E:∀(i:Nat) (k:Ad),ks[i]?=some k->i<ks.length:=λi k hi=>by grind
 have K:∀B,CxOk (C B):=λB=>by
  refine⟨λ_=>rfl,λi hi=>D _ (Yh (a i hi)),λi j hi Y e=>?_,λk w=>?_,λγ γ' he A i hi=>by rw[he i hi];exact A i hi⟩
  ·have m:=a i hi;have o:=a j Y;rw[show Ed l ks (0,i)=Ed l ks (0,j)from e]at m;have Q:ks[i]?=ks[j]?:=m.trans o.symm;exact(List.getElem?_inj hi u).1 Q
  ·obtain⟨i,hi⟩:=YP.1 (show k∈ks from w);grind
 refine sM J C (γ:=HT t) (LPost:=LPost) (ys:=ys) (hs:=hs) V hb s Z hr hx S K (λB=>⟨rfl,rfl,rfl,λi _=>rfl⟩) (λB=>I) (λ_=>rfl) W (λB k w=>?_) (λB i hi=>?_) (λB γ y b N A hy L _=>?_) (λB=>h _ (K B) rfl rfl rfl rfl rfl rfl rfl)
 ·obtain⟨m,o⟩:=F k w;obtain⟨k1,M⟩:=k;simp only at m o;subst m;exact⟨rfl,o,(R M _ (a M o)).2 w⟩
 ·grind
 ·obtain⟨U,z,v⟩:=v y b hy;have v:=v ((C B).r γ) rfl rfl rfl rfl λi hi=>A i hi;have O:N=DU H ks (C4 ((C B).r γ) 0 b):=by
   funext q;by_cases G:q∈ks
   ·obtain⟨i,hi⟩:=YP.1 G;have X:=E i q hi;have p:b[i]?=some b[i]:=Yd ae;have m:=L.live i _ p (z _ (Yh p));have o:Ed l ks (0,i)=q:=(by grind);rw[show(C B).κ (0,i)=q from o]at m;rw[m,ts ks _ H u i q (AJ ((C B).r γ) (0,i) b[i]) hi];rw[sB,p,YX];rfl
   ·rw[dF ks _ H q G];exact L.o q G
  rw[O];exact v
theorem Znq{P:Program}{T:Nat->Option TI}{n:Nat}{f:FuncId}{fn:Func}(w:List ResultVar)(c:Code){l:Nat}{xs:List AV}{H:Hp}{a:AV->Hp->Prop}(ks:List Ad)(e:List Nat)(fx:List Nat)(θ:Nat->AV)(ys:List AV)(hs:List (Ad×Blk))(LPost:AV->List Blk->Prop)
  (G:P.funcs[f]?=some fn) (hb:fn.body=some c) (g:(fn.name== "runtime.NumGoroutine")=false) (J:fn.ntmps=n) (K:fn.results.toList=w) (hx:xs.length<=n) (E:Ba P T)
  (q:∀k∈ks,k.1<=l) (t:ks.Nodup) (p:∀i,i<ks.length->i∈fx) (I:∀d,AB hs (1,d)=Fv) (s:∀k,(AB hs k).live=true->k.1=0/\k.2<ks.length)
  (D:∀i k,ks[i]?=some k->(H k).g=HT e (0,i)+(AB hs (0,i)).g/\((AB hs (0,i)).live=true->H k=AJ (Cv l ks e θ H) (0,i) (AB hs (0,i))))
  (v:Ao (Cv l ks e θ H) ys=xs)
  (h:∀C,CxOk C->C.outs=ks.length->C.fx=fx->C.l=l->C.H0=H->C.θ=θ->C.κ=Ed l ks->C.no=(λk=>k∈ks)->LW P n C c (Ab (DQ 0 ys) hs) (FQ T w ks.length LPost))
  (u:∀y b,LPost y b->b.length=ks.length/\(∀x∈b,x.live=true)/\∃Y' bs',(∀r,Jp l ks e r->ren r y=Y')/\(∀r,Jp l ks e r->C4 r 0 b=bs')/\a Y' (DU H ks bs')):Zc0 P f l xs H a:=by
 refine qX w c ks e fx θ ys hs LPost G hb g J K hx E q t I s D v h λy b hy=>?_;obtain⟨m,o,Y',bs',F,B,u⟩:=u y b hy;refine⟨m,o,λr z _ _ _ A=>?_⟩;have j:Jp l ks e r:=⟨z,λi hi=>A i (p i hi)⟩;rw[F _ j,B _ j];exact u
theorem Zq2{P:Program}{T:Nat->Option TI}{n:Nat}{f:FuncId}{fn:Func}(v:List ResultVar)(c:Code){l:Nat}{xs:List AV}{H:Hp}{a:AV->Hp->Prop}(ks:List Ad)(g:List Nat)(fx:List Nat)(θ:Nat->AV)(ys:List AV)(hs:List (Ad×Blk))(Y:AV)(j:List Blk){Y':AV}{bs':List Blk}
  (E:P.funcs[f]?=some fn) (hb:fn.body=some c) (e:(fn.name== "runtime.NumGoroutine")=false) (G:fn.ntmps=n) (J:fn.results.toList=v) (hx:xs.length<=n) (B:Ba P T)
  (q:∀k∈ks,k.1<=l) (t:ks.Nodup) (p:∀i,i<ks.length->i∈fx) (F:∀d,AB hs (1,d)=Fv) (s:∀k,(AB hs k).live=true->k.1=0/\k.2<ks.length)
  (A:∀i k,ks[i]?=some k->(H k).g=HT g (0,i)+(AB hs (0,i)).g/\((AB hs (0,i)).live=true->H k=AJ (Cv l ks g θ H) (0,i) (AB hs (0,i))))
  (u:Ao (Cv l ks g θ H) ys=xs) (m:j.length=ks.length) (o:∀b∈j,b.live=true) (D:∀r,Jp l ks g r->ren r Y=Y') (z:∀r,Jp l ks g r->C4 r 0 j=bs')
  (h:∀C,CxOk C->C.outs=ks.length->C.fx=fx->C.l=l->C.H0=H->C.θ=θ->C.κ=Ed l ks->C.no=(λk=>k∈ks)->LW P n C c (Ab (DQ 0 ys) hs) (FQ T v ks.length (λy b=>y=Y/\b=j)))
  (I:a Y' (DU H ks bs')):Zc0 P f l xs H a:=by
 exact Znq v c ks g fx θ ys hs (λy b=>y=Y/\b=j) E hb e G J hx B q t p F s A u h λy b ⟨w,x⟩=>by subst w;subst x;exact⟨m,o,Y',bs',D,z,I⟩
section
variable {P:Program} {l:Nat} {r:Ren} {f:FuncId} {xs xs':List AV} {hb Av:List (Ad×Blk)} {x x':AV}
theorem Zwh(e:Ao r xs=xs')(g:ren r x=x')(h:∀a,(∀p∈hb,(a (r.κ p.1)).g=r.γ p.1+p.2.g/\(p.2.live=true->a (r.κ p.1)=AJ r p.1 p.2))->(∀k:Ad,k.1<=l->¬r.no k->a k=r.H0 k)->Zc0 P f (l+1) xs' a (λy b=>y=x'/\b=Dq r Av a)):
  IL P l r f xs hb x Av []:=λa hb i=>by
 rw[e];exact(h a hb i).mono λy b ⟨c,d⟩=>⟨r.γ,λ_ _=>rfl,by rw[c,<-g],d⟩
end
theorem ZxM{α:Type}{e:α->List D}{r:Ren}{k:Ad}(xs:List α):Ge r k (Ac e xs):=by unfold Ge;rw[JW (Ff e xs)];refine Yu.2 λx hx=>?_;obtain⟨d,_,rfl⟩:=YV.1 hx;rfl
theorem xG{r:Ren}{k:Ad}{vs:List AV}(h:(Ao r vs).all (AV.low (r.κ k).1)=true):Ge r k vs:=h
theorem Ip{r:Ren}{k:Ad}(ds:List D):Ge r k (ds.map .d):=by unfold Ge;rw[Iq];refine Yu.2 λx hx=>?_;obtain⟨d,_,rfl⟩:=YV.1 hx;rfl
theorem q7{α:Type}(e:α->List D)(xs:List α):FW (Ac e xs):=λx hx=>by obtain⟨d,_,rfl⟩:=YV.1 hx;rfl
theorem Zv0{α:Type}{e:α->List D}{xs:List α}{off cn sz:Nat}{z:List AV}(hl:∀x,(e x).length=sz)(h:off+cn<=xs.length):
  aL (Ac e xs) off cn sz z ((Ac e xs).take (off*sz)++(List.replicate cn z).flatten++(Ac e xs).drop ((off+cn)*sz)):=by
 refine⟨?_,rfl⟩;rw[GA hl];exact Y8 _ h
theorem ZxA{α:Type}{e:α->List D}{xs:List α}{off sz:Nat}{A B:List AV}(hl:∀x,(e x).length=sz)(h:off<=xs.length):∃m,((Ac e xs).take (off*sz)++A++B).take m=Ac e (xs.take off):=by
 refine⟨off*sz,?_⟩;have a:((Ac e xs).take (off*sz)).length=off*sz:=by rw[YD,GA hl];exact FJ (Y8 _ h)
 rw[DZ,RY ae,Jr ae,dM hl]
def IY(n:Nat):List (Ad×Blk)->Bool
 |[]=>true
 |(k,_)::r=>Nat.beq k.1 0&&Nat.ble (k.2+1) n&&IY n r
theorem fc{n:Nat}:∀{hs:List (Ad×Blk)},IY n hs=true->∀k,(AB hs k).live=true->k.1=0/\k.2<n
 |[],_,k,h=>by simp[AB,Fv]at h
 |(q,b)::r,hi,k,h=>by
  simp only[IY,Yb]at hi;simp only[AB]at h;split at h
  ·rename_i a;have a:=Cw.1 a;subst a;exact⟨Ye hi.1.1,Yj hi.1.2⟩
  ·exact fc hi.2 k h
theorem dT{n:Nat}:∀{hs:List (Ad×Blk)},IY n hs=true->∀d,AB hs (1,d)=Fv
 |[],_,d=>rfl
 |(q,b)::r,hi,d=>by
  simp only[IY,Yb]at hi;simp only[AB];split
  ·rename_i a;have a:=Cw.1 a;subst a;have:=Ye hi.1.1;grind
  ·exact dT hi.2 d
def KH(H:Hp)(r:Ren)(hs:List (Ad×Blk)):Nat->List Ad->Prop
 |_,[]=>True
 |i,k::ks=>((H k).g=r.γ (0,i)+(AB hs (0,i)).g/\((AB hs (0,i)).live=true->H k=AJ r (0,i) (AB hs (0,i))))/\KH H r hs (i+1) ks
theorem fR{H:Hp}{r:Ren}{hs:List (Ad×Blk)}:∀{ks:List Ad} {i:Nat},KH H r hs i ks->∀j k,ks[j]?=some k->(H k).g=r.γ (0,i+j)+(AB hs (0,i+j)).g/\((AB hs (0,i+j)).live=true->H k=AJ r (0,i+j) (AB hs (0,i+j)))
 |[],i,_,j,k,h=>by simp at h
 |q::ks,i,h,0,k,a=>by simp only[Gs,Yn]at a;subst a;exact h.1
 |q::ks,i,h,j+1,k,a=>by have:=fR h.2 j k (by simpa using a);grind
def Ko(l:Nat):List Ad->Prop
 |[]=>True
 |k::ks=>k.1<=l/\Ko l ks
theorem US{l:Nat}:∀{ks:List Ad},Ko l ks->∀k∈ks,k.1<=l
 |q::ks,h,k,a=>by
  rcases Yy.1 a with rfl|a
  ·exact h.1
  ·exact US h.2 k a
def JA:Nat->List Nat
 |0=>[]
 |n+1=>JA n++[n]
theorem Uq:∀{n i:Nat},i<n->i∈JA n
 |n+1,i,h=>by
  simp only[JA,Hg,Hb];rcases YL i n with a|a
  ·exact .inl (Uq a)
  grind
theorem Zne{P:Program}{T:Nat->Option TI}{n:Nat}{f:FuncId}{fn:Func}(u:List ResultVar)(c:Code){l:Nat}{xs:List AV}{H:Hp}{a:AV->Hp->Prop}(ks:List Ad)(g:List Nat)(os:Nat)(θ:Nat->AV)(ys:List AV)(hs:List (Ad×Blk))(Y:AV)(e:List Blk){Y':AV}{bs':List Blk}
  (A:P.funcs[f]?=some fn) (hb:fn.body=some c) (d:(fn.name== "runtime.NumGoroutine")=false) (D:fn.ntmps=n) (F:fn.results.toList=u) (hx:xs.length<=n) (x:Ba P T) (s:ks.length=os)
  (p:Ko l ks) (q:ks.Nodup) (j:IY os hs=true) (w:KH H (Cv l ks g θ H) hs 0 ks) (t:Ao (Cv l ks g θ H) ys=xs) (m:e.length=os) (o:∀b∈e,b.live=true) (z:∀r,Jp l ks g r->ren r Y=Y') (v:∀r,Jp l ks g r->C4 r 0 e=bs')
  (h:∀C,CxOk C->C.outs=os->C.fx=JA os->C.l=l->C.H0=H->C.θ=θ->C.κ=Ed l ks->C.no=(λk=>k∈ks)->LW P n C c (Ab (DQ 0 ys) hs) (FQ T u os (λy b=>y=Y/\b=e)))
  (E:a Y' (DU H ks bs')):Zc0 P f l xs H a:=by
 subst s;exact Zq2 u c ks g (JA ks.length) θ ys hs Y e A hb d D F hx x (US p) q (λi hi=>Uq hi) (dT j) (fc j) (λi k B=>by have:=fR w i k B;rw[YX]at this;exact this) t m o z v h E
theorem ZqM{α:Type}{e e':α->List D}{xs:List α}{j sz:Nat}{x:α}(hx:xs[j]?=some x)(hl:∀x,(e x).length=sz)(he:∀x,e x=e' x):D3 (Ac e xs) (j*sz) ((e' x).map .d):=by
 have a:j<xs.length:=by grind
 have:=q5 (z:=x) a hl he;grind
theorem xC{P:Program}{l o:Nat}{no b:Ad->Prop}{H j:Hp}{c:AV}{m:List AV}{y:AV}(h:B9 P l no H c m y)(hl:l<=o)(i:∀q:Ad,q.1<=l->¬no q->¬b q)(r:∀q:Ad,q.1<=l->¬no q->j q=H q):B9 P o b j c m y:=by obtain⟨f,first,a,e,h⟩:=h;exact⟨f,first,a,e,λl' p g s=>h l' p (D2 hl g) λk d n=>by rw[s k (D2 d hl) (i k d n),r k d n]⟩
def vt:Code->Operand
 |.cond o _ _=>o
 |_=>.tmp 0
def F4(c:Code)(k:Nat):Option Nat:=match Ht c k with|some (d,_,_)=>d|none=>none
def callF(c:Code)(k:Nat):Operand:=match Ht c k with|some (_,f,_)=>f|none=>.tmp 0
def Hy(c:Code)(k:Nat):List Operand:=match Ht c k with|some (_,_,xs)=>xs|none=>[]
theorem se{P:Program}{n:Nat}{C:Cx}{Q:Exit->St->Prop}(m:CxOk C){os:Nat}{fx:List Nat}(p:C.outs=os)(o:C.fx=fx){c:Code}{k:Nat}{ss:List (Nat×AV)}{hs:List (Ad×Blk)}
  (f:FuncId) (first a xs:List AV) (i:Ht c k=some (F4 c k,callF c k,Hy c k)) (q:ev (Az ss) (callF c k)=.fn (.func f) first a) (l:first++(Hy c k).map (ev (Az ss))++a=xs) (ks:List Ad) (hb:List (Ad×Blk)) (e:(ks.map λk=>(k,AB hs k))=hb)
  (x:AV) (Av:List (Ad×Blk)) (fr fl:List Ad) (g:(DT os Av&&Mw fr Av&&NQ fr fx&&Iy hs&&Og n (F4 c k)&&ks.all (BH os))=true) (j:FF C Av) (d:Kr (AB hs) fl)
  (b:∀r:Ren,r.θ=C.θ->r.H0=C.H0->r.κ=C.κ->r.no=C.no->IL P C.l r f xs hb x Av fr)
  (h:LO P n C c (k+1) (Ab (HD (F4 c k) x (Ej fr ss)) (Av++Dc (Av.map (·.1)) fr fl hs)) Q):LO P n C c k (Ab ss hs) Q:=
 y2 m p o _ _ _ i f first a xs q l ks hb e x Av fr fl g j d b h
end Go.Eng
namespace Go.Eng
open Go
set_option linter.all false
end Go.Eng
namespace Go.Eng
set_option linter.all false
open Go Go.RowKit Go.Shelf
theorem tp{α:Type}{e:α->List D}{xs:List α}{l h:Nat}(q:E1 l h xs.length):E1 l h (xs.map e).length:=by rw[YF];exact q
theorem x0{α:Type}{e:α->List D}{xs:List α}{sz:Nat}(he:∀x,(e x).length=sz):∀d,d∈xs.map e->d.length=sz:=λd h=>by grind
theorem s4{α:Type}{e:α->List D}{xs:List α}{sz l h:Nat}(he:∀x,(e x).length=sz):OI (xs.map e) sz l h (((xs.drop l).take (h-l)).map e):=
 ⟨x0 he,by rw[<-List.map_drop,<-List.map_take]⟩
theorem Zrj{i:Int}{len sz:Nat}(a:0<=i)(h:i<len):MX i len 0 sz (i.toNat*sz):=⟨a,h,by simp⟩
theorem Zyw{α:Type}{e:α->List D}{xs:List α}{j sz a:Nat}{z y:α}{vs:List D}(b:j<xs.length)(hl:∀x,(e x).length=sz)(g:a+vs.length<=sz)(he:e y=(e (xs.getD j z)).take a++vs++(e (xs.getD j z)).drop (a+vs.length)):
  Jq (Ac e xs) (j*sz+a) (vs.map .d) (Ac e (xs.set j y)):=by
 have d:(j+1)*sz<=xs.length*sz:=Y8 _ b;rw[Y1,Mo]at d;refine⟨by rw[YF,GA hl];omega,?_⟩;have hx:xs.getD j z=xs[j]:=by rw[Yg,Yd b];rfl
 rw[hx]at he;have hs:Ac e xs=Ac e (xs.take j)++((e xs[j]).map .d++Ac e (xs.drop (j+1))):=by
  conv=>lhs;rw[<-H9 j xs,H7 b,UI,Ij]
 have c:(Ac e (xs.take j)).length=j*sz:=by rw[GA hl,YD,FJ ae]
 have f:((e xs[j]).map AV.d).length=sz:=by rw[YF,hl]
 rw[hs,List.take_append,Jr (by omega:(Ac e (xs.take j)).length<=j*sz+a),c,show j*sz+a-j*sz=a from by omega,RY ae,
  List.drop_append,iS (by rw[c];omega),c,He,show j*sz+a+(vs.map AV.d).length-j*sz=a+vs.length from by rw[YF];omega,XI ae,
  iM,Ym b,UI,Ij,he]
 simp only[D1,List.map_take,List.map_drop,DZ]
end Go.Eng
namespace Go.Eng
set_option linter.all false
theorem ej{α:Type}{l:List α}{p:α->Bool}:((match l.findIdx? p with|some k=>(k:Int)|none=>-1)>=0)↔l.any p=true:=by
 rw[YU];cases h:l.findIdx? p with
 |none=>
  rw[XK]at h;constructor
  ·intro e;exact absurd e (by decide)
  ·rintro⟨x,hx,a⟩;rw[h x hx]at a;cases a
 |some k=>
  obtain⟨b,c,_⟩:=RZ.1 h;exact⟨λ_=>⟨l[k],Hc b,c⟩,λ_=>Int.natCast_nonneg k⟩
theorem Zw3{α:Type}{e e':α->List D}{xs:List α}{j sz:Nat}{y:α}(a:j<xs.length)(hl:∀x,(e x).length=sz)(he:∀x,e x=e' x):Jq (Ac e xs) (j*sz) ((e' y).map .d) (Ac e (xs.set j y)):=by rw[<-he];exact xf a hl
theorem rJ{α:Type}{sz:Nat}{e e':α->List D}{y:α}(C:List AV)(hl:∀x,(e x).length=sz)(he:∀x,e x=e' x):Em sz C (.d (.list [e' y])) 1 (Ac e [y]):=by rw[ZwR,he];exact Zvg C (by rw[<-he];exact hl y)
theorem yn{C:List AV}{o n m sz:Nat}{a:List (List D)}(h:n=m)(k:HY C o m sz a):HY C o n sz a:=h▸k
theorem xg{α:Type}{e:α->List D}{xs:List α}{n m off sz:Nat}(a:n=m)(h:off<=xs.length)(hl:∀x,(e x).length=sz):n=m/\off*sz<=(Ac e xs).length/\(Ac e xs).drop (off*sz)=Ac e (xs.drop off):=
 ⟨a,by rw[GA hl];exact Y8 _ h,P7 hl xs off⟩
theorem y6{α:Type}{e:α->List D}{z:α}{c:List AV}(a:(e z).map .d=c)(m:Nat):(List.replicate m c).flatten=Ac e (List.replicate m z):=by
 subst a
 induction m with
 |zero=>rfl
 |succ m b=>rw[XE,KI,b,XE,Ij]
end Go.Eng
namespace Go.Eng
set_option linter.all false
open Go Go.RowKit
section
variable {P:Program} {T:Nat->Option TI} {n:Nat} {C:Cx} {τ:St} {Q:Exit->St->Prop}
theorem x7(f:CxOk C){os:Nat}{fx:List Nat}(k:C.outs=os)(i:C.fx=fx){c:Code}(a:AT)(lf:Lf)(q:Ren->(St->Prop)->Prop)
  (m:∀r Φ,A9 r os a τ (λτ _=>Ei fx lf τ Φ)=q r Φ) (h:∀r,r.θ=C.θ->r.H0=C.H0->r.κ=C.κ->r.no=C.no->q r (λτ'=>LW P n C c τ' Q)):LW P n C c τ Q:=by
 subst k;subst i;intro γ σ l j;have e:=h (C.r γ) rfl rfl rfl rfl;rw[<-m]at e;obtain⟨y,w,x,g,b,d⟩:=Ci (n:=n) f a e j;obtain⟨u,z,v,o,p,s,t⟩:=Ii (n:=n) f g l b;exact BL.weak (p u v o s) (d.trans t)
end
theorem sd{s:ByteArray}{i:Int}(a:0<=i)(h:i<s.size):Kl s i ((s.data.toList.getD i.toNat 0).toNat:Int):=by have:=tx (s:=s) (i:=i.toNat) ae;rwa [Int.toNat_of_nonneg a]at this
end Go.Eng
