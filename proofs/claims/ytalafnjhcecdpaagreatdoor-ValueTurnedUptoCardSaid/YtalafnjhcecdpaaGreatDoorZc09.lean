import Derived.Test.YtalafnjhcecdpaaGreatDoorZc08
import Derived.Shelf.Spec.SlicesGrow
import Derived.Test.YtalafnjhcecdpaaGreatDoorZc00
namespace Go.Eng
set_option linter.all false
open Go Go.RowKit
theorem Hu{α:Type}(e:α→List D)(x:α)(xs:List α):Aa e (x::xs)=(e x).map .d++Aa e xs:=by simp[Aa]
theorem OA{α:Type}{e:α→List D}{sz:Nat}(hl:∀x,(e x).length=sz):∀(xs:List α) (j:Nat),(Aa e xs).drop (j*sz)=Aa e (xs.drop j)
 |[],j=>by simp[Aa]
 |x::xs,0=>by simp
 |x::xs,j+1=>by
  have a:((e x).map AV.d).length=sz:=by rw[YE,hl]
  rw[Hu,YX,Le,Np,←ND,List.drop_left' a,OA hl xs j]
  rfl
theorem ZP{α:Type}{e:α→List D}{sz:Nat}(hl:∀x,(e x).length=sz):∀(xs:List α) (j:Nat),(Aa e xs).take (j*sz)=Aa e (xs.take j)
 |[],j=>by simp[Aa]
 |x::xs,0=>by simp[Aa]
 |x::xs,j+1=>by
  have a:((e x).map AV.d).length=sz:=by rw[YE,hl]
  rw[Hu,List.take_succ_cons,Hu,YX,Le,Np,List.take_append,a,Nat.add_sub_cancel_left,ZP hl xs j,K9 (by omega)]
theorem n0{α:Type}{xs:List α}{j:Nat}{z:α}(a:j<xs.length):xs.drop j=xs.getD j z::xs.drop (j+1):=by
 rw[GA a,Yj,Ya a];rfl
theorem l1{α:Type}{e e':α→List D}{xs:List α}{j sz:Nat}{z:α}(a:j<xs.length)(hl:∀x,(e x).length=sz)(he:∀x,e x=e' x):DF (Aa e xs) (j*sz) ((e' (xs.getD j z)).map .d):=by
 unfold DF
 rw[OA hl,n0 (z:=z) a,Hu,he,List.take_left]
theorem x9{α:Type}{e e':α→List D}{xs:List α}{j sz o:Nat}{z:α}{c:List AV}(b:j<xs.length)(hl:∀x,(e x).length=sz)(he:∀x,e x=e' x)
  (a:(((e' (xs.getD j z)).map .d).drop o).take c.length=c) (f:o+c.length≤sz):DF (Aa e xs) (j*sz+o) c:=by
 unfold DF
 have d:((e' (xs.getD j z)).map AV.d).length=sz:=by rw[YE,←he,hl]
 rw[←ND,OA hl,n0 (z:=z) b,Hu,he,Vc (by omega),P1 (by rw[EC];omega),a]
theorem ZyP{α:Type}{e:α→List D}{xs:List α}{j sz:Nat}{y:α}(b:j<xs.length)(hl:∀x,(e x).length=sz):Iu (Aa e xs) (j*sz) ((e y).map .d) (Aa e (xs.set j y)):=by
 have a:((e y).map AV.d).length=sz:=by rw[YE,hl]
 have c:(j+1)*sz≤xs.length*sz:=Y2 _ b
 rw[YX,Le]at c
 refine⟨by rw[a,Hx hl];omega,?_⟩
 rw[a,ZP hl,show j*sz+sz=(j+1)*sz from by rw[YX,Le],OA hl,ec,Yk b,Sh,Hu,DO]
def Uz:D→Option Value
 |.int k n=>some (.int k n)
 |.bool b=>some (.bool b)
 |.str s=>some (.string s)
 |.list _=>none
 |.map _ _=>none
theorem sV{w:World}{S:Nat→Prop}{d:D}{u v:Value}(h:Uz d=some v)(a:RepD w S d u):u=v:=by
 cases a<;>simp only[Uz,Yh]at h<;>first|exact h|cases h
theorem rI{w:World}{S:Nat→Prop}{H:Hp}{m:Mu}{l:Nat}{ds:List D}{V:List Value}{vs:Array Value}(h:ds.map Uz=V.map some)(f:J8 w S H m l (ds.map .d) vs):vs=V.toArray:=by
 have hl:ds.length=V.length:=by simpa using congrArg List.length h
 apply CN
 apply List.ext_getElem?
 intro i
 obtain⟨b,e⟩:=f
 have b:ds.length=vs.size:=by simpa using b
 rcases YD i ds.length with hi|hi
 ·have c:vs[i]?=some vs[i]:=Yq (by omega)
  have j:=e i (.d ds[i]) vs[i] (by simp[Ya hi]) c
  have a:=congrArg (fun l=>l[i]?) h
  simp only[YM,Ya hi,Ya (show i<V.length by omega),YZ,Yh]at a
  rw[YB,c,Ya (show i<V.length by omega)]
  cases j with|d _ _ g=>rw[sV a g]
 grind
end Go.Eng
namespace Go.Eng
set_option linter.all false
open Go Go.RowKit
def C5(r:Ren):List (Ad×Blk)→Hp→Hp
 |[],H=>H
 |(k,b)::a,H=>C5 r a (updH H (r.κ k) (AE r k b))
def HQ(P:Program)(l:Nat)(r:Ren)(f:FuncId)(xs:List AV)(d:List (Ad×Blk))(x:AV)(Aq:List (Ad×Blk))(fr:List Ad):Prop:=
 ∀a,(∀p∈d,(a (r.κ p.1)).g=r.γ p.1+p.2.g∧(p.2.live=true→a (r.κ p.1)=AE r p.1 p.2))→(∀k:Ad,k.1≤l→¬r.no k→a k=r.H0 k)→
  Zcu P f (l+1) (Al r xs) a (fun y b=>∃c:Ad→Nat,(∀k,k∉fr→c k=r.γ k)∧y=ren ⟨r.κ,c,r.θ,r.H0,r.no⟩ x∧b=C5 ⟨r.κ,c,r.θ,r.H0,r.no⟩ Aq a)
mutual
def GJ(fr:List Ad):AV→Bool
 |.ref k _ _ _=>fr.any (Bu k)
 |.ptr k _ _=>fr.any (Bu k)
 |.mp k _=>fr.any (Bu k)
 |.fn _ xs ys=>Hz fr xs||Hz fr ys
 |.agg xs=>Hz fr xs
 |.tup xs=>Hz fr xs
 |.top=>false
 |.d _=>false
 |.e0=>false
 |.p _=>false
 |.iptr _ _=>false
 |.ifc _ _ _=>false
def Hz(fr:List Ad):List AV→Bool
 |[]=>false
 |x::xs=>GJ fr x||Hz fr xs
end
def DU(fr:List Ad):List (Nat×AV)→List (Nat×AV)
 |[]=>[]
 |(j,x)::r=>(j,match GJ fr x with|true=>.top|false=>x)::DU fr r
def CR(ks fr fl:List Ad):List (Ad×Blk)→List (Ad×Blk)
 |[]=>[]
 |(k,b)::r=>match ks.any (Bu k),fl.any (Bu k)||!Hz fr b.cells with
  |false,true=>(k,b)::CR ks fr fl r
  |_,_=>CR (k::ks) fr fl r
def GV:Option Nat→AV→List (Nat×AV)→List (Nat×AV)
 |some d,x,r=>(d,x)::r
 |none,_,r=>r
def Bv(os:Nat)(k:Ad):Bool:=Nat.beq k.1 1||(Nat.beq k.1 0&&Nat.ble (k.2+1) os)
def Dv(os:Nat):List (Ad×Blk)→Bool
 |[]=>true
 |(k,b)::r=>Bv os k&&b.live&&!(r.any fun p=>Bu k p.1)&&Dv os r
mutual
theorem l4{r:Ren}{b:Ad→Nat}{fr:List Ad}(a:∀k,k∉fr→b k=r.γ k):∀(x:AV),GJ fr x=false→ren ⟨r.κ,b,r.θ,r.H0,r.no⟩ x=ren r x
 |.ref k g off n,h=>by simp only[GJ]at h;simp only[ren];rw[a k (SI h)]
 |.ptr k g off,h=>by simp only[GJ]at h;simp only[ren];rw[a k (SI h)]
 |.mp k g,h=>by simp only[GJ]at h;simp only[ren];rw[a k (SI h)]
 |.fn f xs ys,h=>by
  simp only[GJ,Lb]at h
  have c:=L7 a xs h.1
  have d:=L7 a ys h.2
  cases f<;>simp only[ren,c,d]
 |.agg xs,h=>by simp only[GJ]at h;simp only[ren,L7 a xs h]
 |.tup xs,h=>by simp only[GJ]at h;simp only[ren,L7 a xs h]
 |.top,_=>by simp[ren]
 |.d _,_=>by simp[ren]
 |.e0,_=>by simp[ren]
 |.p _,_=>by simp[ren]
 |.iptr _ _,_=>by simp[ren]
 |.ifc _ _ _,_=>by simp[ren]
theorem L7{r:Ren}{b:Ad→Nat}{fr:List Ad}(a:∀k,k∉fr→b k=r.γ k):∀(xs:List AV),Hz fr xs=false→Al ⟨r.κ,b,r.θ,r.H0,r.no⟩ xs=Al r xs
 |[],_=>by simp[Al]
 |x::xs,h=>by
  simp only[Hz,Lb]at h
  simp only[Al,l4 a x h.1,L7 a xs h.2]
theorem SI{k:Ad}{fr:List Ad}(h:fr.any (Bu k)=false):k∉fr:=fun hm=>by
 have:fr.any (Bu k)=true:=YL.2 ⟨k,hm,Cg.2 rfl⟩
 grind
end
def BU:Code→Array Oper
 |.region _ ops _=>ops
 |_=>#[]
def fj:Code→Bool
 |.region _ _ false=>true
 |_=>false
def GL{α:Type}:Nat→List α→List α
 |0,l=>l
 |_+1,[]=>[]
 |n+1,_::l=>GL n l
def HP{α:Type}:Nat→List α→List α
 |0,_=>[]
 |_+1,[]=>[]
 |n+1,x::l=>x::HP n l
theorem au{α:Type}:∀(n:Nat) (l:List α),GL n l=l.drop n
 |0,l=>rfl
 |n+1,[]=>rfl
 |n+1,x::l=>au n l
theorem Se{α:Type}:∀(n:Nat) (l:List α),HP n l=l.take n
 |0,l=>rfl
 |n+1,[]=>rfl
 |n+1,x::l=>by rw[HP,Se n l];rfl
def LO(P:Program)(n:Nat)(C:Cx)(c:Code)(k:Nat)(τ:St)(Q:Exit→St→Prop):Prop:=
 ∀γ σ a w,C.G γ→RG (C.r γ) C.l C.outs [] τ σ→R C.l n C.B σ a w→wpList P (BU c) (fun e d w'=>∃b,Is n C (Q e) b∧R C.l n C.B b d w') ((BU c).toList.drop k) a w
def GK(c:Code)(k:Nat):Option (Option Nat×Operand×List Operand):=
 match Bg (BU c).toList k with
 |some o=>(match o.guard,o.op with
  |none,.call cl=>(match cl.callee with|.value f=>some (o.dst,f,cl.args.toList)|_=>none)
  |_,_=>none)
 |none=>none
def E2(C:Cx):List (Ad×Blk)→Prop
 |[]=>True
 |(k,_)::r=>match Nat.beq k.1 1 with|true=>E2 C r|false=>C.no (C.κ k)∧E2 C r
def Jn(H:Hp):List Ad→Prop
 |[]=>True
 |k::r=>HN (H k).cells∧Jn H r
def Lq(fr:List Ad)(Aq:List (Ad×Blk)):Bool:=fr.all fun k=>Aq.any fun p=>Bu k p.1
def Mn(fr:List Ad)(fx:List Nat):Bool:=fr.all fun k=>!(Nat.beq k.1 0&&fx.any (Nat.beq k.2))
def HS:List (Ad×Blk)→Bool
 |[]=>true
 |(_,b)::r=>Nat.beq b.g 0&&HS r
def iX:Option Nat→(Nat→AV)→AV→Nat→AV
 |some d,s,v=>upd s d v
 |none,s,_=>s
def MO(n:Nat):Option Nat→Bool
 |some d=>Nat.ble (d+1) n
 |none=>true
section
variable {P:Program} {T:Nat→Option TI} {n:Nat} {C:Cx} {τ:St} {Q:Exit→St→Prop}
theorem yu{c:Code}(b:fj c=true)(h:LO P n C c 0 τ Q):LW P n C c τ Q:=by
 cases c with
 |region id ops d=>
  cases d with
  |true=>cases b
  |false=>
   obtain⟨i,rfl⟩:∃l:List Oper,ops=l.toArray:=⟨ops.toList,by simp⟩
   intro γ σ g e a w f
   have:=h γ σ a w g e f
   simp only[BU,Hl]at this
   exact wp_region_lit this
 |_=>cases b
theorem tx(d:CxOk C)(A:A5 P T){os:Nat}{fx:List Nat}(y:C.outs=os)(v:C.fx=fx){c:Code}{k:Nat}(m:Nat)(a:AT)(lf:Lf)(q:Ren→(St→Prop)→Prop)
  (E:∀r Φ,A4 r os a τ (fun τ a=>FH P T C.l n r ((BU c).toList.map (·.dst)) (HP m (GL k (BU c).toList)) [] a (fun τ' env f=>A4 r os f (Dx env τ') (fun τ _=>DV fx lf τ Φ)) τ)=q r Φ)
  (h:∀r,r.θ=C.θ→r.H0=C.H0→r.κ=C.κ→r.no=C.no→q r (fun τ'=>LO P n C c (k+m) τ' Q)):LO P n C c k τ Q:=by
 subst y
 subst v
 intro γ σ g w D x z
 have o:=h (C.r γ) rfl rfl rfl rfl
 rw[←E]at o
 obtain⟨R,p,N,u,i,j⟩:=B8 (n:=n) d a o x
 have e:(BU c).toList.drop k=HP m (GL k (BU c).toList)++(BU c).toList.drop (k+m):=by
  rw[Se,au,←ND,JH]
 rw[e]
 refine L8 (d.ren γ) A (B:=C.B) _ (fun τ' l f U b w' J K L=>?_) _ [] p R N g w u i (j _ _ z)
 obtain⟨V,s,t⟩:=Ox (n:=n) K
 obtain⟨X,S,W,f1,f2,f3⟩:=B8 (n:=n) d f J s
 obtain⟨M,Y,O,F,G,H,I⟩:=Hv (n:=n) d f1 D f2
 exact G M O b w' F H (I _ _ (f3 _ _ (t _ _ L)))
theorem sS(b:CxOk C)(A:A5 P T){os:Nat}{fx:List Nat}(y:C.outs=os)(v:C.fx=fx){c:Code}{k:Nat}(a:AT)(lf:Lf)(q:Ren→(Exit→St→Prop)→Prop)
  (E:∀r Φ,A4 r os a τ (fun τ a=>FH P T C.l n r ((BU c).toList.map (·.dst)) (GL k (BU c).toList) [] a (fun τ' env d=>A4 r os d (Dx env τ') (fun τ _=>DV fx lf τ (Φ .normal))) τ)=q r Φ)
  (h:∀r,r.θ=C.θ→r.H0=C.H0→r.κ=C.κ→r.no=C.no→q r Q):LO P n C c k τ Q:=by
 subst y
 subst v
 intro γ σ f w D x z
 have m:=h (C.r γ) rfl rfl rfl rfl
 rw[←E]at m
 obtain⟨O,p,N,u,g,i⟩:=B8 (n:=n) b a m x
 have e:(BU c).toList.drop k=GL k (BU c).toList++[]:=by rw[au,NC]
 rw[e]
 refine L8 (b.ren γ) A (B:=C.B) _ (fun τ' l d U j w' J K L=>?_) _ [] p O N f w u g (i _ _ z)
 obtain⟨V,s,t⟩:=Ox (n:=n) K
 obtain⟨X,S,W,f1,f2,f3⟩:=B8 (n:=n) b d J s
 obtain⟨M,R,o,F,G,H,I⟩:=Hv (n:=n) b f1 D f2
 unfold wpList
 exact⟨o,⟨M,R,o,F,G,H,Wk.refl _⟩,I _ _ (f3 _ _ (t _ _ L))⟩
theorem Sl:∀{hs:List (Ad×Blk)},HS hs=true→∀k,(Ax hs k).g=0
 |[],_,k=>rfl
 |(k',b)::r,h,k=>by
  simp only[HS,Yc]at h
  simp only[Ax]
  split
  ·exact Yb h.1
  ·exact Sl h.2 k
theorem nh{k:Ad}{ks:List Ad}:ks.any (Bu k)=true↔k∈ks:=by
 rw[YL]
 exact⟨fun⟨q,a,b⟩=>by rw[Cg.1 b];exact a,fun h=>⟨k,h,Cg.2 rfl⟩⟩
theorem rA(a b:List (Ad×Blk))(k:Ad):Ax (a++b) k=if k∈a.map (·.1)then Ax a k else Ax b k:=by
 induction a with
 |nil=>simp
 |cons p a f=>
  obtain⟨q,d⟩:=p
  simp only[JC,Ax,YR,Yu]
  cases c:Bu q k with
  |true=>rw[Yk (.inl (Cg.1 c).symm)]
  |false=>
   have:k≠q:=fun e=>by rw[Cg.2 e.symm]at c;cases c
   grind
theorem Ov{fr fl:List Ad}:∀(hs:List (Ad×Blk)) (ks:List Ad) (k:Ad),(k∈ks→Ax (CR ks fr fl hs) k=EU)∧(k∉ks→(Ax (CR ks fr fl hs) k=Ax hs k∧(k∈fl∨Hz fr (Ax hs k).cells=false))∨Ax (CR ks fr fl hs) k=EU)
 |[],ks,k=>⟨fun _=>rfl,fun _=>.inr rfl⟩
 |(q,b)::r,ks,k=>by
  simp only[CR]
  split
  ·rename_i d a
   have f:q∉ks:=fun hm=>by rw[nh.2 hm]at d;cases d
   simp only[Ax]
   cases c:Bu q k with
   |true=>
    have c:=Cg.1 c
    subst c
    refine⟨fun h=>absurd h f,fun _=>.inl ⟨rfl,?_⟩⟩
    simp only[YF,YU]at a
    rcases a with a|a
    ·exact .inl (nh.1 a)
    grind
   |false=>exact Ov r ks k
  ·obtain⟨d,a⟩:=Ov (fr:=fr) (fl:=fl) r (q::ks) k
   refine⟨fun h=>d (Yx _ h),fun h=>?_⟩
   by_cases c:k=q
   ·grind
   ·rcases a (fun hm=>(Yu.1 hm).elim c h)with⟨i,j⟩|e
    ·have:Bu q k=false:=by
      cases g:Bu q k with
      |true=>exact absurd (Cg.1 g).symm c
      |false=>rfl
     simp only[Ax,this]
     grind
    grind
theorem RU{r:Ren}:∀(Aq:List (Ad×Blk)) (H:Hp) (q:Ad),(∀p∈Aq,r.κ p.1≠q)→C5 r Aq H q=H q
 |[],H,q,h=>rfl
 |(k,b)::a,H,q,h=>by
  simp only[C5]
  rw[RU a _ q (fun p c=>h p (Yx _ c)),AB _ _ (fun e=>h (k,b) (Yz ..) e.symm)]
theorem mY{r:Ren}{os:Nat}(d:∀q k:Ad,Bv os q=true→Bv os k=true→q≠k→r.κ q≠r.κ k):∀(Aq:List (Ad×Blk)) (H:Hp),Dv os Aq=true→∀k b,(k,b)∈Aq→C5 r Aq H (r.κ k)=AE r k b∧Ax Aq k=b∧Bv os k=true∧b.live=true
 |[],H,_,k,b,hm=>by cases hm
 |(q,c)::rest,H,g,k,b,hm=>by
  simp only[Dv,Yc,YU]at g
  obtain⟨⟨⟨i,u⟩,j⟩,m⟩:=g
  have f:∀p∈rest,p.1≠q:=fun p a e=>by
   have:(rest.any fun p=>Bu q p.1)=true:=YL.2 ⟨p,a,Cg.2 e.symm⟩
   rw[this]at j;cases j
  have h:∀(l:List (Ad×Blk)),Dv os l=true→∀p∈l,Bv os p.1=true:=by
   intro l
   induction l with
   |nil=>intro _ p a;cases a
   |cons p l w=>
    obtain⟨x,y⟩:=p
    intro hl p a
    simp only[Dv,Yc]at hl
    rcases Yu.1 a with rfl|a
    ·exact hl.1.1.1
    ·exact w hl.2 p a
  simp only[C5]
  rcases Yu.1 hm with e|hm
  ·cases e
   refine⟨?_,by simp only[Ax,Cg.2 rfl],i,u⟩
   rw[RU rest _ _ (fun p a=>d _ _ (h rest m p a) i (f p a)),AM]
  ·obtain⟨n,o,s,t⟩:=mY d rest (updH H (r.κ q) (AE r q c)) m k b hm
   refine⟨n,?_,s,t⟩
   have:Bu q k=false:=by
    cases v:Bu q k with
    |true=>exact absurd (Cg.1 v).symm (f _ hm)
    |false=>rfl
   simp only[Ax,this]
   exact o
theorem bJ:∀{Aq:List (Ad×Blk)},E2 C Aq→∀p∈Aq,p.1.1≠1→C.no (C.κ p.1)
 |(k,b)::r,h,p,c,a=>by
  simp only[E2]at h
  split at h
  ·rename_i d
   rcases Yu.1 c with rfl|c
   ·exact absurd (Yb d) a
   ·exact bJ h p c a
  ·rcases Yu.1 c with rfl|c
   ·exact h.1
   ·exact bJ h.2 p c a
theorem bX{H:Hp}:∀{ks:List Ad},Jn H ks→∀k∈ks,HN (H k).cells
 |q::r,h,k,a=>by
  rcases Yu.1 a with rfl|a
  ·exact h.1
  ·exact bX h.2 k a
theorem F5{os:Nat}{k:Ad}(h:Bv os k=true):k.1=1∨(k.1=0∧k.2<os):=by
 simp only[Bv,YF,Yc]at h
 rcases h with h|⟨a,b⟩
 ·exact .inl (Yb h)
 ·exact .inr ⟨Yb a,Yg b⟩
theorem ny{fr:List Ad}:∀(ss:List (Nat×AV)) (j:Nat),Av (DU fr ss) j=.top∨(Av (DU fr ss) j=Av ss j∧GJ fr (Av ss j)=false)
 |[],j=>.inl rfl
 |(i,x)::r,j=>by
  simp only[DU,Av]
  split
  ·grind
  ·exact ny r j
theorem Zwb(hC:CxOk C){os:Nat}{fx:List Nat}(hO:C.outs=os)(hF:C.fx=fx){c:Code}{k:Nat}{ss:List (Nat×AV)}{hs:List (Ad×Blk)}(l:Option Nat)(fo:Operand)(aZ:List Operand)(m:GK c k=some (l,fo,aZ))
  (f:FuncId) (first u xs:List AV) (hf:ev (Av ss) fo=.fn (.func f) first u) (hxs:first++aZ.map (ev (Av ss))++u=xs) (ks:List Ad) (J:List (Ad×Blk)) (hhb:(ks.map fun k=>(k,Ax hs k))=J)
  {ι:Type} (I:ι→Prop) (xF:ι→AV) (s:ι→List (Ad×Blk)) (fr fl:List Ad) (M:(Mn fr fx&&HS hs&&MO n l&&ks.all (Bv os))=true) (t:∀i,(Dv os (s i)&&Lq fr (s i))=true) (H:∀i,E2 C (s i)) (hfl:Jn (Ax hs) fl)
  (T:∀r:Ren,r.θ=C.θ→r.H0=C.H0→r.κ=C.κ→r.no=C.no→∀V,(∀p∈J,(V (r.κ p.1)).g=r.γ p.1+p.2.g∧(p.2.live=true→V (r.κ p.1)=AE r p.1 p.2))→(∀k:Ad,k.1≤C.l→¬r.no k→V k=r.H0 k)→
   Zcu P f (C.l+1) (Al r xs) V (fun y W=>∃i,I i∧∃a:Ad→Nat,(∀k,k∉fr→a k=r.γ k)∧y=ren ⟨r.κ,a,r.θ,r.H0,r.no⟩ (xF i)∧W=C5 ⟨r.κ,a,r.θ,r.H0,r.no⟩ (s i) V))
  (h:∀i,I i→LO P n C c (k+1) (Ac (GV l (xF i) (DU fr ss)) (s i++CR ((s i).map (·.1)) fr fl hs)) Q):LO P n C c k (Ac ss hs) Q:=by
 subst hO
 subst hF
 simp only[Yc]at M
 obtain⟨⟨⟨k3,k4⟩,k5⟩,k6⟩:=M
 intro γ σ act w hg z hR
 have hr:=hC.ren γ
 have hs':∀j,σ.s j=ren (C.r γ) (Av ss j):=fun j=>(z.s j).1 A3
 have A:∀y:Operand,ev σ.s y=ren (C.r γ) (ev (Av ss) y):=fun y=>J9 (c:=[]) z A3 (by cases y<;>rfl)
 unfold GK at m
 split at m
 case h_2=>cases m
 rename_i o ho
 split at m
 case h_2=>cases m
 rename_i cl hgd hopc
 split at m
 case h_2=>cases m
 rename_i fo' hcal
 simp only[Yh,Gy]at m
 obtain⟨hd,rfl,rfl⟩:=m
 rw[Cb]at ho
 have hlt:k<(BU c).toList.length:=by
  grind
 have U:(BU c).toList.drop k=o::(BU c).toList.drop (k+1):=by
  rw[GA hlt]
  grind
 rw[U]
 have L:∀q k:Ad,Bv C.outs q=true→Bv C.outs k=true→q≠k→(C.r γ).κ q≠(C.r γ).κ k:=fun q k Z h2 h3=>hr.ne (F5 Z) (F5 h2) h3
 have hA:=T (C.r γ) rfl rfl rfl rfl σ.H (fun p E=>by
  rw[←hhb]at E
  obtain⟨q,g,rfl⟩:=YT.1 E
  have hq':=F5 (Ys.1 k6 q g)
  refine⟨?_,fun hl=>z.h q hl⟩
  obtain⟨q1,q2⟩:=q
  simp only at hq'
  rcases hq' with rfl|⟨rfl,h2⟩
  ·have:=z.g q2
   rw[←hr.own]at this
   exact this
  ·exact z.go q2 h2) z.o
 have S:Al (C.r γ) xs=Al (C.r γ) first++cl.args.toList.map (ev σ.s)++Al (C.r γ) u:=by
  rw[←hxs,GH,GH]
  congr 2
  rw[Fl,Hj]
  exact Y8 fun y _=>(A y).symm
 have hfe:ev σ.s fo'=.fn (.func f) (Al (C.r γ) first) (Al (C.r γ) u):=by rw[A,hf];simp[ren]
 have hrop:Bs P C.l n o (fun σ'=>∃i,I i∧∃a:Ad→Nat,(∀q,q∉fr→a q=γ q)∧σ'=⟨iX l σ.s (ren (C.r a) (xF i)),C5 (C.r a) (s i) σ.H⟩) σ:=by
  unfold Bs
  rw[hopc]
  simp only[hcal,hfe]
  rw[S]at hA
  refine hA.mono fun y W ⟨i,hi,a,N,e2,e3⟩=>?_
  unfold NS Cp
  rw[hd]
  cases l with
  |none=>exact⟨i,hi,a,N,by rw[e3];rfl⟩
  |some d=>exact⟨Yg k5,i,hi,a,N,by rw[e2,e3];rfl⟩
 refine X5 (by simp[Region.wanted,hgd]) (JW hrop) hR fun σ' Y w' hK O=>?_
 obtain⟨i,hi,a,N,rfl⟩:=hK
 have h:=h i hi
 have H:=H i
 have t:=t i
 generalize s i=Aq at h H t O
 generalize xF i=x at h O
 simp only[Yc]at t
 obtain⟨k1,k2⟩:=t
 have hsub:∀q,q∈fr→∃b,(q,b)∈Aq:=fun q g=>by
  obtain⟨p,E,hk⟩:=YL.1 (Ys.1 k2 q g)
  rw[Cg.1 hk];exact⟨p.2,E⟩
 let τ2:St:=Ac (GV l x (DU fr ss)) (Aq++CR (Aq.map (·.1)) fr fl hs)
 have D:∀q,Ax (Aq++CR (Aq.map (·.1)) fr fl hs) q=if q∈Aq.map (·.1)then Ax Aq q else Ax (CR (Aq.map (·.1)) fr fl hs) q:=fun q=>rA _ _ _
 have hin:∀q,q∈Aq.map (·.1)→∃b,(q,b)∈Aq:=fun q g=>by obtain⟨p,E,rfl⟩:=YT.1 g;exact⟨p.2,E⟩
 have F:∀q b,(q,b)∈Aq→C5 (C.r a) Aq σ.H ((C.r a).κ q)=AE (C.r a) q b∧Ax Aq q=b∧Bv C.outs q=true∧b.live=true:=mY (r:=C.r a) L Aq σ.H k1
 have B:∀q,q∉Aq.map (·.1)→Bv C.outs q=true→C5 (C.r a) Aq σ.H ((C.r a).κ q)=σ.H ((C.r a).κ q)∧a q=γ q:=fun q g v=>by
  refine⟨RU _ _ _ fun p E=>L _ _ (F p.1 p.2 E).2.2.1 v fun e=>g (YT.2 ⟨p,E,e⟩),N q fun hf=>?_⟩
  grind
 have K:∀q,Bv C.outs q=true→(σ.H (C.κ q)).g=γ q→(C5 (C.r a) Aq σ.H (C.κ q)).g=a q+(Ax (Aq++CR (Aq.map (·.1)) fr fl hs) q).g:=fun q v hq0=>by
  rw[D]
  split
  ·rename_i hm
   obtain⟨b,J⟩:=hin q hm
   obtain⟨a1,X,_⟩:=F q b J
   rw[show C.κ q=(C.r a).κ q from rfl,a1,X]
   rfl
  ·rename_i hm
   obtain⟨a1,X⟩:=B q hm v
   rw[show C.κ q=(C.r a).κ q from rfl,a1,X]
   have:(Ax (CR (Aq.map (·.1)) fr fl hs) q).g=0:=by
    rcases(Ov (fr:=fr) (fl:=fl) hs (Aq.map (·.1)) q).2 hm with⟨e,_⟩|e
    ·rw[e];exact Sl k4 q
    ·rw[e];rfl
   rw[this]
   exact hq0
 have hG2:RG (C.r a) C.l C.outs [] τ2 ⟨fun j=>ren (C.r a) (τ2.s j),C5 (C.r a) Aq σ.H⟩:=by
  refine⟨fun j=>⟨fun _=>rfl,fun hn=>absurd A3 hn⟩,fun q g=>?_,fun d=>?_,fun i hi=>?_,fun q g=>?_,fun q g hn=>?_⟩
  ·show C5 (C.r a) Aq σ.H ((C.r a).κ q)=AE (C.r a) q (Ax (Aq++CR (Aq.map (·.1)) fr fl hs) q)
   replace g:(Ax (Aq++CR (Aq.map (·.1)) fr fl hs) q).live=true:=g
   rw[D]at g⊢
   split at g
   ·grind
   ·rename_i hm
    rw[Yi hm]
    rcases(Ov (fr:=fr) (fl:=fl) hs (Aq.map (·.1)) q).2 hm with⟨e,e'⟩|e
    ·rw[e]at g⊢
     have v:=z.k q g
     have t:Bv C.outs q=true:=by
      obtain⟨q1,q2⟩:=q
      simp only at v
      simp only[Bv,YF,Yc]
      rcases v with rfl|⟨rfl,h2⟩
      ·exact .inl rfl
      ·exact .inr ⟨rfl,ep h2⟩
     obtain⟨a1,X⟩:=B q hm t
     rw[a1]
     have J:=z.h q g
     have G:Al (C.r a) (Ax hs q).cells=Al (C.r γ) (Ax hs q).cells:=by
      rcases e' with e'|e'
      ·rw[IE (bX hfl q e'),IE (bX hfl q e')]
      ·exact L7 (r:=C.r γ) N _ e'
     show σ.H ((C.r γ).κ q)=_
     rw[J]
     simp only[AE]
     rw[G,show(C.r a).γ q=a q from rfl,X]
     rfl
    ·rw[e]at g;cases g
  ·have:=K (1,d) rfl (by
    have:=z.g d
    rw[show((Ac ss hs).H (1,d)).g=0 from Sl k4 _]at this
    rw[hC.own];exact this)
   rw[hC.own]at this
   exact this
  ·exact K (0,i) (by simp only[Bv,YF,Yc];exact .inr ⟨rfl,ep hi⟩) (by
    have:=z.go i hi
    rw[show((Ac ss hs).H (0,i)).g=0 from Sl k4 _]at this
    exact this)
  ·replace g:(Ax (Aq++CR (Aq.map (·.1)) fr fl hs) q).live=true:=g
   rw[D]at g
   split at g
   ·rename_i hm
    obtain⟨b,J⟩:=hin q hm
    exact F5 (F q b J).2.2.1
   ·rename_i hm
    rcases(Ov (fr:=fr) (fl:=fl) hs (Aq.map (·.1)) q).2 hm with⟨e,e'⟩|e
    ·rw[e]at g;exact z.k q g
    ·rw[e]at g;cases g
  ·show C5 (C.r a) Aq σ.H q=C.H0 q
   rw[RU _ _ _ fun p E e=>?_]
   ·exact z.o q g hn
   ·by_cases Z:p.1.1=1
    ·obtain⟨⟨p1,p2⟩,p3⟩:=p
     simp only at Z
     subst Z
     rw[show(C.r a).κ (1,p2)=(C.l+1,p2)from hC.own p2]at e
     grind
    ·exact hn (by rw[←e];exact bJ H p E Z)
 refine h a _ Y w' (hC.G γ a (fun i hi=>N _ fun hm=>?_) hg) hG2 (R.weaken O fun j=>?_)
 ·have:=Ys.1 k3 _ hm
  simp only[YU,La]at this
  rcases this with h|h
  ·cases h
  ·have:(C.fx.any (Nat.beq i))=true:=YL.2 ⟨i,hi,by simp⟩
   grind
 ·have old:ren (C.r a) (Av (DU fr ss) j)=σ.s j∨ren (C.r a) (Av (DU fr ss) j)=.top:=by
   rcases ny (fr:=fr) ss j with e|⟨e,e'⟩
   ·right;rw[e];simp[ren]
   ·left
    rw[e,hs' j]
    exact l4 (r:=C.r γ) N _ e'
  show ren (C.r a) (Av (GV l x (DU fr ss)) j)=_∨ren (C.r a) (Av (GV l x (DU fr ss)) j)=.top
  cases l with
  |none=>exact old
  |some d=>
   simp only[GV,Av,iX,upd]
   cases hj:Nat.beq d j with
   |true=>
    have:=Yb hj
    grind
   |false=>
    have:j≠d:=fun e=>by rw[e]at hj;simp at hj
    grind
theorem ZyC(D:CxOk C){os:Nat}{fx:List Nat}(F:C.outs=os)(E:C.fx=fx){c:Code}{k:Nat}{ss:List (Nat×AV)}{hs:List (Ad×Blk)}(e:Option Nat)(l:Operand)(j:List Operand)(q:GK c k=some (e,l,j))
  (f:FuncId) (first d xs:List AV) (G:ev (Av ss) l=.fn (.func f) first d) (t:first++j.map (ev (Av ss))++d=xs) (ks:List Ad) (m:List (Ad×Blk)) (p:(ks.map fun k=>(k,Ax hs k))=m)
  (x:AV) (Aq:List (Ad×Blk)) (fr fl:List Ad) (i:(Dv os Aq&&Lq fr Aq&&Mn fr fx&&HS hs&&MO n e&&ks.all (Bv os))=true) (s:E2 C Aq) (o:Jn (Ax hs) fl)
  (g:∀r:Ren,r.θ=C.θ→r.H0=C.H0→r.κ=C.κ→r.no=C.no→HQ P C.l r f xs m x Aq fr)
  (h:LO P n C c (k+1) (Ac (GV e x (DU fr ss)) (Aq++CR (Aq.map (·.1)) fr fl hs)) Q):LO P n C c k (Ac ss hs) Q:=by
 simp only[Yc]at i
 obtain⟨⟨⟨⟨⟨I,J⟩,K⟩,L⟩,M⟩,N⟩:=i
 exact Zwb D F E e l j q f first d xs G t ks m p (ι:=Unit) (fun _=>True) (fun _=>x) (fun _=>Aq) fr fl (by simp only[Yc];exact⟨⟨⟨K,L⟩,M⟩,N⟩) (fun _=>by simp only[Yc];exact⟨I,J⟩) (fun _=>s) o
  (fun r w z A B u a b=>(g r w z A B u a b).mono fun y v H=>⟨(),trivial,H⟩) fun _ _=>h
end
def DM(l:Nat)(ks:List Ad):Ad→Ad
 |(0,i)=>match Bg ks i with|some k=>k|none=>(0,0)
 |(_+1,d)=>(l+1,d)
def Hb(a:List Nat):Ad→Nat
 |(0,i)=>match Bg a i with|some g=>g|none=>0
 |(_+1,_)=>0
def Cf(l:Nat)(ks:List Ad)(a:List Nat)(θ:Nat→AV)(H:Hp):Ren:=⟨DM l ks,Hb a,θ,H,fun k=>k∈ks⟩
def It(l:Nat)(ks:List Ad)(a:List Nat)(r:Ren):Prop:=r.κ=DM l ks∧∀i,i<ks.length→r.γ (0,i)=Hb a (0,i)
def CH(r:Ren):Nat→List Blk→List Blk
 |_,[]=>[]
 |i,b::a=>AE r (0,i) b::CH r (i+1) a
def Dr(H:Hp):List Ad→List Blk→Hp
 |k::ks,b::a=>Dr (updH H k b) ks a
 |_,_=>H
theorem Zu:∀(ks:List Ad) (a:List Blk) (H:Hp) (q:Ad),q∉ks→Dr H ks a q=H q
 |[],a,H,q,h=>by cases a<;>rfl
 |k::ks,[],H,q,h=>rfl
 |k::ks,b::a,H,q,h=>by
  simp only[Dr]
  rw[Zu ks a _ q (fun hm=>h (Yx _ hm)),AB _ _ (fun e=>h (by rw[e];exact Yz ..))]
theorem n7:∀(ks:List Ad) (a:List Blk) (H:Hp),ks.Nodup→∀(j:Nat) (k:Ad) (b:Blk),ks[j]?=some k→a[j]?=some b→Dr H ks a k=b
 |[],a,H,_,j,k,b,h,_=>by simp at h
 |q::ks,[],H,_,_,_,_,_,h=>by simp at h
 |q::ks,c::a,H,e,j,k,b,d,hb=>by
  simp only[Dr]
  rw[List.nodup_cons]at e
  cases j with
  |zero=>
   simp only[FO,Yh]at d hb
   subst d;subst hb
   rw[Zu ks a _ _ e.1,AM]
  |succ j=>
   simp only[K8]at d hb
   exact n7 ks a _ e.2 j k b d hb
theorem m5{r:Ren}:∀(a:List Blk) (i j:Nat),(CH r i a)[j]?=(a[j]?).map (AE r (0,i+j))
 |[],i,j=>by simp[CH]
 |b::a,i,0=>by simp[CH]
 |b::a,i,j+1=>by
  simp only[CH,K8,m5 a (i+1) j,show i+1+j=i+(j+1)from by omega]
theorem lM{P:Program}{T:Nat→Option TI}{n:Nat}{f:FuncId}{fn:Func}(J:List ResultVar)(c:Code){l:Nat}{xs:List AV}{H:Hp}{g:AV→Hp→Prop}(ks:List Ad)(t:List Nat)(fx:List Nat)(θ:Nat→AV)(ys:List AV)(hs:List (Ad×Blk))(LPost:AV→List Blk→Prop)
  (V:P.funcs[f]?=some fn) (hb:fn.body=some c) (s:(fn.name== "runtime.NumGoroutine")=false) (Z:fn.ntmps=n) (hr:fn.results.toList=J) (hx:xs.length≤n) (S:A5 P T)
  (D:∀k∈ks,k.1≤l) (u:ks.Nodup) (W:∀d,Ax hs (1,d)=EU) (F:∀k,(Ax hs k).live=true→k.1=0∧k.2<ks.length)
  (R:∀i k,ks[i]?=some k→(H k).g=Hb t (0,i)+(Ax hs (0,i)).g∧((Ax hs (0,i)).live=true→H k=AE (Cf l ks t θ H) (0,i) (Ax hs (0,i))))
  (I:Al (Cf l ks t θ H) ys=xs)
  (h:∀C,CxOk C→C.outs=ks.length→C.fx=fx→C.l=l→C.H0=H→C.θ=θ→C.κ=DM l ks→C.no=(fun k=>k∈ks)→LW P n C c (Ac (Ds 0 ys) hs) (FQ T J ks.length LPost))
  (v:∀y b,LPost y b→b.length=ks.length∧(∀x∈b,x.live=true)∧∀r:Ren,r.κ=DM l ks→r.θ=θ→r.H0=H→r.no=(fun k=>k∈ks)→(∀i∈fx,r.γ (0,i)=Hb t (0,i))→g (ren r y) (Dr H ks (CH r 0 b))):Zcu P f l xs H g:=by
 let C:Base→Cx:=fun B=>⟨l,B,DM l ks,θ,H,ks.length,fun k=>k∈ks,fx,fun γ=>∀i∈fx,γ (0,i)=Hb t (0,i)⟩
 have a:∀i,i<ks.length→ks[i]?=some (DM l ks (0,i)):=fun i hi=>by
  show _=some (match Bg ks i with|some k=>k|none=>(0,0))
  rw[Cb,Ya hi]
 have E:∀(i:Nat) (k:Ad),ks[i]?=some k→i<ks.length:=fun i k hi=>by
  grind
 have K:∀B,CxOk (C B):=fun B=>by
  refine⟨fun _=>rfl,fun i hi=>D _ (Yn (a i hi)),fun i j hi Y e=>?_,fun k w=>?_,fun γ γ' he A i hi=>by rw[he i hi];exact A i hi⟩
  ·have m:=a i hi
   have o:=a j Y
   rw[show DM l ks (0,i)=DM l ks (0,j)from e]at m
   have Q:ks[i]?=ks[j]?:=m.trans o.symm
   exact(List.getElem?_inj hi u).1 Q
  ·obtain⟨i,hi⟩:=YG.1 (show k∈ks from w)
   grind
 refine nk J C (γ:=Hb t) (LPost:=LPost) (ys:=ys) (hs:=hs) V hb s Z hr hx S K (fun B=>⟨rfl,rfl,rfl,fun i _=>rfl⟩) (fun B=>I) (fun _=>rfl) W (fun B k w=>?_) (fun B i hi=>?_) (fun B γ y b N A hy L _=>?_) (fun B=>h _ (K B) rfl rfl rfl rfl rfl rfl rfl)
 ·obtain⟨m,o⟩:=F k w
  obtain⟨k1,M⟩:=k
  simp only at m o
  subst m
  exact⟨rfl,o,(R M _ (a M o)).2 w⟩
 ·grind
 ·obtain⟨U,z,v⟩:=v y b hy
  have v:=v ((C B).r γ) rfl rfl rfl rfl fun i hi=>A i hi
  have O:N=Dr H ks (CH ((C B).r γ) 0 b):=by
   funext q
   by_cases G:q∈ks
   ·obtain⟨i,hi⟩:=YG.1 G
    have X:=E i q hi
    have p:b[i]?=some b[i]:=Ya (by omega)
    have m:=L.live i _ p (z _ (Yn p))
    have o:DM l ks (0,i)=q:=by
     grind
    rw[show(C B).κ (0,i)=q from o]at m
    rw[m,n7 ks _ H u i q (AE ((C B).r γ) (0,i) b[i]) hi]
    rw[m5,p,YP]
    rfl
   ·rw[Zu ks _ H q G]
    exact L.o q G
  rw[O];exact v
theorem yi{P:Program}{T:Nat→Option TI}{n:Nat}{f:FuncId}{fn:Func}(w:List ResultVar)(c:Code){l:Nat}{xs:List AV}{H:Hp}{a:AV→Hp→Prop}(ks:List Ad)(e:List Nat)(fx:List Nat)(θ:Nat→AV)(ys:List AV)(hs:List (Ad×Blk))(LPost:AV→List Blk→Prop)
  (G:P.funcs[f]?=some fn) (hb:fn.body=some c) (g:(fn.name== "runtime.NumGoroutine")=false) (J:fn.ntmps=n) (K:fn.results.toList=w) (hx:xs.length≤n) (E:A5 P T)
  (q:∀k∈ks,k.1≤l) (t:ks.Nodup) (p:∀i,i<ks.length→i∈fx) (I:∀d,Ax hs (1,d)=EU) (s:∀k,(Ax hs k).live=true→k.1=0∧k.2<ks.length)
  (D:∀i k,ks[i]?=some k→(H k).g=Hb e (0,i)+(Ax hs (0,i)).g∧((Ax hs (0,i)).live=true→H k=AE (Cf l ks e θ H) (0,i) (Ax hs (0,i))))
  (v:Al (Cf l ks e θ H) ys=xs)
  (h:∀C,CxOk C→C.outs=ks.length→C.fx=fx→C.l=l→C.H0=H→C.θ=θ→C.κ=DM l ks→C.no=(fun k=>k∈ks)→LW P n C c (Ac (Ds 0 ys) hs) (FQ T w ks.length LPost))
  (u:∀y b,LPost y b→b.length=ks.length∧(∀x∈b,x.live=true)∧∃Y' bs',(∀r,It l ks e r→ren r y=Y')∧(∀r,It l ks e r→CH r 0 b=bs')∧a Y' (Dr H ks bs')):Zcu P f l xs H a:=by
 refine lM w c ks e fx θ ys hs LPost G hb g J K hx E q t I s D v h fun y b hy=>?_
 obtain⟨m,o,Y',bs',F,B,u⟩:=u y b hy
 refine⟨m,o,fun r z _ _ _ A=>?_⟩
 have j:It l ks e r:=⟨z,fun i hi=>A i (p i hi)⟩
 rw[F _ j,B _ j];exact u
theorem yy{P:Program}{T:Nat→Option TI}{n:Nat}{f:FuncId}{fn:Func}(v:List ResultVar)(c:Code){l:Nat}{xs:List AV}{H:Hp}{a:AV→Hp→Prop}(ks:List Ad)(g:List Nat)(fx:List Nat)(θ:Nat→AV)(ys:List AV)(hs:List (Ad×Blk))(Y:AV)(j:List Blk){Y':AV}{bs':List Blk}
  (E:P.funcs[f]?=some fn) (hb:fn.body=some c) (e:(fn.name== "runtime.NumGoroutine")=false) (G:fn.ntmps=n) (J:fn.results.toList=v) (hx:xs.length≤n) (B:A5 P T)
  (q:∀k∈ks,k.1≤l) (t:ks.Nodup) (p:∀i,i<ks.length→i∈fx) (F:∀d,Ax hs (1,d)=EU) (s:∀k,(Ax hs k).live=true→k.1=0∧k.2<ks.length)
  (A:∀i k,ks[i]?=some k→(H k).g=Hb g (0,i)+(Ax hs (0,i)).g∧((Ax hs (0,i)).live=true→H k=AE (Cf l ks g θ H) (0,i) (Ax hs (0,i))))
  (u:Al (Cf l ks g θ H) ys=xs) (m:j.length=ks.length) (o:∀b∈j,b.live=true) (D:∀r,It l ks g r→ren r Y=Y') (z:∀r,It l ks g r→CH r 0 j=bs')
  (h:∀C,CxOk C→C.outs=ks.length→C.fx=fx→C.l=l→C.H0=H→C.θ=θ→C.κ=DM l ks→C.no=(fun k=>k∈ks)→LW P n C c (Ac (Ds 0 ys) hs) (FQ T v ks.length (fun y b=>y=Y∧b=j)))
  (I:a Y' (Dr H ks bs')):Zcu P f l xs H a:=by
 exact yi v c ks g fx θ ys hs (fun y b=>y=Y∧b=j) E hb e G J hx B q t p F s A u h fun y b ⟨w,x⟩=>by subst w;subst x;exact⟨m,o,Y',bs',D,z,I⟩
section
variable {P:Program} {l:Nat} {r:Ren} {f:FuncId} {xs xs':List AV} {hb Aq:List (Ad×Blk)} {x x':AV}
theorem Zt7(e:Al r xs=xs')(g:ren r x=x')(h:∀a,(∀p∈hb,(a (r.κ p.1)).g=r.γ p.1+p.2.g∧(p.2.live=true→a (r.κ p.1)=AE r p.1 p.2))→(∀k:Ad,k.1≤l→¬r.no k→a k=r.H0 k)→Zcu P f (l+1) xs' a (fun y b=>y=x'∧b=C5 r Aq a)):
  HQ P l r f xs hb x Aq []:=fun a hb i=>by
 rw[e]
 exact(h a hb i).mono fun y b ⟨c,d⟩=>⟨r.γ,fun _ _=>rfl,by rw[c,←g],d⟩
end
theorem Zu0{α:Type}{e:α→List D}{r:Ren}{k:Ad}(xs:List α):FC r k (Aa e xs):=by
 unfold FC
 rw[IE (EI e xs)]
 refine Ys.2 fun x hx=>?_
 obtain⟨d,_,rfl⟩:=YT.1 hx
 rfl
theorem rX{r:Ren}{k:Ad}{vs:List AV}(h:(Al r vs).all (AV.low (r.κ k).1)=true):FC r k vs:=h
theorem HF{r:Ren}{k:Ad}(ds:List D):FC r k (ds.map .d):=by
 unfold FC
 rw[HE]
 refine Ys.2 fun x hx=>?_
 obtain⟨d,_,rfl⟩:=YT.1 hx
 rfl
theorem lR{α:Type}(e:α→List D)(xs:List α):Fq (Aa e xs):=fun x hx=>by
 obtain⟨d,_,rfl⟩:=YT.1 hx;rfl
theorem Zv6{α:Type}{e:α→List D}{xs:List α}{off cn sz:Nat}{z:List AV}(hl:∀x,(e x).length=sz)(h:off+cn≤xs.length):
  WR (Aa e xs) off cn sz z ((Aa e xs).take (off*sz)++(List.replicate cn z).flatten++(Aa e xs).drop ((off+cn)*sz)):=by
 refine⟨?_,rfl⟩
 rw[Hx hl]
 exact Y2 _ h
theorem Ztz{α:Type}{e:α→List D}{xs:List α}{off sz:Nat}{A B:List AV}(hl:∀x,(e x).length=sz)(h:off≤xs.length):∃m,((Aa e xs).take (off*sz)++A++B).take m=Aa e (xs.take off):=by
 refine⟨off*sz,?_⟩
 have a:((Aa e xs).take (off*sz)).length=off*sz:=by
  rw[YQ,Hx hl]
  exact Fc (Y2 _ h)
 rw[DO,P1 (by omega),K9 (by omega),ZP hl]
def H3(n:Nat):List (Ad×Blk)→Bool
 |[]=>true
 |(k,_)::r=>Nat.beq k.1 0&&Nat.ble (k.2+1) n&&H3 n r
theorem aO{n:Nat}:∀{hs:List (Ad×Blk)},H3 n hs=true→∀k,(Ax hs k).live=true→k.1=0∧k.2<n
 |[],_,k,h=>by simp[Ax,EU]at h
 |(q,b)::r,hi,k,h=>by
  simp only[H3,Yc]at hi
  simp only[Ax]at h
  split at h
  ·rename_i a
   have a:=Cg.1 a
   subst a
   exact⟨Yb hi.1.1,Yg hi.1.2⟩
  ·exact aO hi.2 k h
theorem ZL{n:Nat}:∀{hs:List (Ad×Blk)},H3 n hs=true→∀d,Ax hs (1,d)=EU
 |[],_,d=>rfl
 |(q,b)::r,hi,d=>by
  simp only[H3,Yc]at hi
  simp only[Ax]
  split
  ·rename_i a
   have a:=Cg.1 a
   subst a
   have:=Yb hi.1.1
   grind
  ·exact ZL hi.2 d
def Jy(H:Hp)(r:Ren)(hs:List (Ad×Blk)):Nat→List Ad→Prop
 |_,[]=>True
 |i,k::ks=>((H k).g=r.γ (0,i)+(Ax hs (0,i)).g∧((Ax hs (0,i)).live=true→H k=AE r (0,i) (Ax hs (0,i))))∧Jy H r hs (i+1) ks
theorem bS{H:Hp}{r:Ren}{hs:List (Ad×Blk)}:∀{ks:List Ad} {i:Nat},Jy H r hs i ks→∀j k,ks[j]?=some k→(H k).g=r.γ (0,i+j)+(Ax hs (0,i+j)).g∧((Ax hs (0,i+j)).live=true→H k=AE r (0,i+j) (Ax hs (0,i+j)))
 |[],i,_,j,k,h=>by simp at h
 |q::ks,i,h,0,k,a=>by
  simp only[FO,Yh]at a
  subst a
  exact h.1
 |q::ks,i,h,j+1,k,a=>by
  have:=bS h.2 j k (by simpa using a)
  grind
def I6(l:Nat):List Ad→Prop
 |[]=>True
 |k::ks=>k.1≤l∧I6 l ks
theorem SE{l:Nat}:∀{ks:List Ad},I6 l ks→∀k∈ks,k.1≤l
 |q::ks,h,k,a=>by
  rcases Yu.1 a with rfl|a
  ·exact h.1
  ·exact SE h.2 k a
def Jf:Nat→List Nat
 |0=>[]
 |n+1=>Jf n++[n]
theorem Sk:∀{n i:Nat},i<n→i∈Jf n
 |n+1,i,h=>by
  simp only[Jf,Iz,Hq]
  rcases YD i n with a|a
  ·exact .inl (Sk a)
  grind
theorem x2{P:Program}{T:Nat→Option TI}{n:Nat}{f:FuncId}{fn:Func}(u:List ResultVar)(c:Code){l:Nat}{xs:List AV}{H:Hp}{a:AV→Hp→Prop}(ks:List Ad)(g:List Nat)(os:Nat)(θ:Nat→AV)(ys:List AV)(hs:List (Ad×Blk))(Y:AV)(e:List Blk){Y':AV}{bs':List Blk}
  (A:P.funcs[f]?=some fn) (hb:fn.body=some c) (d:(fn.name== "runtime.NumGoroutine")=false) (D:fn.ntmps=n) (F:fn.results.toList=u) (hx:xs.length≤n) (x:A5 P T) (s:ks.length=os)
  (p:I6 l ks) (q:ks.Nodup) (j:H3 os hs=true) (w:Jy H (Cf l ks g θ H) hs 0 ks) (t:Al (Cf l ks g θ H) ys=xs) (m:e.length=os) (o:∀b∈e,b.live=true) (z:∀r,It l ks g r→ren r Y=Y') (v:∀r,It l ks g r→CH r 0 e=bs')
  (h:∀C,CxOk C→C.outs=os→C.fx=Jf os→C.l=l→C.H0=H→C.θ=θ→C.κ=DM l ks→C.no=(fun k=>k∈ks)→LW P n C c (Ac (Ds 0 ys) hs) (FQ T u os (fun y b=>y=Y∧b=e)))
  (E:a Y' (Dr H ks bs')):Zcu P f l xs H a:=by
 subst s
 exact yy u c ks g (Jf ks.length) θ ys hs Y e A hb d D F hx x (SE p) q (fun i hi=>Sk hi) (ZL j) (aO j) (fun i k B=>by have:=bS w i k B;rw[YP]at this;exact this) t m o z v h E
theorem yA{α:Type}{e e':α→List D}{xs:List α}{j sz:Nat}{x:α}(hx:xs[j]?=some x)(hl:∀x,(e x).length=sz)(he:∀x,e x=e' x):DF (Aa e xs) (j*sz) ((e' x).map .d):=by
 have a:j<xs.length:=by
  grind
 have:=l1 (z:=x) a hl he
 grind
theorem rP{P:Program}{l o:Nat}{no b:Ad→Prop}{H j:Hp}{c:AV}{m:List AV}{y:AV}(h:BV P l no H c m y)(hl:l≤o)(i:∀q:Ad,q.1≤l→¬no q→¬b q)(r:∀q:Ad,q.1≤l→¬no q→j q=H q):BV P o b j c m y:=by
 obtain⟨f,first,a,e,h⟩:=h
 exact⟨f,first,a,e,fun l' p g s=>h l' p (D8 hl g) fun k d n=>by rw[s k (D8 d hl) (i k d n),r k d n]⟩
def qo:Code→Operand
 |.cond o _ _=>o
 |_=>.tmp 0
def Fr(c:Code)(k:Nat):Option Nat:=match GK c k with|some (d,_,_)=>d|none=>none
def callF(c:Code)(k:Nat):Operand:=match GK c k with|some (_,f,_)=>f|none=>.tmp 0
def GP(c:Code)(k:Nat):List Operand:=match GK c k with|some (_,_,xs)=>xs|none=>[]
theorem nB{P:Program}{n:Nat}{C:Cx}{Q:Exit→St→Prop}(m:CxOk C){os:Nat}{fx:List Nat}(p:C.outs=os)(o:C.fx=fx){c:Code}{k:Nat}{ss:List (Nat×AV)}{hs:List (Ad×Blk)}
  (f:FuncId) (first a xs:List AV) (i:GK c k=some (Fr c k,callF c k,GP c k)) (q:ev (Av ss) (callF c k)=.fn (.func f) first a) (l:first++(GP c k).map (ev (Av ss))++a=xs) (ks:List Ad) (hb:List (Ad×Blk)) (e:(ks.map fun k=>(k,Ax hs k))=hb)
  (x:AV) (Aq:List (Ad×Blk)) (fr fl:List Ad) (g:(Dv os Aq&&Lq fr Aq&&Mn fr fx&&HS hs&&MO n (Fr c k)&&ks.all (Bv os))=true) (j:E2 C Aq) (d:Jn (Ax hs) fl)
  (b:∀r:Ren,r.θ=C.θ→r.H0=C.H0→r.κ=C.κ→r.no=C.no→HQ P C.l r f xs hb x Aq fr)
  (h:LO P n C c (k+1) (Ac (GV (Fr c k) x (DU fr ss)) (Aq++CR (Aq.map (·.1)) fr fl hs)) Q):LO P n C c k (Ac ss hs) Q:=
 ZyC m p o _ _ _ i f first a xs q l ks hb e x Aq fr fl g j d b h
end Go.Eng
namespace Go.Eng
open Go
set_option linter.all false
end Go.Eng
namespace Go.Eng
set_option linter.all false
open Go Go.RowKit Go.Shelf
theorem ox{α:Type}{e:α→List D}{xs:List α}{l h:Nat}(q:EB l h xs.length):EB l h (xs.map e).length:=by rw[YE];exact q
theorem sv{α:Type}{e:α→List D}{xs:List α}{sz:Nat}(he:∀x,(e x).length=sz):∀d,d∈xs.map e→d.length=sz:=fun d h=>by
 grind
theorem oy{α:Type}{e:α→List D}{xs:List α}{sz l h:Nat}(he:∀x,(e x).length=sz):Nh (xs.map e) sz l h (((xs.drop l).take (h-l)).map e):=
 ⟨sv he,by rw[←List.map_drop,←List.map_take]⟩
theorem y5{i:Int}{len sz:Nat}(a:0≤i)(h:i<len):Lt i len 0 sz (i.toNat*sz):=⟨a,h,by simp⟩
theorem Zvi{α:Type}{e:α→List D}{xs:List α}{j sz a:Nat}{z y:α}{vs:List D}(b:j<xs.length)(hl:∀x,(e x).length=sz)(g:a+vs.length≤sz)(he:e y=(e (xs.getD j z)).take a++vs++(e (xs.getD j z)).drop (a+vs.length)):
  Iu (Aa e xs) (j*sz+a) (vs.map .d) (Aa e (xs.set j y)):=by
 have d:(j+1)*sz≤xs.length*sz:=Y2 _ b
 rw[YX,Le]at d
 refine⟨by rw[YE,Hx hl];omega,?_⟩
 have hx:xs.getD j z=xs[j]:=by rw[Yj,Ya b];rfl
 rw[hx]at he
 have hs:Aa e xs=Aa e (xs.take j)++((e xs[j]).map .d++Aa e (xs.drop (j+1))):=by
  conv=>lhs;rw[←JH j xs,GA b,Sh,Hu]
 have c:(Aa e (xs.take j)).length=j*sz:=by rw[Hx hl,YQ,Fc (by omega)]
 have f:((e xs[j]).map AV.d).length=sz:=by rw[YE,hl]
 rw[hs,List.take_append,K9 (by omega:(Aa e (xs.take j)).length≤j*sz+a),c,show j*sz+a-j*sz=a from by omega,P1 (by omega),
  List.drop_append,eh (by rw[c];omega),c,GB,show j*sz+a+(vs.map AV.d).length-j*sz=a+vs.length from by rw[YE];omega,Vc (by omega),
  ec,Yk b,Sh,Hu,he]
 simp only[DP,List.map_take,List.map_drop,DO]
end Go.Eng
namespace Go.Eng
set_option linter.all false
theorem Z1{α:Type}{l:List α}{p:α→Bool}:((match l.findIdx? p with|some k=>(k:Int)|none=>-1)≥0)↔l.any p=true:=by
 rw[YL]
 cases h:l.findIdx? p with
 |none=>
  rw[dW]at h
  constructor
  ·intro e;exact absurd e (by decide)
  ·rintro⟨x,hx,a⟩;rw[h x hx]at a;cases a
 |some k=>
  obtain⟨b,c,_⟩:=UV.1 h
  exact⟨fun _=>⟨l[k],Ix b,c⟩,fun _=>Int.natCast_nonneg k⟩
theorem zW{α:Type}{e e':α→List D}{xs:List α}{j sz:Nat}{y:α}(a:j<xs.length)(hl:∀x,(e x).length=sz)(he:∀x,e x=e' x):Iu (Aa e xs) (j*sz) ((e' y).map .d) (Aa e (xs.set j y)):=by
 rw[←he];exact ZyP a hl
theorem me{α:Type}{sz:Nat}{e e':α→List D}{y:α}(C:List AV)(hl:∀x,(e x).length=sz)(he:∀x,e x=e' x):FD sz C (.d (.list [e' y])) 1 (Aa e [y]):=by
 rw[ZuQ,he];exact Zv8 C (by rw[←he];exact hl y)
theorem rW{C:List AV}{o n m sz:Nat}{a:List (List D)}(h:n=m)(k:Hi C o m sz a):Hi C o n sz a:=h▸k
theorem ZzY{α:Type}{e:α→List D}{xs:List α}{n m off sz:Nat}(a:n=m)(h:off≤xs.length)(hl:∀x,(e x).length=sz):n=m∧off*sz≤(Aa e xs).length∧(Aa e xs).drop (off*sz)=Aa e (xs.drop off):=
 ⟨a,by rw[Hx hl];exact Y2 _ h,OA hl xs off⟩
theorem r4{α:Type}{e:α→List D}{z:α}{c:List AV}(a:(e z).map .d=c)(m:Nat):(List.replicate m c).flatten=Aa e (List.replicate m z):=by
 subst a
 induction m with
 |zero=>rfl
 |succ m b=>rw[U5,JA,b,U5,Hu]
end Go.Eng
namespace Go.Eng
set_option linter.all false
open Go Go.RowKit
section
variable {P:Program} {T:Nat→Option TI} {n:Nat} {C:Cx} {τ:St} {Q:Exit→St→Prop}
theorem ZyW(f:CxOk C){os:Nat}{fx:List Nat}(k:C.outs=os)(i:C.fx=fx){c:Code}(a:AT)(lf:Lf)(q:Ren→(St→Prop)→Prop)
  (m:∀r Φ,A4 r os a τ (fun τ _=>DV fx lf τ Φ)=q r Φ) (h:∀r,r.θ=C.θ→r.H0=C.H0→r.κ=C.κ→r.no=C.no→q r (fun τ'=>LW P n C c τ' Q)):LW P n C c τ Q:=by
 subst k
 subst i
 intro γ σ l j
 have e:=h (C.r γ) rfl rfl rfl rfl
 rw[←m]at e
 obtain⟨y,w,x,g,b,d⟩:=B8 (n:=n) f a e j
 obtain⟨u,z,v,o,p,s,t⟩:=Hv (n:=n) f g l b
 exact BB.weak (p u v o s) (d.trans t)
end
theorem nv{s:ByteArray}{i:Int}(a:0≤i)(h:i<s.size):I8 s i ((s.data.toList.getD i.toNat 0).toNat:Int):=by
 have:=n9 (s:=s) (i:=i.toNat) (by omega)
 rwa [Int.toNat_of_nonneg a]at this
end Go.Eng
