import Derived.Test.YtjbijbkdiijhaaaGreatZb07
import Derived.Shelf.Spec.SlicesGrow
import Derived.Test.YtjbijbkdiijhaaaGreatZb00
namespace Go.Eng
set_option linter.all false
open Go Go.RowKit
theorem H7{α:Type}(e:α→List D)(x:α)(xs:List α):Ab e (x::xs)=(e x).map .d++Ab e xs:=by simp[Ab]
theorem PS{α:Type}{e:α→List D}{sz:Nat}(hl:∀x,(e x).length=sz):∀(xs:List α) (j:Nat),(Ab e xs).drop (j*sz)=Ab e (xs.drop j)
 |[],j=>by simp[Ab]
 |x::xs,0=>by simp
 |x::xs,j+1=>by
  have a:((e x).map AV.d).length=sz:=by rw[YH,hl]
  rw[H7,Y1,Md,OF,←OR,List.drop_left' a,PS hl xs j]
  rfl
theorem kJ{α:Type}{e:α→List D}{sz:Nat}(hl:∀x,(e x).length=sz):∀(xs:List α) (j:Nat),(Ab e xs).take (j*sz)=Ab e (xs.take j)
 |[],j=>by simp[Ab]
 |x::xs,0=>by simp[Ab]
 |x::xs,j+1=>by
  have a:((e x).map AV.d).length=sz:=by rw[YH,hl]
  rw[H7,List.take_succ_cons,H7,Y1,Md,OF,List.take_append,a,Ta,kJ hl xs j,Kg (by omega)]
theorem Zvk{α:Type}{xs:List α}{j:Nat}{z:α}(a:j<xs.length):xs.drop j=xs.getD j z::xs.drop (j+1):=by
 rw[HQ a,Yg,Ye a];rfl
theorem zp{α:Type}{e e':α→List D}{xs:List α}{j sz:Nat}{z:α}(a:j<xs.length)(hl:∀x,(e x).length=sz)(he:∀x,e x=e' x):DW (Ab e xs) (j*sz) ((e' (xs.getD j z)).map .d):=by
 unfold DW
 rw[PS hl,Zvk (z:=z) a,H7,he,List.take_left]
theorem ZlU{α:Type}{e e':α→List D}{xs:List α}{j sz o:Nat}{z:α}{c:List AV}(b:j<xs.length)(hl:∀x,(e x).length=sz)(he:∀x,e x=e' x)
  (a:(((e' (xs.getD j z)).map .d).drop o).take c.length=c) (f:o+c.length≤sz):DW (Ab e xs) (j*sz+o) c:=by
 unfold DW
 have d:((e' (xs.getD j z)).map AV.d).length=sz:=by rw[YH,←he,hl]
 rw[←OR,PS hl,Zvk (z:=z) b,H7,he,aH (by omega),SZ (by rw[Dv];omega),a]
theorem ZH4{α:Type}{e:α→List D}{xs:List α}{j sz:Nat}{y:α}(b:j<xs.length)(hl:∀x,(e x).length=sz):HK (Ab e xs) (j*sz) ((e y).map .d) (Ab e (xs.set j y)):=by
 have a:((e y).map AV.d).length=sz:=by rw[YH,hl]
 have c:(j+1)*sz≤xs.length*sz:=Ea _ b
 rw[Y1,Md]at c
 refine⟨by rw[a,FP hl];omega,?_⟩
 rw[a,kJ hl,show j*sz+sz=(j+1)*sz from by rw[Y1,Md],PS hl,ri,Ym b,Wb,H7,Y7]
end Go.Eng
namespace Go.Eng
set_option linter.all false
open Go Go.RowKit
def Do(r:Ren):List (Af×Blk)→Hp→Hp
 |[],H=>H
 |(k,b)::a,H=>Do r a (updH H (r.κ k) (AW r k b))
def Iu(P:Program)(l:Nat)(r:Ren)(f:FuncId)(xs:List AV)(d:List (Af×Blk))(x:AV)(Ay:List (Af×Blk))(fr:List Af):Prop:=
 ∀a,(∀p∈d,(a (r.κ p.1)).g=r.γ p.1+p.2.g∧(p.2.live=true→a (r.κ p.1)=AW r p.1 p.2))→(∀k:Af,k.1≤l→¬r.no k→a k=r.H0 k)→
  Zc1 P f (l+1) (As r xs) a (fun y b=>∃c:Af→Nat,(∀k,k∉fr→c k=r.γ k)∧y=ren ⟨r.κ,c,r.θ,r.H0,r.no⟩ x∧b=Do ⟨r.κ,c,r.θ,r.H0,r.no⟩ Ay a)
mutual
def Hh(fr:List Af):AV→Bool
 |.ref k _ _ _=>fr.any (BK k)
 |.ptr k _ _=>fr.any (BK k)
 |.mp k _=>fr.any (BK k)
 |.fn _ xs ys=>H9 fr xs||H9 fr ys
 |.agg xs=>H9 fr xs
 |.tup xs=>H9 fr xs
 |.top=>false
 |.d _=>false
 |.e0=>false
 |.p _=>false
 |.iptr _ _=>false
 |.ifc _ _ _=>false
def H9(fr:List Af):List AV→Bool
 |[]=>false
 |x::xs=>Hh fr x||H9 fr xs
end
def Eh(fr:List Af):List (Nat×AV)→List (Nat×AV)
 |[]=>[]
 |(j,x)::r=>(j,match Hh fr x with|true=>.top|false=>x)::Eh fr r
def Db(ks fr fl:List Af):List (Af×Blk)→List (Af×Blk)
 |[]=>[]
 |(k,b)::r=>match ks.any (BK k),fl.any (BK k)||!H9 fr b.cells with
  |false,true=>(k,b)::Db ks fr fl r
  |_,_=>Db (k::ks) fr fl r
def Hu:Option Nat→AV→List (Nat×AV)→List (Nat×AV)
 |some d,x,r=>(d,x)::r
 |none,_,r=>r
def BQ(os:Nat)(k:Af):Bool:=Nat.beq k.1 1||(Nat.beq k.1 0&&Nat.ble (k.2+1) os)
def DK(os:Nat):List (Af×Blk)→Bool
 |[]=>true
 |(k,b)::r=>BQ os k&&b.live&&!(r.any fun p=>BK k p.1)&&DK os r
mutual
theorem zJ{r:Ren}{b:Af→Nat}{fr:List Af}(a:∀k,k∉fr→b k=r.γ k):∀(x:AV),Hh fr x=false→ren ⟨r.κ,b,r.θ,r.H0,r.no⟩ x=ren r x
 |.ref k g off n,h=>by simp only[Hh]at h;simp only[ren];rw[a k (Wr h)]
 |.ptr k g off,h=>by simp only[Hh]at h;simp only[ren];rw[a k (Wr h)]
 |.mp k g,h=>by simp only[Hh]at h;simp only[ren];rw[a k (Wr h)]
 |.fn f xs ys,h=>by
  simp only[Hh,Ki]at h
  have c:=MU a xs h.1
  have d:=MU a ys h.2
  cases f<;>simp only[ren,c,d]
 |.agg xs,h=>by simp only[Hh]at h;simp only[ren,MU a xs h]
 |.tup xs,h=>by simp only[Hh]at h;simp only[ren,MU a xs h]
 |.top,_=>by simp[ren]
 |.d _,_=>by simp[ren]
 |.e0,_=>by simp[ren]
 |.p _,_=>by simp[ren]
 |.iptr _ _,_=>by simp[ren]
 |.ifc _ _ _,_=>by simp[ren]
theorem MU{r:Ren}{b:Af→Nat}{fr:List Af}(a:∀k,k∉fr→b k=r.γ k):∀(xs:List AV),H9 fr xs=false→As ⟨r.κ,b,r.θ,r.H0,r.no⟩ xs=As r xs
 |[],_=>by simp[As]
 |x::xs,h=>by
  simp only[H9,Ki]at h
  simp only[As,zJ a x h.1,MU a xs h.2]
theorem Wr{k:Af}{fr:List Af}(h:fr.any (BK k)=false):k∉fr:=fun hm=>by
 have:fr.any (BK k)=true:=YL.2 ⟨k,hm,Cy.2 rfl⟩
 grind
end
def Ct:Code→Array Oper
 |.region _ ops _=>ops
 |_=>#[]
def vA:Code→Bool
 |.region _ _ false=>true
 |_=>false
def JT{α:Type}:Nat→List α→List α
 |0,l=>l
 |_+1,[]=>[]
 |n+1,_::l=>JT n l
def JX{α:Type}:Nat→List α→List α
 |0,_=>[]
 |_+1,[]=>[]
 |n+1,x::l=>x::JX n l
theorem kW{α:Type}:∀(n:Nat) (l:List α),JT n l=l.drop n
 |0,l=>rfl
 |n+1,[]=>rfl
 |n+1,x::l=>kW n l
theorem V5{α:Type}:∀(n:Nat) (l:List α),JX n l=l.take n
 |0,l=>rfl
 |n+1,[]=>rfl
 |n+1,x::l=>by rw[JX,V5 n l];rfl
def LO(P:Program)(n:Nat)(C:Cx)(c:Code)(k:Nat)(τ:St)(Q:Exit→St→Prop):Prop:=
 ∀γ σ a w,C.G γ→RG (C.r γ) C.l C.outs [] τ σ→R C.l n C.B σ a w→wpList P (Ct c) (fun e d w'=>∃b,Is n C (Q e) b∧R C.l n C.B b d w') ((Ct c).toList.drop k) a w
def Hj(c:Code)(k:Nat):Option (Option Nat×Operand×List Operand):=
 match Bt (Ct c).toList k with
 |some o=>(match o.guard,o.op with
  |none,.call cl=>(match cl.callee with|.value f=>some (o.dst,f,cl.args.toList)|_=>none)
  |_,_=>none)
 |none=>none
def Fw(C:Cx):List (Af×Blk)→Prop
 |[]=>True
 |(k,_)::r=>match Nat.beq k.1 1 with|true=>Fw C r|false=>C.no (C.κ k)∧Fw C r
def J4(H:Hp):List Af→Prop
 |[]=>True
 |k::r=>Il (H k).cells∧J4 H r
def Mt(fr:List Af)(Ay:List (Af×Blk)):Bool:=fr.all fun k=>Ay.any fun p=>BK k p.1
def Nc(fr:List Af)(fx:List Nat):Bool:=fr.all fun k=>!(Nat.beq k.1 0&&fx.any (Nat.beq k.2))
def Im:List (Af×Blk)→Bool
 |[]=>true
 |(_,b)::r=>Nat.beq b.g 0&&Im r
def x3:Option Nat→(Nat→AV)→AV→Nat→AV
 |some d,s,v=>upd s d v
 |none,s,_=>s
def Nq(n:Nat):Option Nat→Bool
 |some d=>Nat.ble (d+1) n
 |none=>true
section
variable {P:Program} {T:Nat→Option TI} {n:Nat} {C:Cx} {τ:St} {Q:Exit→St→Prop}
theorem Zrn{c:Code}(b:vA c=true)(h:LO P n C c 0 τ Q):LW P n C c τ Q:=by
 cases c with
 |region id ops d=>
  cases d with
  |true=>cases b
  |false=>
   obtain⟨i,rfl⟩:∃l:List Oper,ops=l.toArray:=⟨ops.toList,by simp⟩
   intro γ σ g e a w f
   have:=h γ σ a w g e f
   simp only[Ct,Mg]at this
   exact wp_region_lit this
 |_=>cases b
theorem ZMP(d:CxOk C)(A:Bl P T){os:Nat}{fx:List Nat}(y:C.outs=os)(v:C.fx=fx){c:Code}{k:Nat}(m:Nat)(a:AT)(lf:Lf)(q:Ren→(St→Prop)→Prop)
  (E:∀r Φ,Bs r os a τ (fun τ a=>Hr P T C.l n r ((Ct c).toList.map (·.dst)) (JX m (JT k (Ct c).toList)) [] a (fun τ' env f=>Bs r os f (Eo env τ') (fun τ _=>FX fx lf τ Φ)) τ)=q r Φ)
  (h:∀r,r.θ=C.θ→r.H0=C.H0→r.κ=C.κ→r.no=C.no→q r (fun τ'=>LO P n C c (k+m) τ' Q)):LO P n C c k τ Q:=by
 subst y
 subst v
 intro γ σ g w D x z
 have o:=h (C.r γ) rfl rfl rfl rfl
 rw[←E]at o
 obtain⟨R,p,N,u,i,j⟩:=Cn (n:=n) d a o x
 have e:(Ct c).toList.drop k=JX m (JT k (Ct c).toList)++(Ct c).toList.drop (k+m):=by
  rw[V5,kW,←OR,HS]
 rw[e]
 refine MX (d.ren γ) A (B:=C.B) _ (fun τ' l f U b w' J K L=>?_) _ [] p R N g w u i (j _ _ z)
 obtain⟨V,s,t⟩:=PL (n:=n) K
 obtain⟨X,S,W,f1,f2,f3⟩:=Cn (n:=n) d f J s
 obtain⟨M,Y,O,F,G,H,I⟩:=H5 (n:=n) d f1 D f2
 exact G M O b w' F H (I _ _ (f3 _ _ (t _ _ L)))
theorem ZPn(b:CxOk C)(A:Bl P T){os:Nat}{fx:List Nat}(y:C.outs=os)(v:C.fx=fx){c:Code}{k:Nat}(a:AT)(lf:Lf)(q:Ren→(Exit→St→Prop)→Prop)
  (E:∀r Φ,Bs r os a τ (fun τ a=>Hr P T C.l n r ((Ct c).toList.map (·.dst)) (JT k (Ct c).toList) [] a (fun τ' env d=>Bs r os d (Eo env τ') (fun τ _=>FX fx lf τ (Φ .normal))) τ)=q r Φ)
  (h:∀r,r.θ=C.θ→r.H0=C.H0→r.κ=C.κ→r.no=C.no→q r Q):LO P n C c k τ Q:=by
 subst y
 subst v
 intro γ σ f w D x z
 have m:=h (C.r γ) rfl rfl rfl rfl
 rw[←E]at m
 obtain⟨O,p,N,u,g,i⟩:=Cn (n:=n) b a m x
 have e:(Ct c).toList.drop k=JT k (Ct c).toList++[]:=by rw[kW,G4]
 rw[e]
 refine MX (b.ren γ) A (B:=C.B) _ (fun τ' l d U j w' J K L=>?_) _ [] p O N f w u g (i _ _ z)
 obtain⟨V,s,t⟩:=PL (n:=n) K
 obtain⟨X,S,W,f1,f2,f3⟩:=Cn (n:=n) b d J s
 obtain⟨M,R,o,F,G,H,I⟩:=H5 (n:=n) b f1 D f2
 unfold wpList
 exact⟨o,⟨M,R,o,F,G,H,Wk.refl _⟩,I _ _ (f3 _ _ (t _ _ L))⟩
theorem V7:∀{hs:List (Af×Blk)},Im hs=true→∀k,(AL hs k).g=0
 |[],_,k=>rfl
 |(k',b)::r,h,k=>by
  simp only[Im,Yb]at h
  simp only[AL]
  split
  ·exact Yd h.1
  ·exact V7 h.2 k
theorem ZoN{k:Af}{ks:List Af}:ks.any (BK k)=true↔k∈ks:=by
 rw[YL]
 exact⟨fun⟨q,a,b⟩=>by rw[Cy.1 b];exact a,fun h=>⟨k,h,Cy.2 rfl⟩⟩
theorem ZK4(a b:List (Af×Blk))(k:Af):AL (a++b) k=if k∈a.map (·.1)then AL a k else AL b k:=by
 induction a with
 |nil=>simp
 |cons p a f=>
  obtain⟨q,d⟩:=p
  simp only[HO,AL,YY,Yx]
  cases c:BK q k with
  |true=>rw[Ym (.inl (Cy.1 c).symm)]
  |false=>
   have:k≠q:=fun e=>by rw[Cy.2 e.symm]at c;cases c
   grind
theorem PM{fr fl:List Af}:∀(hs:List (Af×Blk)) (ks:List Af) (k:Af),(k∈ks→AL (Db ks fr fl hs) k=Fj)∧(k∉ks→(AL (Db ks fr fl hs) k=AL hs k∧(k∈fl∨H9 fr (AL hs k).cells=false))∨AL (Db ks fr fl hs) k=Fj)
 |[],ks,k=>⟨fun _=>rfl,fun _=>.inr rfl⟩
 |(q,b)::r,ks,k=>by
  simp only[Db]
  split
  ·rename_i d a
   have f:q∉ks:=fun hm=>by rw[ZoN.2 hm]at d;cases d
   simp only[AL]
   cases c:BK q k with
   |true=>
    have c:=Cy.1 c
    subst c
    refine⟨fun h=>absurd h f,fun _=>.inl ⟨rfl,?_⟩⟩
    simp only[YI,YJ]at a
    rcases a with a|a
    ·exact .inl (ZoN.1 a)
    grind
   |false=>exact PM r ks k
  ·obtain⟨d,a⟩:=PM (fr:=fr) (fl:=fl) r (q::ks) k
   refine⟨fun h=>d (YC _ h),fun h=>?_⟩
   by_cases c:k=q
   ·grind
   ·rcases a (fun hm=>(Yx.1 hm).elim c h)with⟨i,j⟩|e
    ·have:BK q k=false:=by
      cases g:BK q k with
      |true=>exact absurd (Cy.1 g).symm c
      |false=>rfl
     simp only[AL,this]
     grind
    grind
theorem VB{r:Ren}:∀(Ay:List (Af×Blk)) (H:Hp) (q:Af),(∀p∈Ay,r.κ p.1≠q)→Do r Ay H q=H q
 |[],H,q,h=>rfl
 |(k,b)::a,H,q,h=>by
  simp only[Do]
  rw[VB a _ q (fun p c=>h p (YC _ c)),A0 _ _ (fun e=>h (k,b) (YB ..) e.symm)]
theorem Zoz{r:Ren}{os:Nat}(d:∀q k:Af,BQ os q=true→BQ os k=true→q≠k→r.κ q≠r.κ k):∀(Ay:List (Af×Blk)) (H:Hp),DK os Ay=true→∀k b,(k,b)∈Ay→Do r Ay H (r.κ k)=AW r k b∧AL Ay k=b∧BQ os k=true∧b.live=true
 |[],H,_,k,b,hm=>by cases hm
 |(q,c)::rest,H,g,k,b,hm=>by
  simp only[DK,Yb,YJ]at g
  obtain⟨⟨⟨i,u⟩,j⟩,m⟩:=g
  have f:∀p∈rest,p.1≠q:=fun p a e=>by
   have:(rest.any fun p=>BK q p.1)=true:=YL.2 ⟨p,a,Cy.2 e.symm⟩
   rw[this]at j;cases j
  have h:∀(l:List (Af×Blk)),DK os l=true→∀p∈l,BQ os p.1=true:=by
   intro l
   induction l with
   |nil=>intro _ p a;cases a
   |cons p l w=>
    obtain⟨x,y⟩:=p
    intro hl p a
    simp only[DK,Yb]at hl
    rcases Yx.1 a with rfl|a
    ·exact hl.1.1.1
    ·exact w hl.2 p a
  simp only[Do]
  rcases Yx.1 hm with e|hm
  ·cases e
   refine⟨?_,by simp only[AL,Cy.2 rfl],i,u⟩
   rw[VB rest _ _ (fun p a=>d _ _ (h rest m p a) i (f p a)),A6]
  ·obtain⟨n,o,s,t⟩:=Zoz d rest (updH H (r.κ q) (AW r q c)) m k b hm
   refine⟨n,?_,s,t⟩
   have:BK q k=false:=by
    cases v:BK q k with
    |true=>exact absurd (Cy.1 v).symm (f _ hm)
    |false=>rfl
   simp only[AL,this]
   exact o
theorem ob:∀{Ay:List (Af×Blk)},Fw C Ay→∀p∈Ay,p.1.1≠1→C.no (C.κ p.1)
 |(k,b)::r,h,p,c,a=>by
  simp only[Fw]at h
  split at h
  ·rename_i d
   rcases Yx.1 c with rfl|c
   ·exact absurd (Yd d) a
   ·exact ob h p c a
  ·rcases Yx.1 c with rfl|c
   ·exact h.1
   ·exact ob h.2 p c a
theorem nc{H:Hp}:∀{ks:List Af},J4 H ks→∀k∈ks,Il (H k).cells
 |q::r,h,k,a=>by
  rcases Yx.1 a with rfl|a
  ·exact h.1
  ·exact nc h.2 k a
theorem GD{os:Nat}{k:Af}(h:BQ os k=true):k.1=1∨(k.1=0∧k.2<os):=by
 simp only[BQ,YI,Yb]at h
 rcases h with h|⟨a,b⟩
 ·exact .inl (Yd h)
 ·exact .inr ⟨Yd a,Yh b⟩
theorem Zpx{fr:List Af}:∀(ss:List (Nat×AV)) (j:Nat),AG (Eh fr ss) j=.top∨(AG (Eh fr ss) j=AG ss j∧Hh fr (AG ss j)=false)
 |[],j=>.inl rfl
 |(i,x)::r,j=>by
  simp only[Eh,AG]
  split
  ·grind
  ·exact Zpx r j
theorem Zyv(hC:CxOk C){os:Nat}{fx:List Nat}(hO:C.outs=os)(hF:C.fx=fx){c:Code}{k:Nat}{ss:List (Nat×AV)}{hs:List (Af×Blk)}(l:Option Nat)(fo:Operand)(aZ:List Operand)(m:Hj c k=some (l,fo,aZ))
  (f:FuncId) (first u xs:List AV) (hf:ev (AG ss) fo=.fn (.func f) first u) (hxs:first++aZ.map (ev (AG ss))++u=xs) (ks:List Af) (J:List (Af×Blk)) (hhb:(ks.map fun k=>(k,AL hs k))=J)
  {ι:Type} (I:ι→Prop) (xF:ι→AV) (s:ι→List (Af×Blk)) (fr fl:List Af) (M:(Nc fr fx&&Im hs&&Nq n l&&ks.all (BQ os))=true) (t:∀i,(DK os (s i)&&Mt fr (s i))=true) (H:∀i,Fw C (s i)) (hfl:J4 (AL hs) fl)
  (T:∀r:Ren,r.θ=C.θ→r.H0=C.H0→r.κ=C.κ→r.no=C.no→∀V,(∀p∈J,(V (r.κ p.1)).g=r.γ p.1+p.2.g∧(p.2.live=true→V (r.κ p.1)=AW r p.1 p.2))→(∀k:Af,k.1≤C.l→¬r.no k→V k=r.H0 k)→
   Zc1 P f (C.l+1) (As r xs) V (fun y W=>∃i,I i∧∃a:Af→Nat,(∀k,k∉fr→a k=r.γ k)∧y=ren ⟨r.κ,a,r.θ,r.H0,r.no⟩ (xF i)∧W=Do ⟨r.κ,a,r.θ,r.H0,r.no⟩ (s i) V))
  (h:∀i,I i→LO P n C c (k+1) (Ad (Hu l (xF i) (Eh fr ss)) (s i++Db ((s i).map (·.1)) fr fl hs)) Q):LO P n C c k (Ad ss hs) Q:=by
 subst hO
 subst hF
 simp only[Yb]at M
 obtain⟨⟨⟨k3,k4⟩,k5⟩,k6⟩:=M
 intro γ σ act w hg z hR
 have hr:=hC.ren γ
 have hs':∀j,σ.s j=ren (C.r γ) (AG ss j):=fun j=>(z.s j).1 Bh
 have A:∀y:Operand,ev σ.s y=ren (C.r γ) (ev (AG ss) y):=fun y=>Lk (c:=[]) z Bh (by cases y<;>rfl)
 unfold Hj at m
 split at m
 case h_2=>cases m
 rename_i o ho
 split at m
 case h_2=>cases m
 rename_i cl hgd hopc
 split at m
 case h_2=>cases m
 rename_i fo' hcal
 simp only[Yj,G5]at m
 obtain⟨hd,rfl,rfl⟩:=m
 rw[Cs]at ho
 have hlt:k<(Ct c).toList.length:=by
  grind
 have U:(Ct c).toList.drop k=o::(Ct c).toList.drop (k+1):=by
  rw[HQ hlt]
  grind
 rw[U]
 have L:∀q k:Af,BQ C.outs q=true→BQ C.outs k=true→q≠k→(C.r γ).κ q≠(C.r γ).κ k:=fun q k Z h2 h3=>hr.ne (GD Z) (GD h2) h3
 have hA:=T (C.r γ) rfl rfl rfl rfl σ.H (fun p E=>by
  rw[←hhb]at E
  obtain⟨q,g,rfl⟩:=YT.1 E
  have hq':=GD (Ys.1 k6 q g)
  refine⟨?_,fun hl=>z.h q hl⟩
  obtain⟨q1,q2⟩:=q
  simp only at hq'
  rcases hq' with rfl|⟨rfl,h2⟩
  ·have:=z.g q2
   rw[←hr.own]at this
   exact this
  ·exact z.go q2 h2) z.o
 have S:As (C.r γ) xs=As (C.r γ) first++cl.args.toList.map (ev σ.s)++As (C.r γ) u:=by
  rw[←hxs,Hd,Hd]
  congr 2
  rw[FO,I2]
  exact Eb fun y _=>(A y).symm
 have hfe:ev σ.s fo'=.fn (.func f) (As (C.r γ) first) (As (C.r γ) u):=by rw[A,hf];simp[ren]
 have hrop:BI P C.l n o (fun σ'=>∃i,I i∧∃a:Af→Nat,(∀q,q∉fr→a q=γ q)∧σ'=⟨x3 l σ.s (ren (C.r a) (xF i)),Do (C.r a) (s i) σ.H⟩) σ:=by
  unfold BI
  rw[hopc]
  simp only[hcal,hfe]
  rw[S]at hA
  refine hA.mono fun y W ⟨i,hi,a,N,e2,e3⟩=>?_
  unfold O4 CF
  rw[hd]
  cases l with
  |none=>exact⟨i,hi,a,N,by rw[e3];rfl⟩
  |some d=>exact⟨Yh k5,i,hi,a,N,by rw[e2,e3];rfl⟩
 refine j7 (by simp[Region.wanted,hgd]) (MW hrop) hR fun σ' Y w' hK O=>?_
 obtain⟨i,hi,a,N,rfl⟩:=hK
 have h:=h i hi
 have H:=H i
 have t:=t i
 generalize s i=Ay at h H t O
 generalize xF i=x at h O
 simp only[Yb]at t
 obtain⟨k1,k2⟩:=t
 have hsub:∀q,q∈fr→∃b,(q,b)∈Ay:=fun q g=>by
  obtain⟨p,E,hk⟩:=YL.1 (Ys.1 k2 q g)
  rw[Cy.1 hk];exact⟨p.2,E⟩
 let τ2:St:=Ad (Hu l x (Eh fr ss)) (Ay++Db (Ay.map (·.1)) fr fl hs)
 have D:∀q,AL (Ay++Db (Ay.map (·.1)) fr fl hs) q=if q∈Ay.map (·.1)then AL Ay q else AL (Db (Ay.map (·.1)) fr fl hs) q:=fun q=>ZK4 _ _ _
 have hin:∀q,q∈Ay.map (·.1)→∃b,(q,b)∈Ay:=fun q g=>by obtain⟨p,E,rfl⟩:=YT.1 g;exact⟨p.2,E⟩
 have F:∀q b,(q,b)∈Ay→Do (C.r a) Ay σ.H ((C.r a).κ q)=AW (C.r a) q b∧AL Ay q=b∧BQ C.outs q=true∧b.live=true:=Zoz (r:=C.r a) L Ay σ.H k1
 have B:∀q,q∉Ay.map (·.1)→BQ C.outs q=true→Do (C.r a) Ay σ.H ((C.r a).κ q)=σ.H ((C.r a).κ q)∧a q=γ q:=fun q g v=>by
  refine⟨VB _ _ _ fun p E=>L _ _ (F p.1 p.2 E).2.2.1 v fun e=>g (YT.2 ⟨p,E,e⟩),N q fun hf=>?_⟩
  grind
 have K:∀q,BQ C.outs q=true→(σ.H (C.κ q)).g=γ q→(Do (C.r a) Ay σ.H (C.κ q)).g=a q+(AL (Ay++Db (Ay.map (·.1)) fr fl hs) q).g:=fun q v hq0=>by
  rw[D]
  split
  ·rename_i hm
   obtain⟨b,J⟩:=hin q hm
   obtain⟨a1,X,_⟩:=F q b J
   rw[show C.κ q=(C.r a).κ q from rfl,a1,X]
   rfl
  ·rename_i hm
   obtain⟨a1,X⟩:=B q hm v
   rw[show C.κ q=(C.r a).κ q from rfl,a1,X]
   have:(AL (Db (Ay.map (·.1)) fr fl hs) q).g=0:=by
    rcases(PM (fr:=fr) (fl:=fl) hs (Ay.map (·.1)) q).2 hm with⟨e,_⟩|e
    ·rw[e];exact V7 k4 q
    ·rw[e];rfl
   rw[this]
   exact hq0
 have hG2:RG (C.r a) C.l C.outs [] τ2 ⟨fun j=>ren (C.r a) (τ2.s j),Do (C.r a) Ay σ.H⟩:=by
  refine⟨fun j=>⟨fun _=>rfl,fun hn=>absurd Bh hn⟩,fun q g=>?_,fun d=>?_,fun i hi=>?_,fun q g=>?_,fun q g hn=>?_⟩
  ·show Do (C.r a) Ay σ.H ((C.r a).κ q)=AW (C.r a) q (AL (Ay++Db (Ay.map (·.1)) fr fl hs) q)
   replace g:(AL (Ay++Db (Ay.map (·.1)) fr fl hs) q).live=true:=g
   rw[D]at g⊢
   split at g
   ·grind
   ·rename_i hm
    rw[Yk hm]
    rcases(PM (fr:=fr) (fl:=fl) hs (Ay.map (·.1)) q).2 hm with⟨e,e'⟩|e
    ·rw[e]at g⊢
     have v:=z.k q g
     have t:BQ C.outs q=true:=by
      obtain⟨q1,q2⟩:=q
      simp only at v
      simp only[BQ,YI,Yb]
      rcases v with rfl|⟨rfl,h2⟩
      ·exact .inl rfl
      ·exact .inr ⟨rfl,rD h2⟩
     obtain⟨a1,X⟩:=B q hm t
     rw[a1]
     have J:=z.h q g
     have G:As (C.r a) (AL hs q).cells=As (C.r γ) (AL hs q).cells:=by
      rcases e' with e'|e'
      ·rw[JC (nc hfl q e'),JC (nc hfl q e')]
      ·exact MU (r:=C.r γ) N _ e'
     show σ.H ((C.r γ).κ q)=_
     rw[J]
     simp only[AW]
     rw[G,show(C.r a).γ q=a q from rfl,X]
     rfl
    ·rw[e]at g;cases g
  ·have:=K (1,d) rfl (by
    have:=z.g d
    rw[show((Ad ss hs).H (1,d)).g=0 from V7 k4 _]at this
    rw[hC.own];exact this)
   rw[hC.own]at this
   exact this
  ·exact K (0,i) (by simp only[BQ,YI,Yb];exact .inr ⟨rfl,rD hi⟩) (by
    have:=z.go i hi
    rw[show((Ad ss hs).H (0,i)).g=0 from V7 k4 _]at this
    exact this)
  ·replace g:(AL (Ay++Db (Ay.map (·.1)) fr fl hs) q).live=true:=g
   rw[D]at g
   split at g
   ·rename_i hm
    obtain⟨b,J⟩:=hin q hm
    exact GD (F q b J).2.2.1
   ·rename_i hm
    rcases(PM (fr:=fr) (fl:=fl) hs (Ay.map (·.1)) q).2 hm with⟨e,e'⟩|e
    ·rw[e]at g;exact z.k q g
    ·rw[e]at g;cases g
  ·show Do (C.r a) Ay σ.H q=C.H0 q
   rw[VB _ _ _ fun p E e=>?_]
   ·exact z.o q g hn
   ·by_cases Z:p.1.1=1
    ·obtain⟨⟨p1,p2⟩,p3⟩:=p
     simp only at Z
     subst Z
     rw[show(C.r a).κ (1,p2)=(C.l+1,p2)from hC.own p2]at e
     grind
    ·exact hn (by rw[←e];exact ob H p E Z)
 refine h a _ Y w' (hC.G γ a (fun i hi=>N _ fun hm=>?_) hg) hG2 (R.weaken O fun j=>?_)
 ·have:=Ys.1 k3 _ hm
  simp only[YJ,Kh]at this
  rcases this with h|h
  ·cases h
  ·have:(C.fx.any (Nat.beq i))=true:=YL.2 ⟨i,hi,by simp⟩
   grind
 ·have old:ren (C.r a) (AG (Eh fr ss) j)=σ.s j∨ren (C.r a) (AG (Eh fr ss) j)=.top:=by
   rcases Zpx (fr:=fr) ss j with e|⟨e,e'⟩
   ·right;rw[e];simp[ren]
   ·left
    rw[e,hs' j]
    exact zJ (r:=C.r γ) N _ e'
  show ren (C.r a) (AG (Hu l x (Eh fr ss)) j)=_∨ren (C.r a) (AG (Hu l x (Eh fr ss)) j)=.top
  cases l with
  |none=>exact old
  |some d=>
   simp only[Hu,AG,x3,upd]
   cases hj:Nat.beq d j with
   |true=>
    have:=Yd hj
    grind
   |false=>
    have:j≠d:=fun e=>by rw[e]at hj;simp at hj
    grind
theorem ZEA(D:CxOk C){os:Nat}{fx:List Nat}(F:C.outs=os)(E:C.fx=fx){c:Code}{k:Nat}{ss:List (Nat×AV)}{hs:List (Af×Blk)}(e:Option Nat)(l:Operand)(j:List Operand)(q:Hj c k=some (e,l,j))
  (f:FuncId) (first d xs:List AV) (G:ev (AG ss) l=.fn (.func f) first d) (t:first++j.map (ev (AG ss))++d=xs) (ks:List Af) (m:List (Af×Blk)) (p:(ks.map fun k=>(k,AL hs k))=m)
  (x:AV) (Ay:List (Af×Blk)) (fr fl:List Af) (i:(DK os Ay&&Mt fr Ay&&Nc fr fx&&Im hs&&Nq n e&&ks.all (BQ os))=true) (s:Fw C Ay) (o:J4 (AL hs) fl)
  (g:∀r:Ren,r.θ=C.θ→r.H0=C.H0→r.κ=C.κ→r.no=C.no→Iu P C.l r f xs m x Ay fr)
  (h:LO P n C c (k+1) (Ad (Hu e x (Eh fr ss)) (Ay++Db (Ay.map (·.1)) fr fl hs)) Q):LO P n C c k (Ad ss hs) Q:=by
 simp only[Yb]at i
 obtain⟨⟨⟨⟨⟨I,J⟩,K⟩,L⟩,M⟩,N⟩:=i
 exact Zyv D F E e l j q f first d xs G t ks m p (ι:=Unit) (fun _=>True) (fun _=>x) (fun _=>Ay) fr fl (by simp only[Yb];exact⟨⟨⟨K,L⟩,M⟩,N⟩) (fun _=>by simp only[Yb];exact⟨I,J⟩) (fun _=>s) o
  (fun r w z A B u a b=>(g r w z A B u a b).mono fun y v H=>⟨(),trivial,H⟩) fun _ _=>h
end
def D4(l:Nat)(ks:List Af):Af→Af
 |(0,i)=>match Bt ks i with|some k=>k|none=>(0,0)
 |(_+1,d)=>(l+1,d)
def HF(a:List Nat):Af→Nat
 |(0,i)=>match Bt a i with|some g=>g|none=>0
 |(_+1,_)=>0
def Cv(l:Nat)(ks:List Af)(a:List Nat)(θ:Nat→AV)(H:Hp):Ren:=⟨D4 l ks,HF a,θ,H,fun k=>k∈ks⟩
def I0(l:Nat)(ks:List Af)(a:List Nat)(r:Ren):Prop:=r.κ=D4 l ks∧∀i,i<ks.length→r.γ (0,i)=HF a (0,i)
def C1(r:Ren):Nat→List Blk→List Blk
 |_,[]=>[]
 |i,b::a=>AW r (0,i) b::C1 r (i+1) a
def DL(H:Hp):List Af→List Blk→Hp
 |k::ks,b::a=>DL (updH H k b) ks a
 |_,_=>H
theorem kw:∀(ks:List Af) (a:List Blk) (H:Hp) (q:Af),q∉ks→DL H ks a q=H q
 |[],a,H,q,h=>by cases a<;>rfl
 |k::ks,[],H,q,h=>rfl
 |k::ks,b::a,H,q,h=>by
  simp only[DL]
  rw[kw ks a _ q (fun hm=>h (YC _ hm)),A0 _ _ (fun e=>h (by rw[e];exact YB ..))]
theorem ZuI:∀(ks:List Af) (a:List Blk) (H:Hp),ks.Nodup→∀(j:Nat) (k:Af) (b:Blk),ks[j]?=some k→a[j]?=some b→DL H ks a k=b
 |[],a,H,_,j,k,b,h,_=>by simp at h
 |q::ks,[],H,_,_,_,_,_,h=>by simp at h
 |q::ks,c::a,H,e,j,k,b,d,hb=>by
  simp only[DL]
  rw[List.nodup_cons]at e
  cases j with
  |zero=>
   simp only[Gp,Yj]at d hb
   subst d;subst hb
   rw[kw ks a _ _ e.1,A6]
  |succ j=>
   simp only[L9]at d hb
   exact ZuI ks a _ e.2 j k b d hb
theorem Zo2{r:Ren}:∀(a:List Blk) (i j:Nat),(C1 r i a)[j]?=(a[j]?).map (AW r (0,i+j))
 |[],i,j=>by simp[C1]
 |b::a,i,0=>by simp[C1]
 |b::a,i,j+1=>by
  simp only[C1,L9,Zo2 a (i+1) j,show i+1+j=i+(j+1)from by omega]
theorem zy{P:Program}{T:Nat→Option TI}{n:Nat}{f:FuncId}{fn:Func}(J:List ResultVar)(c:Code){l:Nat}{xs:List AV}{H:Hp}{g:AV→Hp→Prop}(ks:List Af)(t:List Nat)(fx:List Nat)(θ:Nat→AV)(ys:List AV)(hs:List (Af×Blk))(LPost:AV→List Blk→Prop)
  (V:P.funcs[f]?=some fn) (hb:fn.body=some c) (s:(fn.name== "runtime.NumGoroutine")=false) (Z:fn.ntmps=n) (hr:fn.results.toList=J) (hx:xs.length≤n) (S:Bl P T)
  (D:∀k∈ks,k.1≤l) (u:ks.Nodup) (W:∀d,AL hs (1,d)=Fj) (F:∀k,(AL hs k).live=true→k.1=0∧k.2<ks.length)
  (R:∀i k,ks[i]?=some k→(H k).g=HF t (0,i)+(AL hs (0,i)).g∧((AL hs (0,i)).live=true→H k=AW (Cv l ks t θ H) (0,i) (AL hs (0,i))))
  (I:As (Cv l ks t θ H) ys=xs)
  (h:∀C,CxOk C→C.outs=ks.length→C.fx=fx→C.l=l→C.H0=H→C.θ=θ→C.κ=D4 l ks→C.no=(fun k=>k∈ks)→LW P n C c (Ad (Ep 0 ys) hs) (FQ T J ks.length LPost))
  (v:∀y b,LPost y b→b.length=ks.length∧(∀x∈b,x.live=true)∧∀r:Ren,r.κ=D4 l ks→r.θ=θ→r.H0=H→r.no=(fun k=>k∈ks)→(∀i∈fx,r.γ (0,i)=HF t (0,i))→g (ren r y) (DL H ks (C1 r 0 b))):Zc1 P f l xs H g:=by
 let C:Base→Cx:=fun B=>⟨l,B,D4 l ks,θ,H,ks.length,fun k=>k∈ks,fx,fun γ=>∀i∈fx,γ (0,i)=HF t (0,i)⟩
 have a:∀i,i<ks.length→ks[i]?=some (D4 l ks (0,i)):=fun i hi=>by
  show _=some (match Bt ks i with|some k=>k|none=>(0,0))
  rw[Cs,Ye hi]
 have E:∀(i:Nat) (k:Af),ks[i]?=some k→i<ks.length:=fun i k hi=>by
  grind
 have K:∀B,CxOk (C B):=fun B=>by
  refine⟨fun _=>rfl,fun i hi=>D _ (Yi (a i hi)),fun i j hi Y e=>?_,fun k w=>?_,fun γ γ' he A i hi=>by rw[he i hi];exact A i hi⟩
  ·have m:=a i hi
   have o:=a j Y
   rw[show D4 l ks (0,i)=D4 l ks (0,j)from e]at m
   have Q:ks[i]?=ks[j]?:=m.trans o.symm
   exact(List.getElem?_inj hi u).1 Q
  ·obtain⟨i,hi⟩:=YG.1 (show k∈ks from w)
   grind
 refine ZpV J C (γ:=HF t) (LPost:=LPost) (ys:=ys) (hs:=hs) V hb s Z hr hx S K (fun B=>⟨rfl,rfl,rfl,fun i _=>rfl⟩) (fun B=>I) (fun _=>rfl) W (fun B k w=>?_) (fun B i hi=>?_) (fun B γ y b N A hy L _=>?_) (fun B=>h _ (K B) rfl rfl rfl rfl rfl rfl rfl)
 ·obtain⟨m,o⟩:=F k w
  obtain⟨k1,M⟩:=k
  simp only at m o
  subst m
  exact⟨rfl,o,(R M _ (a M o)).2 w⟩
 ·grind
 ·obtain⟨U,z,v⟩:=v y b hy
  have v:=v ((C B).r γ) rfl rfl rfl rfl fun i hi=>A i hi
  have O:N=DL H ks (C1 ((C B).r γ) 0 b):=by
   funext q
   by_cases G:q∈ks
   ·obtain⟨i,hi⟩:=YG.1 G
    have X:=E i q hi
    have p:b[i]?=some b[i]:=Ye (by omega)
    have m:=L.live i _ p (z _ (Yi p))
    have o:D4 l ks (0,i)=q:=by
     grind
    rw[show(C B).κ (0,i)=q from o]at m
    rw[m,ZuI ks _ H u i q (AW ((C B).r γ) (0,i) b[i]) hi]
    rw[Zo2,p,YO]
    rfl
   ·rw[kw ks _ H q G]
    exact L.o q G
  rw[O];exact v
theorem ZnB{P:Program}{T:Nat→Option TI}{n:Nat}{f:FuncId}{fn:Func}(w:List ResultVar)(c:Code){l:Nat}{xs:List AV}{H:Hp}{a:AV→Hp→Prop}(ks:List Af)(e:List Nat)(fx:List Nat)(θ:Nat→AV)(ys:List AV)(hs:List (Af×Blk))(LPost:AV→List Blk→Prop)
  (F:P.funcs[f]?=some fn) (hb:fn.body=some c) (g:(fn.name== "runtime.NumGoroutine")=false) (I:fn.ntmps=n) (J:fn.results.toList=w) (hx:xs.length≤n) (D:Bl P T)
  (q:∀k∈ks,k.1≤l) (t:ks.Nodup) (p:∀i,i<ks.length→i∈fx) (G:∀d,AL hs (1,d)=Fj) (s:∀k,(AL hs k).live=true→k.1=0∧k.2<ks.length)
  (B:∀i k,ks[i]?=some k→(H k).g=HF e (0,i)+(AL hs (0,i)).g∧((AL hs (0,i)).live=true→H k=AW (Cv l ks e θ H) (0,i) (AL hs (0,i))))
  (v:As (Cv l ks e θ H) ys=xs)
  (h:∀C,CxOk C→C.outs=ks.length→C.fx=fx→C.l=l→C.H0=H→C.θ=θ→C.κ=D4 l ks→C.no=(fun k=>k∈ks)→LW P n C c (Ad (Ep 0 ys) hs) (FQ T w ks.length LPost))
  (u:∀y b,LPost y b→b.length=ks.length∧(∀x∈b,x.live=true)∧∃Y' bs',(∀r,I0 l ks e r→ren r y=Y')∧(∀r,I0 l ks e r→C1 r 0 b=bs')∧a Y' (DL H ks bs')):Zc1 P f l xs H a:=by
 refine zy w c ks e fx θ ys hs LPost F hb g I J hx D q t G s B v h fun y b hy=>?_
 obtain⟨m,o,Y',bs',E,hB,u⟩:=u y b hy
 refine⟨m,o,fun r z _ _ _ A=>?_⟩
 have j:I0 l ks e r:=⟨z,fun i hi=>A i (p i hi)⟩
 rw[E _ j,hB _ j];exact u
theorem Zqc{P:Program}{T:Nat→Option TI}{n:Nat}{f:FuncId}{fn:Func}(v:List ResultVar)(c:Code){l:Nat}{xs:List AV}{H:Hp}{a:AV→Hp→Prop}(ks:List Af)(g:List Nat)(fx:List Nat)(θ:Nat→AV)(ys:List AV)(hs:List (Af×Blk))(Y:AV)(j:List Blk){Y':AV}{bs':List Blk}
  (D:P.funcs[f]?=some fn) (hb:fn.body=some c) (e:(fn.name== "runtime.NumGoroutine")=false) (F:fn.ntmps=n) (I:fn.results.toList=v) (hx:xs.length≤n) (A:Bl P T)
  (q:∀k∈ks,k.1≤l) (t:ks.Nodup) (p:∀i,i<ks.length→i∈fx) (E:∀d,AL hs (1,d)=Fj) (s:∀k,(AL hs k).live=true→k.1=0∧k.2<ks.length)
  (z:∀i k,ks[i]?=some k→(H k).g=HF g (0,i)+(AL hs (0,i)).g∧((AL hs (0,i)).live=true→H k=AW (Cv l ks g θ H) (0,i) (AL hs (0,i))))
  (u:As (Cv l ks g θ H) ys=xs) (m:j.length=ks.length) (o:∀b∈j,b.live=true) (B:∀r,I0 l ks g r→ren r Y=Y') (hB:∀r,I0 l ks g r→C1 r 0 j=bs')
  (h:∀C,CxOk C→C.outs=ks.length→C.fx=fx→C.l=l→C.H0=H→C.θ=θ→C.κ=D4 l ks→C.no=(fun k=>k∈ks)→LW P n C c (Ad (Ep 0 ys) hs) (FQ T v ks.length (fun y b=>y=Y∧b=j)))
  (G:a Y' (DL H ks bs')):Zc1 P f l xs H a:=by
 exact ZnB v c ks g fx θ ys hs (fun y b=>y=Y∧b=j) D hb e F I hx A q t p E s z u h fun y b ⟨w,x⟩=>by subst w;subst x;exact⟨m,o,Y',bs',B,hB,G⟩
section
variable {P:Program} {l:Nat} {r:Ren} {f:FuncId} {xs xs':List AV} {hb Ay:List (Af×Blk)} {x x':AV}
theorem Zyp(e:As r xs=xs')(g:ren r x=x')(h:∀a,(∀p∈hb,(a (r.κ p.1)).g=r.γ p.1+p.2.g∧(p.2.live=true→a (r.κ p.1)=AW r p.1 p.2))→(∀k:Af,k.1≤l→¬r.no k→a k=r.H0 k)→Zc1 P f (l+1) xs' a (fun y b=>y=x'∧b=Do r Ay a)):
  Iu P l r f xs hb x Ay []:=fun a hb i=>by
 rw[e]
 exact(h a hb i).mono fun y b ⟨c,d⟩=>⟨r.γ,fun _ _=>rfl,by rw[c,←g],d⟩
end
theorem Zyq{α:Type}{e:α→List D}{r:Ren}{k:Af}(xs:List α):F8 r k (Ab e xs):=by
 unfold F8
 rw[JC (Aw e xs)]
 refine Ys.2 fun x hx=>?_
 obtain⟨d,_,rfl⟩:=YT.1 hx
 rfl
theorem Zuh{r:Ren}{k:Af}{vs:List AV}(h:(As r vs).all (AV.low (r.κ k).1)=true):F8 r k vs:=h
theorem Hg{r:Ren}{k:Af}(ds:List D):F8 r k (ds.map .d):=by
 unfold F8
 rw[Ic]
 refine Ys.2 fun x hx=>?_
 obtain⟨d,_,rfl⟩:=YT.1 hx
 rfl
theorem zN{α:Type}(e:α→List D)(xs:List α):FV (Ab e xs):=fun x hx=>by
 obtain⟨d,_,rfl⟩:=YT.1 hx;rfl
theorem Zyd{α:Type}{e:α→List D}{xs:List α}{off cn sz:Nat}{z:List AV}(hl:∀x,(e x).length=sz)(h:off+cn≤xs.length):
  gY (Ab e xs) off cn sz z ((Ab e xs).take (off*sz)++(List.replicate cn z).flatten++(Ab e xs).drop ((off+cn)*sz)):=by
 refine⟨?_,rfl⟩
 rw[FP hl]
 exact Ea _ h
theorem ZzG{α:Type}{e:α→List D}{xs:List α}{off sz:Nat}{A B:List AV}(hl:∀x,(e x).length=sz)(h:off≤xs.length):∃m,((Ab e xs).take (off*sz)++A++B).take m=Ab e (xs.take off):=by
 refine⟨off*sz,?_⟩
 have a:((Ab e xs).take (off*sz)).length=off*sz:=by
  rw[YD,FP hl]
  exact FD (Ea _ h)
 rw[Y7,SZ (by omega),Kg (by omega),kJ hl]
def I6(n:Nat):List (Af×Blk)→Bool
 |[]=>true
 |(k,_)::r=>Nat.beq k.1 0&&Nat.ble (k.2+1) n&&I6 n r
theorem ma{n:Nat}:∀{hs:List (Af×Blk)},I6 n hs=true→∀k,(AL hs k).live=true→k.1=0∧k.2<n
 |[],_,k,h=>by simp[AL,Fj]at h
 |(q,b)::r,hi,k,h=>by
  simp only[I6,Yb]at hi
  simp only[AL]at h
  split at h
  ·rename_i a
   have a:=Cy.1 a
   subst a
   exact⟨Yd hi.1.1,Yh hi.1.2⟩
  ·exact ma hi.2 k h
theorem kH{n:Nat}:∀{hs:List (Af×Blk)},I6 n hs=true→∀d,AL hs (1,d)=Fj
 |[],_,d=>rfl
 |(q,b)::r,hi,d=>by
  simp only[I6,Yb]at hi
  simp only[AL]
  split
  ·rename_i a
   have a:=Cy.1 a
   subst a
   have:=Yd hi.1.1
   grind
  ·exact kH hi.2 d
def Kd(H:Hp)(r:Ren)(hs:List (Af×Blk)):Nat→List Af→Prop
 |_,[]=>True
 |i,k::ks=>((H k).g=r.γ (0,i)+(AL hs (0,i)).g∧((AL hs (0,i)).live=true→H k=AW r (0,i) (AL hs (0,i))))∧Kd H r hs (i+1) ks
theorem pG{H:Hp}{r:Ren}{hs:List (Af×Blk)}:∀{ks:List Af} {i:Nat},Kd H r hs i ks→∀j k,ks[j]?=some k→(H k).g=r.γ (0,i+j)+(AL hs (0,i+j)).g∧((AL hs (0,i+j)).live=true→H k=AW r (0,i+j) (AL hs (0,i+j)))
 |[],i,_,j,k,h=>by simp at h
 |q::ks,i,h,0,k,a=>by
  simp only[Gp,Yj]at a
  subst a
  exact h.1
 |q::ks,i,h,j+1,k,a=>by
  have:=pG h.2 j k (by simpa using a)
  grind
def Jp(l:Nat):List Af→Prop
 |[]=>True
 |k::ks=>k.1≤l∧Jp l ks
theorem Wg{l:Nat}:∀{ks:List Af},Jp l ks→∀k∈ks,k.1≤l
 |q::ks,h,k,a=>by
  rcases Yx.1 a with rfl|a
  ·exact h.1
  ·exact Wg h.2 k a
def I7:Nat→List Nat
 |0=>[]
 |n+1=>I7 n++[n]
theorem V9:∀{n i:Nat},i<n→i∈I7 n
 |n+1,i,h=>by
  simp only[I7,DS,YW]
  rcases YF i n with a|a
  ·exact .inl (V9 a)
  grind
theorem Zn2{P:Program}{T:Nat→Option TI}{n:Nat}{f:FuncId}{fn:Func}(u:List ResultVar)(c:Code){l:Nat}{xs:List AV}{H:Hp}{a:AV→Hp→Prop}(ks:List Af)(g:List Nat)(os:Nat)(θ:Nat→AV)(ys:List AV)(hs:List (Af×Blk))(Y:AV)(e:List Blk){Y':AV}{bs':List Blk}
  (z:P.funcs[f]?=some fn) (hb:fn.body=some c) (d:(fn.name== "runtime.NumGoroutine")=false) (B:fn.ntmps=n) (E:fn.results.toList=u) (hx:xs.length≤n) (w:Bl P T) (s:ks.length=os)
  (p:Jp l ks) (q:ks.Nodup) (j:I6 os hs=true) (v:Kd H (Cv l ks g θ H) hs 0 ks) (t:As (Cv l ks g θ H) ys=xs) (m:e.length=os) (o:∀b∈e,b.live=true) (x:∀r,I0 l ks g r→ren r Y=Y') (hB:∀r,I0 l ks g r→C1 r 0 e=bs')
  (h:∀C,CxOk C→C.outs=os→C.fx=I7 os→C.l=l→C.H0=H→C.θ=θ→C.κ=D4 l ks→C.no=(fun k=>k∈ks)→LW P n C c (Ad (Ep 0 ys) hs) (FQ T u os (fun y b=>y=Y∧b=e)))
  (D:a Y' (DL H ks bs')):Zc1 P f l xs H a:=by
 subst s
 exact Zqc u c ks g (I7 ks.length) θ ys hs Y e z hb d B E hx w (Wg p) q (fun i hi=>V9 hi) (kH j) (ma j) (fun i k A=>by have:=pG v i k A;rw[YO]at this;exact this) t m o x hB h D
theorem Zqh{α:Type}{e e':α→List D}{xs:List α}{j sz:Nat}{x:α}(hx:xs[j]?=some x)(hl:∀x,(e x).length=sz)(he:∀x,e x=e' x):DW (Ab e xs) (j*sz) ((e' x).map .d):=by
 have a:j<xs.length:=by
  grind
 have:=zp (z:=x) a hl he
 grind
theorem ZEd{P:Program}{l o:Nat}{no b:Af→Prop}{H j:Hp}{c:AV}{m:List AV}{y:AV}(h:CP P l no H c m y)(hl:l≤o)(i:∀q:Af,q.1≤l→¬no q→¬b q)(r:∀q:Af,q.1≤l→¬no q→j q=H q):CP P o b j c m y:=by
 obtain⟨f,first,a,e,h⟩:=h
 exact⟨f,first,a,e,fun l' p g s=>h l' p (Ed hl g) fun k d n=>by rw[s k (Ed d hl) (i k d n),r k d n]⟩
def ZN5:Code→Operand
 |.cond o _ _=>o
 |_=>.tmp 0
def FZ(c:Code)(k:Nat):Option Nat:=match Hj c k with|some (d,_,_)=>d|none=>none
def callF(c:Code)(k:Nat):Operand:=match Hj c k with|some (_,f,_)=>f|none=>.tmp 0
def Hl(c:Code)(k:Nat):List Operand:=match Hj c k with|some (_,_,xs)=>xs|none=>[]
theorem ZpT{P:Program}{n:Nat}{C:Cx}{Q:Exit→St→Prop}(m:CxOk C){os:Nat}{fx:List Nat}(p:C.outs=os)(o:C.fx=fx){c:Code}{k:Nat}{ss:List (Nat×AV)}{hs:List (Af×Blk)}
  (f:FuncId) (first a xs:List AV) (i:Hj c k=some (FZ c k,callF c k,Hl c k)) (q:ev (AG ss) (callF c k)=.fn (.func f) first a) (l:first++(Hl c k).map (ev (AG ss))++a=xs) (ks:List Af) (hb:List (Af×Blk)) (e:(ks.map fun k=>(k,AL hs k))=hb)
  (x:AV) (Ay:List (Af×Blk)) (fr fl:List Af) (g:(DK os Ay&&Mt fr Ay&&Nc fr fx&&Im hs&&Nq n (FZ c k)&&ks.all (BQ os))=true) (j:Fw C Ay) (d:J4 (AL hs) fl)
  (b:∀r:Ren,r.θ=C.θ→r.H0=C.H0→r.κ=C.κ→r.no=C.no→Iu P C.l r f xs hb x Ay fr)
  (h:LO P n C c (k+1) (Ad (Hu (FZ c k) x (Eh fr ss)) (Ay++Db (Ay.map (·.1)) fr fl hs)) Q):LO P n C c k (Ad ss hs) Q:=
 ZEA m p o _ _ _ i f first a xs q l ks hb e x Ay fr fl g j d b h
end Go.Eng
namespace Go.Eng
open Go
set_option linter.all false
end Go.Eng
namespace Go.Eng
set_option linter.all false
open Go Go.RowKit Go.Shelf
theorem ZnH{w:World}{S:Nat→Prop}{H:Hp}{m:Mu}{l:Nat}{vs:Array Value}{n:Int}(f:K8 w S H m l [.e0,.d (.int .i64 n)] vs):∃a,vs=#[.slice a 0 0,.int .i64 n]:=by
 obtain⟨hs,b⟩:=f
 obtain⟨l⟩:=vs
 match l,hs,b with
 |[v0,g],_,b=>
  have e:=b 0 .e0 v0 rfl rfl
  have c:=b 1 (.d (.int .i64 n)) g rfl rfl
  cases e with
  |e0 a=>
   cases c with
   |d _ _ c=>
    cases c with
    |int=>exact⟨a,rfl⟩
theorem kB{P:Program}{ρ:Go.Shelf.Ren}(L:Go.Proofs.Lays8.n4 P ρ)(i0:TypeInfo)(z:Value)(r:P.info? (ρ.t 25)=some i0)(t:i0.zero=some z)(s:0<i0.size)(u:z.cells.size=i0.size)(p:i0.bytes≤256)
  (E:∃fn c,P.funcs[ρ.f 4]?=some fn∧fn.body=some c∧(fn.name== "runtime.NumGoroutine")=false) {ℓ:Nat} {ℋ:Hp} {k:Af} (d:k.1≤ℓ) {g:Nat} (F:(ℋ k).g=g) (n:Nat) (K:n<549755813888) {b:AV→Hp→Prop}
  (h:b (.ref k (g+1) 0 0) (updH ℋ k ⟨g+1,true,ρ.t 25,i0.size,[]⟩)):Zc1 P (ρ.f 4) ℓ [.e0,.d (.int .i64 n)] ℋ b:=
 ⟨E,fun m S w vs B D=>by
  obtain⟨a,rfl⟩:=ZnH D
  subst F
  by_cases C:n=0
  ·subst C
   refine(Go.Proofs.Any8.slices_Grow_room L a 0 0 0 w (by omega) (by omega) (by omega) (by omega)).mono fun e w' ⟨f,o⟩=>?_
   subst o
   obtain⟨y,A⟩:=B.overEmpty k d ((ℋ k).g+1) (ρ.t 25) i0.size (by omega) ⟨0,0,0⟩ rfl
   refine⟨_,_,_,_,_,f,h,y,?_,A⟩
   have:=RepA.refL (w:=w') (S:=S) (H:=updH ℋ k ⟨(ℋ k).g+1,true,ρ.t 25,i0.size,[]⟩) (m:=Bn m k ⟨0,0,0⟩) (l:=ℓ) k 0 0 a d (by rw[A6]) (by omega) (fun q=>by rw[Bj]at q;exact absurd q (OB 0))
   rw[A6,Bj]at this
   exact this
  ·have Ay:n*i0.bytes≤549755813888*256:=Nat.mul_le_mul (by omega) p
   refine(Go.Proofs.Any8.slices_Grow_grow L i0 z r t s a 0 0 n [] w (by omega) (by omega) (by rw[YO];omega) (by omega) (by simp) (fun _=>rfl) (fun _ _ j v I=>by simp at I)).mono fun e w' ⟨f,o⟩=>?_
   have J:n≤grownCap w (0+n) 0 (ρ.t 25):=by have:=grownCap_ge w (0+n) 0 (ρ.t 25);omega
   generalize grownCap w (0+n) 0 (ρ.t 25)=G at*
   subst o
   obtain⟨y,A⟩:=B.alloc k d (ρ.t 25) i0.size G [] (([]:List Value).toArray++Builtin.zeroCells z.cells (0+n-0)++Builtin.zeroCells z.cells (G-(0+n))) (by omega)
    (by simp only[Array.size_append,ka,u];rw[show([]:List Value).toArray.size=0 from rfl,YO,←Y1,show 0+n-0+(G-(0+n))=G from by omega]) (CK _) (fun i x v hx=>by simp at hx)
    (w.drew.alloc (.cells (([]:List Value).toArray++Builtin.zeroCells z.cells (0+n-0)++Builtin.zeroCells z.cells (G-(0+n))) (ρ.t 25))) rfl rfl rfl rfl
   refine⟨_,_,_,_,_,f,h,y,?_,A⟩
   have:=RepA.refL (w:=w.drew.alloc (.cells (([]:List Value).toArray++Builtin.zeroCells z.cells (0+n-0)++Builtin.zeroCells z.cells (G-(0+n))) (ρ.t 25))) (S:=S) (H:=updH ℋ k ⟨(ℋ k).g+1,true,ρ.t 25,i0.size,[]⟩) (m:=Bn m k ⟨w.heap.size,0,G⟩) (l:=ℓ) k 0 0 (some ⟨w.heap.size,0,none⟩) d (by rw[A6]) (by omega) (fun _=>by rw[Bj];simp)
   rw[A6,Bj]at this
   exact this⟩
theorem ZHt{α:Type}{e:α→List D}{xs:List α}{l h:Nat}(q:Gl l h xs.length):Gl l h (xs.map e).length:=by rw[YH];exact q
theorem ZI6{α:Type}{e:α→List D}{xs:List α}{sz:Nat}(he:∀x,(e x).length=sz):∀d,d∈xs.map e→d.length=sz:=fun d h=>by
 grind
theorem ZGX{α:Type}{e:α→List D}{xs:List α}{sz l h:Nat}(he:∀x,(e x).length=sz):SX (xs.map e) sz l h (((xs.drop l).take (h-l)).map e):=
 ⟨ZI6 he,by rw[←List.map_drop,←List.map_take]⟩
theorem ZtE{i:Int}{len sz:Nat}(a:0≤i)(h:i<len):ME i len 0 sz (i.toNat*sz):=⟨a,h,by simp⟩
theorem Zyl{α:Type}{e:α→List D}{xs:List α}{j sz a:Nat}{z y:α}{vs:List D}(b:j<xs.length)(hl:∀x,(e x).length=sz)(g:a+vs.length≤sz)(he:e y=(e (xs.getD j z)).take a++vs++(e (xs.getD j z)).drop (a+vs.length)):
  HK (Ab e xs) (j*sz+a) (vs.map .d) (Ab e (xs.set j y)):=by
 have d:(j+1)*sz≤xs.length*sz:=Ea _ b
 rw[Y1,Md]at d
 refine⟨by rw[YH,FP hl];omega,?_⟩
 have hx:xs.getD j z=xs[j]:=by rw[Yg,Ye b];rfl
 rw[hx]at he
 have hs:Ab e xs=Ab e (xs.take j)++((e xs[j]).map .d++Ab e (xs.drop (j+1))):=by
  conv=>lhs;rw[←HS j xs,HQ b,Wb,H7]
 have c:(Ab e (xs.take j)).length=j*sz:=by rw[FP hl,YD,FD (by omega)]
 have f:((e xs[j]).map AV.d).length=sz:=by rw[YH,hl]
 rw[hs,List.take_append,Kg (by omega:(Ab e (xs.take j)).length≤j*sz+a),c,show j*sz+a-j*sz=a from by omega,SZ (by omega),
  List.drop_append,ax (by rw[c];omega),c,Fy,show j*sz+a+(vs.map AV.d).length-j*sz=a+vs.length from by rw[YH];omega,aH (by omega),
  ri,Ym b,Wb,H7,he]
 simp only[DT,List.map_take,List.map_drop,Y7]
end Go.Eng
namespace Go.Eng
set_option linter.all false
theorem lb{α:Type}{l:List α}{p:α→Bool}:((match l.findIdx? p with|some k=>(k:Int)|none=>-1)≥0)↔l.any p=true:=by
 rw[YL]
 cases h:l.findIdx? p with
 |none=>
  rw[L8]at h
  constructor
  ·intro e;exact absurd e (by decide)
  ·rintro⟨x,hx,a⟩;rw[h x hx]at a;cases a
 |some k=>
  obtain⟨b,c,_⟩:=Mc.1 h
  exact⟨fun _=>⟨l[k],Gn b,c⟩,fun _=>Int.natCast_nonneg k⟩
theorem ZBT{α:Type}{e e':α→List D}{xs:List α}{j sz:Nat}{y:α}(a:j<xs.length)(hl:∀x,(e x).length=sz)(he:∀x,e x=e' x):HK (Ab e xs) (j*sz) ((e' y).map .d) (Ab e (xs.set j y)):=by
 rw[←he];exact ZH4 a hl
theorem Zlr{α:Type}{sz:Nat}{e e':α→List D}{y:α}(C:List AV)(hl:∀x,(e x).length=sz)(he:∀x,e x=e' x):Ej sz C (.d (.list [e' y])) 1 (Ab e [y]):=by
 rw[Zzu,he];exact ZxQ C (by rw[←he];exact hl y)
theorem ZJP{C:List AV}{o n m sz:Nat}{a:List (List D)}(h:n=m)(k:HI C o m sz a):HI C o n sz a:=h▸k
theorem ZFr{α:Type}{e:α→List D}{xs:List α}{n m off sz:Nat}(a:n=m)(h:off≤xs.length)(hl:∀x,(e x).length=sz):n=m∧off*sz≤(Ab e xs).length∧(Ab e xs).drop (off*sz)=Ab e (xs.drop off):=
 ⟨a,by rw[FP hl];exact Ea _ h,PS hl xs off⟩
theorem ZJb{α:Type}{e:α→List D}{z:α}{c:List AV}(a:(e z).map .d=c)(m:Nat):(List.replicate m c).flatten=Ab e (List.replicate m z):=by
 subst a
 induction m with
 |zero=>rfl
 |succ m b=>rw[aD,Kj,b,aD,H7]
end Go.Eng
namespace Go.Eng
set_option linter.all false
open Go Go.RowKit
section
variable {P:Program} {T:Nat→Option TI} {n:Nat} {C:Cx} {τ:St} {Q:Exit→St→Prop}
theorem ZJE(f:CxOk C){os:Nat}{fx:List Nat}(k:C.outs=os)(i:C.fx=fx){c:Code}(a:AT)(lf:Lf)(q:Ren→(St→Prop)→Prop)
  (m:∀r Φ,Bs r os a τ (fun τ _=>FX fx lf τ Φ)=q r Φ) (h:∀r,r.θ=C.θ→r.H0=C.H0→r.κ=C.κ→r.no=C.no→q r (fun τ'=>LW P n C c τ' Q)):LW P n C c τ Q:=by
 subst k
 subst i
 intro γ σ l j
 have e:=h (C.r γ) rfl rfl rfl rfl
 rw[←m]at e
 obtain⟨y,w,x,g,b,d⟩:=Cn (n:=n) f a e j
 obtain⟨u,z,v,o,p,s,t⟩:=H5 (n:=n) f g l b
 exact BR.weak (p u v o s) (d.trans t)
end
theorem ZoI{s:ByteArray}{i:Int}(a:0≤i)(h:i<s.size):Jl s i ((s.data.toList.getD i.toNat 0).toNat:Int):=by
 have:=ZsG (s:=s) (i:=i.toNat) (by omega)
 rwa [Int.toNat_of_nonneg a]at this
end Go.Eng
