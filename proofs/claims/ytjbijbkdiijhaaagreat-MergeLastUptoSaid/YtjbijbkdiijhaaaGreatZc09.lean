import Derived.Test.YtjbijbkdiijhaaaGreatZc08
import Derived.Shelf.Spec.SlicesGrow
import Derived.Test.YtjbijbkdiijhaaaGreatZc00
namespace Go.Eng
set_option linter.all false
open Go Go.RowKit
theorem H6{α:Type}(e:α→List D)(x:α)(xs:List α):Ab e (x::xs)=(e x).map .d++Ab e xs:=by simp[Ab]
theorem PK{α:Type}{e:α→List D}{sz:Nat}(hl:∀x,(e x).length=sz):∀(xs:List α) (j:Nat),(Ab e xs).drop (j*sz)=Ab e (xs.drop j)
 |[],j=>by simp[Ab]
 |x::xs,0=>by simp
 |x::xs,j+1=>by
  have a:((e x).map AV.d).length=sz:=by rw[YG,hl]
  rw[H6,YX,L8,Ow,←OH,List.drop_left' a,PK hl xs j]
  rfl
theorem kv{α:Type}{e:α→List D}{sz:Nat}(hl:∀x,(e x).length=sz):∀(xs:List α) (j:Nat),(Ab e xs).take (j*sz)=Ab e (xs.take j)
 |[],j=>by simp[Ab]
 |x::xs,0=>by simp[Ab]
 |x::xs,j+1=>by
  have a:((e x).map AV.d).length=sz:=by rw[YG,hl]
  rw[H6,List.take_succ_cons,H6,YX,L8,Ow,List.take_append,a,Oq,kv hl xs j,Ke (by omega)]
theorem Zuw{α:Type}{xs:List α}{j:Nat}{z:α}(a:j<xs.length):xs.drop j=xs.getD j z::xs.drop (j+1):=by
 rw[HP a,Yg,Ye a];rfl
theorem zg{α:Type}{e e':α→List D}{xs:List α}{j sz:Nat}{z:α}(a:j<xs.length)(hl:∀x,(e x).length=sz)(he:∀x,e x=e' x):DN (Ab e xs) (j*sz) ((e' (xs.getD j z)).map .d):=by
 unfold DN
 rw[PK hl,Zuw (z:=z) a,H6,he,List.take_left]
theorem ZlE{α:Type}{e e':α→List D}{xs:List α}{j sz o:Nat}{z:α}{c:List AV}(b:j<xs.length)(hl:∀x,(e x).length=sz)(he:∀x,e x=e' x)
  (a:(((e' (xs.getD j z)).map .d).drop o).take c.length=c) (f:o+c.length≤sz):DN (Ab e xs) (j*sz+o) c:=by
 unfold DN
 have d:((e' (xs.getD j z)).map AV.d).length=sz:=by rw[YG,←he,hl]
 rw[←OH,PK hl,Zuw (z:=z) b,H6,he,aa (by omega),SI (by rw[Do];omega),a]
theorem ZJm{α:Type}{e:α→List D}{xs:List α}{j sz:Nat}{y:α}(b:j<xs.length)(hl:∀x,(e x).length=sz):HI (Ab e xs) (j*sz) ((e y).map .d) (Ab e (xs.set j y)):=by
 have a:((e y).map AV.d).length=sz:=by rw[YG,hl]
 have c:(j+1)*sz≤xs.length*sz:=Y9 _ b
 rw[YX,L8]at c
 refine⟨by rw[a,FK hl];omega,?_⟩
 rw[a,kv hl,show j*sz+sz=(j+1)*sz from by rw[YX,L8],PK hl,qZ,Yk b,VJ,H6,D2]
end Go.Eng
namespace Go.Eng
set_option linter.all false
open Go Go.RowKit
def Dg(r:Ren):List (Af×Blk)→Hp→Hp
 |[],H=>H
 |(k,b)::a,H=>Dg r a (updH H (r.κ k) (AS r k b))
def Ih(P:Program)(l:Nat)(r:Ren)(f:FuncId)(xs:List AV)(d:List (Af×Blk))(x:AV)(AB:List (Af×Blk))(fr:List Af):Prop:=
 ∀a,(∀p∈d,(a (r.κ p.1)).g=r.γ p.1+p.2.g∧(p.2.live=true→a (r.κ p.1)=AS r p.1 p.2))→(∀k:Af,k.1≤l→¬r.no k→a k=r.H0 k)→
  Zc1 P f (l+1) (Ar r xs) a (fun y b=>∃c:Af→Nat,(∀k,k∉fr→c k=r.γ k)∧y=ren ⟨r.κ,c,r.θ,r.H0,r.no⟩ x∧b=Dg ⟨r.κ,c,r.θ,r.H0,r.no⟩ AB a)
mutual
def Hc(fr:List Af):AV→Bool
 |.ref k _ _ _=>fr.any (BI k)
 |.ptr k _ _=>fr.any (BI k)
 |.mp k _=>fr.any (BI k)
 |.fn _ xs ys=>H8 fr xs||H8 fr ys
 |.agg xs=>H8 fr xs
 |.tup xs=>H8 fr xs
 |.top=>false
 |.d _=>false
 |.e0=>false
 |.p _=>false
 |.iptr _ _=>false
 |.ifc _ _ _=>false
def H8(fr:List Af):List AV→Bool
 |[]=>false
 |x::xs=>Hc fr x||H8 fr xs
end
def Ea(fr:List Af):List (Nat×AV)→List (Nat×AV)
 |[]=>[]
 |(j,x)::r=>(j,match Hc fr x with|true=>.top|false=>x)::Ea fr r
def C3(ks fr fl:List Af):List (Af×Blk)→List (Af×Blk)
 |[]=>[]
 |(k,b)::r=>match ks.any (BI k),fl.any (BI k)||!H8 fr b.cells with
  |false,true=>(k,b)::C3 ks fr fl r
  |_,_=>C3 (k::ks) fr fl r
def Ht:Option Nat→AV→List (Nat×AV)→List (Nat×AV)
 |some d,x,r=>(d,x)::r
 |none,_,r=>r
def BO(os:Nat)(k:Af):Bool:=Nat.beq k.1 1||(Nat.beq k.1 0&&Nat.ble (k.2+1) os)
def Dz(os:Nat):List (Af×Blk)→Bool
 |[]=>true
 |(k,b)::r=>BO os k&&b.live&&!(r.any fun p=>BI k p.1)&&Dz os r
mutual
theorem zA{r:Ren}{b:Af→Nat}{fr:List Af}(a:∀k,k∉fr→b k=r.γ k):∀(x:AV),Hc fr x=false→ren ⟨r.κ,b,r.θ,r.H0,r.no⟩ x=ren r x
 |.ref k g off n,h=>by simp only[Hc]at h;simp only[ren];rw[a k (V1 h)]
 |.ptr k g off,h=>by simp only[Hc]at h;simp only[ren];rw[a k (V1 h)]
 |.mp k g,h=>by simp only[Hc]at h;simp only[ren];rw[a k (V1 h)]
 |.fn f xs ys,h=>by
  simp only[Hc,Kh]at h
  have c:=MN a xs h.1
  have d:=MN a ys h.2
  cases f<;>simp only[ren,c,d]
 |.agg xs,h=>by simp only[Hc]at h;simp only[ren,MN a xs h]
 |.tup xs,h=>by simp only[Hc]at h;simp only[ren,MN a xs h]
 |.top,_=>by simp[ren]
 |.d _,_=>by simp[ren]
 |.e0,_=>by simp[ren]
 |.p _,_=>by simp[ren]
 |.iptr _ _,_=>by simp[ren]
 |.ifc _ _ _,_=>by simp[ren]
theorem MN{r:Ren}{b:Af→Nat}{fr:List Af}(a:∀k,k∉fr→b k=r.γ k):∀(xs:List AV),H8 fr xs=false→Ar ⟨r.κ,b,r.θ,r.H0,r.no⟩ xs=Ar r xs
 |[],_=>by simp[Ar]
 |x::xs,h=>by
  simp only[H8,Kh]at h
  simp only[Ar,zA a x h.1,MN a xs h.2]
theorem V1{k:Af}{fr:List Af}(h:fr.any (BI k)=false):k∉fr:=fun hm=>by
 have:fr.any (BI k)=true:=YQ.2 ⟨k,hm,Cw.2 rfl⟩
 grind
end
def Ct:Code→Array Oper
 |.region _ ops _=>ops
 |_=>#[]
def vd:Code→Bool
 |.region _ _ false=>true
 |_=>false
def JT{α:Type}:Nat→List α→List α
 |0,l=>l
 |_+1,[]=>[]
 |n+1,_::l=>JT n l
def JO{α:Type}:Nat→List α→List α
 |0,_=>[]
 |_+1,[]=>[]
 |n+1,x::l=>x::JO n l
theorem kJ{α:Type}:∀(n:Nat) (l:List α),JT n l=l.drop n
 |0,l=>rfl
 |n+1,[]=>rfl
 |n+1,x::l=>kJ n l
theorem VD{α:Type}:∀(n:Nat) (l:List α),JO n l=l.take n
 |0,l=>rfl
 |n+1,[]=>rfl
 |n+1,x::l=>by rw[JO,VD n l];rfl
def LO(P:Program)(n:Nat)(C:Cx)(c:Code)(k:Nat)(τ:St)(Q:Exit→St→Prop):Prop:=
 ∀γ σ a w,C.G γ→RG (C.r γ) C.l C.outs [] τ σ→R C.l n C.B σ a w→wpList P (Ct c) (fun e d w'=>∃b,Is n C (Q e) b∧R C.l n C.B b d w') ((Ct c).toList.drop k) a w
def He(c:Code)(k:Nat):Option (Option Nat×Operand×List Operand):=
 match Bs (Ct c).toList k with
 |some o=>(match o.guard,o.op with
  |none,.call cl=>(match cl.callee with|.value f=>some (o.dst,f,cl.args.toList)|_=>none)
  |_,_=>none)
 |none=>none
def Ft(C:Cx):List (Af×Blk)→Prop
 |[]=>True
 |(k,_)::r=>match Nat.beq k.1 1 with|true=>Ft C r|false=>C.no (C.κ k)∧Ft C r
def J1(H:Hp):List Af→Prop
 |[]=>True
 |k::r=>Ib (H k).cells∧J1 H r
def Mq(fr:List Af)(AB:List (Af×Blk)):Bool:=fr.all fun k=>AB.any fun p=>BI k p.1
def Nb(fr:List Af)(fx:List Nat):Bool:=fr.all fun k=>!(Nat.beq k.1 0&&fx.any (Nat.beq k.2))
def Ij:List (Af×Blk)→Bool
 |[]=>true
 |(_,b)::r=>Nat.beq b.g 0&&Ij r
def yH:Option Nat→(Nat→AV)→AV→Nat→AV
 |some d,s,v=>upd s d v
 |none,s,_=>s
def Ni(n:Nat):Option Nat→Bool
 |some d=>Nat.ble (d+1) n
 |none=>true
section
variable {P:Program} {T:Nat→Option TI} {n:Nat} {C:Cx} {τ:St} {Q:Exit→St→Prop}
theorem ZpK{c:Code}(b:vd c=true)(h:LO P n C c 0 τ Q):LW P n C c τ Q:=by
 cases c with
 |region id ops d=>
  cases d with
  |true=>cases b
  |false=>
   obtain⟨i,rfl⟩:∃l:List Oper,ops=l.toArray:=⟨ops.toList,by simp⟩
   intro γ σ g e a w f
   have:=h γ σ a w g e f
   simp only[Ct,L7]at this
   exact wp_region_lit this
 |_=>cases b
theorem ZMF(d:CxOk C)(A:Bj P T){os:Nat}{fx:List Nat}(y:C.outs=os)(v:C.fx=fx){c:Code}{k:Nat}(m:Nat)(a:AT)(lf:Lf)(q:Ren→(St→Prop)→Prop)
  (E:∀r Φ,Bq r os a τ (fun τ a=>Hy P T C.l n r ((Ct c).toList.map (·.dst)) (JO m (JT k (Ct c).toList)) [] a (fun τ' env f=>Bq r os f (Ed env τ') (fun τ _=>FU fx lf τ Φ)) τ)=q r Φ)
  (h:∀r,r.θ=C.θ→r.H0=C.H0→r.κ=C.κ→r.no=C.no→q r (fun τ'=>LO P n C c (k+m) τ' Q)):LO P n C c k τ Q:=by
 subst y
 subst v
 intro γ σ g w D x z
 have o:=h (C.r γ) rfl rfl rfl rfl
 rw[←E]at o
 obtain⟨R,p,N,u,i,j⟩:=Cm (n:=n) d a o x
 have e:(Ct c).toList.drop k=JO m (JT k (Ct c).toList)++(Ct c).toList.drop (k+m):=by
  rw[VD,kJ,←OH,HR]
 rw[e]
 refine MQ (d.ren γ) A (B:=C.B) _ (fun τ' l f U b w' J K L=>?_) _ [] p R N g w u i (j _ _ z)
 obtain⟨V,s,t⟩:=PE (n:=n) K
 obtain⟨X,S,W,f1,f2,f3⟩:=Cm (n:=n) d f J s
 obtain⟨M,Y,O,F,G,H,I⟩:=H4 (n:=n) d f1 D f2
 exact G M O b w' F H (I _ _ (f3 _ _ (t _ _ L)))
theorem ZMG(b:CxOk C)(A:Bj P T){os:Nat}{fx:List Nat}(y:C.outs=os)(v:C.fx=fx){c:Code}{k:Nat}(a:AT)(lf:Lf)(q:Ren→(Exit→St→Prop)→Prop)
  (E:∀r Φ,Bq r os a τ (fun τ a=>Hy P T C.l n r ((Ct c).toList.map (·.dst)) (JT k (Ct c).toList) [] a (fun τ' env d=>Bq r os d (Ed env τ') (fun τ _=>FU fx lf τ (Φ .normal))) τ)=q r Φ)
  (h:∀r,r.θ=C.θ→r.H0=C.H0→r.κ=C.κ→r.no=C.no→q r Q):LO P n C c k τ Q:=by
 subst y
 subst v
 intro γ σ f w D x z
 have m:=h (C.r γ) rfl rfl rfl rfl
 rw[←E]at m
 obtain⟨O,p,N,u,g,i⟩:=Cm (n:=n) b a m x
 have e:(Ct c).toList.drop k=JT k (Ct c).toList++[]:=by rw[kJ,HO]
 rw[e]
 refine MQ (b.ren γ) A (B:=C.B) _ (fun τ' l d U j w' J K L=>?_) _ [] p O N f w u g (i _ _ z)
 obtain⟨V,s,t⟩:=PE (n:=n) K
 obtain⟨X,S,W,f1,f2,f3⟩:=Cm (n:=n) b d J s
 obtain⟨M,R,o,F,G,H,I⟩:=H4 (n:=n) b f1 D f2
 unfold wpList
 exact⟨o,⟨M,R,o,F,G,H,Wk.refl _⟩,I _ _ (f3 _ _ (t _ _ L))⟩
theorem VG:∀{hs:List (Af×Blk)},Ij hs=true→∀k,(AJ hs k).g=0
 |[],_,k=>rfl
 |(k',b)::r,h,k=>by
  simp only[Ij,Yc]at h
  simp only[AJ]
  split
  ·exact Yd h.1
  ·exact VG h.2 k
theorem ZoB{k:Af}{ks:List Af}:ks.any (BI k)=true↔k∈ks:=by
 rw[YQ]
 exact⟨fun⟨q,a,b⟩=>by rw[Cw.1 b];exact a,fun h=>⟨k,h,Cw.2 rfl⟩⟩
theorem ZDR(a b:List (Af×Blk))(k:Af):AJ (a++b) k=if k∈a.map (·.1)then AJ a k else AJ b k:=by
 induction a with
 |nil=>simp
 |cons p a f=>
  obtain⟨q,d⟩:=p
  simp only[HM,AJ,YW,Yx]
  cases c:BI q k with
  |true=>rw[Yk (.inl (Cw.1 c).symm)]
  |false=>
   have:k≠q:=fun e=>by rw[Cw.2 e.symm]at c;cases c
   grind
theorem PG{fr fl:List Af}:∀(hs:List (Af×Blk)) (ks:List Af) (k:Af),(k∈ks→AJ (C3 ks fr fl hs) k=Fh)∧(k∉ks→(AJ (C3 ks fr fl hs) k=AJ hs k∧(k∈fl∨H8 fr (AJ hs k).cells=false))∨AJ (C3 ks fr fl hs) k=Fh)
 |[],ks,k=>⟨fun _=>rfl,fun _=>.inr rfl⟩
 |(q,b)::r,ks,k=>by
  simp only[C3]
  split
  ·rename_i d a
   have f:q∉ks:=fun hm=>by rw[ZoB.2 hm]at d;cases d
   simp only[AJ]
   cases c:BI q k with
   |true=>
    have c:=Cw.1 c
    subst c
    refine⟨fun h=>absurd h f,fun _=>.inl ⟨rfl,?_⟩⟩
    simp only[YH,YJ]at a
    rcases a with a|a
    ·exact .inl (ZoB.1 a)
    grind
   |false=>exact PG r ks k
  ·obtain⟨d,a⟩:=PG (fr:=fr) (fl:=fl) r (q::ks) k
   refine⟨fun h=>d (Yz _ h),fun h=>?_⟩
   by_cases c:k=q
   ·grind
   ·rcases a (fun hm=>(Yx.1 hm).elim c h)with⟨i,j⟩|e
    ·have:BI q k=false:=by
      cases g:BI q k with
      |true=>exact absurd (Cw.1 g).symm c
      |false=>rfl
     simp only[AJ,this]
     grind
    grind
theorem Vc{r:Ren}:∀(AB:List (Af×Blk)) (H:Hp) (q:Af),(∀p∈AB,r.κ p.1≠q)→Dg r AB H q=H q
 |[],H,q,h=>rfl
 |(k,b)::a,H,q,h=>by
  simp only[Dg]
  rw[Vc a _ q (fun p c=>h p (Yz _ c)),AZ _ _ (fun e=>h (k,b) (YE ..) e.symm)]
theorem ZoV{r:Ren}{os:Nat}(d:∀q k:Af,BO os q=true→BO os k=true→q≠k→r.κ q≠r.κ k):∀(AB:List (Af×Blk)) (H:Hp),Dz os AB=true→∀k b,(k,b)∈AB→Dg r AB H (r.κ k)=AS r k b∧AJ AB k=b∧BO os k=true∧b.live=true
 |[],H,_,k,b,hm=>by cases hm
 |(q,c)::rest,H,g,k,b,hm=>by
  simp only[Dz,Yc,YJ]at g
  obtain⟨⟨⟨i,u⟩,j⟩,m⟩:=g
  have f:∀p∈rest,p.1≠q:=fun p a e=>by
   have:(rest.any fun p=>BI q p.1)=true:=YQ.2 ⟨p,a,Cw.2 e.symm⟩
   rw[this]at j;cases j
  have h:∀(l:List (Af×Blk)),Dz os l=true→∀p∈l,BO os p.1=true:=by
   intro l
   induction l with
   |nil=>intro _ p a;cases a
   |cons p l w=>
    obtain⟨x,y⟩:=p
    intro hl p a
    simp only[Dz,Yc]at hl
    rcases Yx.1 a with rfl|a
    ·exact hl.1.1.1
    ·exact w hl.2 p a
  simp only[Dg]
  rcases Yx.1 hm with e|hm
  ·cases e
   refine⟨?_,by simp only[AJ,Cw.2 rfl],i,u⟩
   rw[Vc rest _ _ (fun p a=>d _ _ (h rest m p a) i (f p a)),A4]
  ·obtain⟨n,o,s,t⟩:=ZoV d rest (updH H (r.κ q) (AS r q c)) m k b hm
   refine⟨n,?_,s,t⟩
   have:BI q k=false:=by
    cases v:BI q k with
    |true=>exact absurd (Cw.1 v).symm (f _ hm)
    |false=>rfl
   simp only[AJ,this]
   exact o
theorem nC:∀{AB:List (Af×Blk)},Ft C AB→∀p∈AB,p.1.1≠1→C.no (C.κ p.1)
 |(k,b)::r,h,p,c,a=>by
  simp only[Ft]at h
  split at h
  ·rename_i d
   rcases Yx.1 c with rfl|c
   ·exact absurd (Yd d) a
   ·exact nC h p c a
  ·rcases Yx.1 c with rfl|c
   ·exact h.1
   ·exact nC h.2 p c a
theorem nm{H:Hp}:∀{ks:List Af},J1 H ks→∀k∈ks,Ib (H k).cells
 |q::r,h,k,a=>by
  rcases Yx.1 a with rfl|a
  ·exact h.1
  ·exact nm h.2 k a
theorem Gy{os:Nat}{k:Af}(h:BO os k=true):k.1=1∨(k.1=0∧k.2<os):=by
 simp only[BO,YH,Yc]at h
 rcases h with h|⟨a,b⟩
 ·exact .inl (Yd h)
 ·exact .inr ⟨Yd a,Yh b⟩
theorem Zoc{fr:List Af}:∀(ss:List (Nat×AV)) (j:Nat),AG (Ea fr ss) j=.top∨(AG (Ea fr ss) j=AG ss j∧Hc fr (AG ss j)=false)
 |[],j=>.inl rfl
 |(i,x)::r,j=>by
  simp only[Ea,AG]
  split
  ·grind
  ·exact Zoc r j
theorem ZA9(hC:CxOk C){os:Nat}{fx:List Nat}(hO:C.outs=os)(hF:C.fx=fx){c:Code}{k:Nat}{ss:List (Nat×AV)}{hs:List (Af×Blk)}(l:Option Nat)(fo:Operand)(aZ:List Operand)(m:He c k=some (l,fo,aZ))
  (f:FuncId) (first u xs:List AV) (hf:ev (AG ss) fo=.fn (.func f) first u) (hxs:first++aZ.map (ev (AG ss))++u=xs) (ks:List Af) (J:List (Af×Blk)) (hhb:(ks.map fun k=>(k,AJ hs k))=J)
  {ι:Type} (I:ι→Prop) (xF:ι→AV) (s:ι→List (Af×Blk)) (fr fl:List Af) (M:(Nb fr fx&&Ij hs&&Ni n l&&ks.all (BO os))=true) (t:∀i,(Dz os (s i)&&Mq fr (s i))=true) (H:∀i,Ft C (s i)) (hfl:J1 (AJ hs) fl)
  (T:∀r:Ren,r.θ=C.θ→r.H0=C.H0→r.κ=C.κ→r.no=C.no→∀V,(∀p∈J,(V (r.κ p.1)).g=r.γ p.1+p.2.g∧(p.2.live=true→V (r.κ p.1)=AS r p.1 p.2))→(∀k:Af,k.1≤C.l→¬r.no k→V k=r.H0 k)→
   Zc1 P f (C.l+1) (Ar r xs) V (fun y W=>∃i,I i∧∃a:Af→Nat,(∀k,k∉fr→a k=r.γ k)∧y=ren ⟨r.κ,a,r.θ,r.H0,r.no⟩ (xF i)∧W=Dg ⟨r.κ,a,r.θ,r.H0,r.no⟩ (s i) V))
  (h:∀i,I i→LO P n C c (k+1) (Ad (Ht l (xF i) (Ea fr ss)) (s i++C3 ((s i).map (·.1)) fr fl hs)) Q):LO P n C c k (Ad ss hs) Q:=by
 subst hO
 subst hF
 simp only[Yc]at M
 obtain⟨⟨⟨k3,k4⟩,k5⟩,k6⟩:=M
 intro γ σ act w hg z hR
 have hr:=hC.ren γ
 have hs':∀j,σ.s j=ren (C.r γ) (AG ss j):=fun j=>(z.s j).1 Bg
 have A:∀y:Operand,ev σ.s y=ren (C.r γ) (ev (AG ss) y):=fun y=>Lg (c:=[]) z Bg (by cases y<;>rfl)
 unfold He at m
 split at m
 case h_2=>cases m
 rename_i o ho
 split at m
 case h_2=>cases m
 rename_i cl hgd hopc
 split at m
 case h_2=>cases m
 rename_i fo' hcal
 simp only[Yj,G2]at m
 obtain⟨hd,rfl,rfl⟩:=m
 rw[Cs]at ho
 have hlt:k<(Ct c).toList.length:=by
  grind
 have U:(Ct c).toList.drop k=o::(Ct c).toList.drop (k+1):=by
  rw[HP hlt]
  grind
 rw[U]
 have L:∀q k:Af,BO C.outs q=true→BO C.outs k=true→q≠k→(C.r γ).κ q≠(C.r γ).κ k:=fun q k Z h2 h3=>hr.ne (Gy Z) (Gy h2) h3
 have hA:=T (C.r γ) rfl rfl rfl rfl σ.H (fun p E=>by
  rw[←hhb]at E
  obtain⟨q,g,rfl⟩:=YS.1 E
  have hq':=Gy (Yu.1 k6 q g)
  refine⟨?_,fun hl=>z.h q hl⟩
  obtain⟨q1,q2⟩:=q
  simp only at hq'
  rcases hq' with rfl|⟨rfl,h2⟩
  ·have:=z.g q2
   rw[←hr.own]at this
   exact this
  ·exact z.go q2 h2) z.o
 have S:Ar (C.r γ) xs=Ar (C.r γ) first++cl.args.toList.map (ev σ.s)++Ar (C.r γ) u:=by
  rw[←hxs,G8,G8]
  congr 2
  rw[FJ,I0]
  exact Es fun y _=>(A y).symm
 have hfe:ev σ.s fo'=.fn (.func f) (Ar (C.r γ) first) (Ar (C.r γ) u):=by rw[A,hf];simp[ren]
 have hrop:BG P C.l n o (fun σ'=>∃i,I i∧∃a:Af→Nat,(∀q,q∉fr→a q=γ q)∧σ'=⟨yH l σ.s (ren (C.r a) (xF i)),Dg (C.r a) (s i) σ.H⟩) σ:=by
  unfold BG
  rw[hopc]
  simp only[hcal,hfe]
  rw[S]at hA
  refine hA.mono fun y W ⟨i,hi,a,N,e2,e3⟩=>?_
  unfold O3 CF
  rw[hd]
  cases l with
  |none=>exact⟨i,hi,a,N,by rw[e3];rfl⟩
  |some d=>exact⟨Yh k5,i,hi,a,N,by rw[e2,e3];rfl⟩
 refine jP (by simp[Region.wanted,hgd]) (MO hrop) hR fun σ' Y w' hK O=>?_
 obtain⟨i,hi,a,N,rfl⟩:=hK
 have h:=h i hi
 have H:=H i
 have t:=t i
 generalize s i=AB at h H t O
 generalize xF i=x at h O
 simp only[Yc]at t
 obtain⟨k1,k2⟩:=t
 have hsub:∀q,q∈fr→∃b,(q,b)∈AB:=fun q g=>by
  obtain⟨p,E,hk⟩:=YQ.1 (Yu.1 k2 q g)
  rw[Cw.1 hk];exact⟨p.2,E⟩
 let τ2:St:=Ad (Ht l x (Ea fr ss)) (AB++C3 (AB.map (·.1)) fr fl hs)
 have D:∀q,AJ (AB++C3 (AB.map (·.1)) fr fl hs) q=if q∈AB.map (·.1)then AJ AB q else AJ (C3 (AB.map (·.1)) fr fl hs) q:=fun q=>ZDR _ _ _
 have hin:∀q,q∈AB.map (·.1)→∃b,(q,b)∈AB:=fun q g=>by obtain⟨p,E,rfl⟩:=YS.1 g;exact⟨p.2,E⟩
 have F:∀q b,(q,b)∈AB→Dg (C.r a) AB σ.H ((C.r a).κ q)=AS (C.r a) q b∧AJ AB q=b∧BO C.outs q=true∧b.live=true:=ZoV (r:=C.r a) L AB σ.H k1
 have B:∀q,q∉AB.map (·.1)→BO C.outs q=true→Dg (C.r a) AB σ.H ((C.r a).κ q)=σ.H ((C.r a).κ q)∧a q=γ q:=fun q g v=>by
  refine⟨Vc _ _ _ fun p E=>L _ _ (F p.1 p.2 E).2.2.1 v fun e=>g (YS.2 ⟨p,E,e⟩),N q fun hf=>?_⟩
  grind
 have K:∀q,BO C.outs q=true→(σ.H (C.κ q)).g=γ q→(Dg (C.r a) AB σ.H (C.κ q)).g=a q+(AJ (AB++C3 (AB.map (·.1)) fr fl hs) q).g:=fun q v hq0=>by
  rw[D]
  split
  ·rename_i hm
   obtain⟨b,J⟩:=hin q hm
   obtain⟨a1,X,_⟩:=F q b J
   rw[show C.κ q=(C.r a).κ q from rfl,a1,X]
   rfl
  ·rename_i hm
   obtain⟨a1,X⟩:=B q hm v
   rw[show C.κ q=(C.r a).κ q from rfl,a1,X]
   have:(AJ (C3 (AB.map (·.1)) fr fl hs) q).g=0:=by
    rcases(PG (fr:=fr) (fl:=fl) hs (AB.map (·.1)) q).2 hm with⟨e,_⟩|e
    ·rw[e];exact VG k4 q
    ·rw[e];rfl
   rw[this]
   exact hq0
 have hG2:RG (C.r a) C.l C.outs [] τ2 ⟨fun j=>ren (C.r a) (τ2.s j),Dg (C.r a) AB σ.H⟩:=by
  refine⟨fun j=>⟨fun _=>rfl,fun hn=>absurd Bg hn⟩,fun q g=>?_,fun d=>?_,fun i hi=>?_,fun q g=>?_,fun q g hn=>?_⟩
  ·show Dg (C.r a) AB σ.H ((C.r a).κ q)=AS (C.r a) q (AJ (AB++C3 (AB.map (·.1)) fr fl hs) q)
   replace g:(AJ (AB++C3 (AB.map (·.1)) fr fl hs) q).live=true:=g
   rw[D]at g⊢
   split at g
   ·grind
   ·rename_i hm
    rw[Ym hm]
    rcases(PG (fr:=fr) (fl:=fl) hs (AB.map (·.1)) q).2 hm with⟨e,e'⟩|e
    ·rw[e]at g⊢
     have v:=z.k q g
     have t:BO C.outs q=true:=by
      obtain⟨q1,q2⟩:=q
      simp only at v
      simp only[BO,YH,Yc]
      rcases v with rfl|⟨rfl,h2⟩
      ·exact .inl rfl
      ·exact .inr ⟨rfl,rl h2⟩
     obtain⟨a1,X⟩:=B q hm t
     rw[a1]
     have J:=z.h q g
     have G:Ar (C.r a) (AJ hs q).cells=Ar (C.r γ) (AJ hs q).cells:=by
      rcases e' with e'|e'
      ·rw[JC (nm hfl q e'),JC (nm hfl q e')]
      ·exact MN (r:=C.r γ) N _ e'
     show σ.H ((C.r γ).κ q)=_
     rw[J]
     simp only[AS]
     rw[G,show(C.r a).γ q=a q from rfl,X]
     rfl
    ·rw[e]at g;cases g
  ·have:=K (1,d) rfl (by
    have:=z.g d
    rw[show((Ad ss hs).H (1,d)).g=0 from VG k4 _]at this
    rw[hC.own];exact this)
   rw[hC.own]at this
   exact this
  ·exact K (0,i) (by simp only[BO,YH,Yc];exact .inr ⟨rfl,rl hi⟩) (by
    have:=z.go i hi
    rw[show((Ad ss hs).H (0,i)).g=0 from VG k4 _]at this
    exact this)
  ·replace g:(AJ (AB++C3 (AB.map (·.1)) fr fl hs) q).live=true:=g
   rw[D]at g
   split at g
   ·rename_i hm
    obtain⟨b,J⟩:=hin q hm
    exact Gy (F q b J).2.2.1
   ·rename_i hm
    rcases(PG (fr:=fr) (fl:=fl) hs (AB.map (·.1)) q).2 hm with⟨e,e'⟩|e
    ·rw[e]at g;exact z.k q g
    ·rw[e]at g;cases g
  ·show Dg (C.r a) AB σ.H q=C.H0 q
   rw[Vc _ _ _ fun p E e=>?_]
   ·exact z.o q g hn
   ·by_cases Z:p.1.1=1
    ·obtain⟨⟨p1,p2⟩,p3⟩:=p
     simp only at Z
     subst Z
     rw[show(C.r a).κ (1,p2)=(C.l+1,p2)from hC.own p2]at e
     grind
    ·exact hn (by rw[←e];exact nC H p E Z)
 refine h a _ Y w' (hC.G γ a (fun i hi=>N _ fun hm=>?_) hg) hG2 (R.weaken O fun j=>?_)
 ·have:=Yu.1 k3 _ hm
  simp only[YJ,Kf]at this
  rcases this with h|h
  ·cases h
  ·have:(C.fx.any (Nat.beq i))=true:=YQ.2 ⟨i,hi,by simp⟩
   grind
 ·have old:ren (C.r a) (AG (Ea fr ss) j)=σ.s j∨ren (C.r a) (AG (Ea fr ss) j)=.top:=by
   rcases Zoc (fr:=fr) ss j with e|⟨e,e'⟩
   ·right;rw[e];simp[ren]
   ·left
    rw[e,hs' j]
    exact zA (r:=C.r γ) N _ e'
  show ren (C.r a) (AG (Ht l x (Ea fr ss)) j)=_∨ren (C.r a) (AG (Ht l x (Ea fr ss)) j)=.top
  cases l with
  |none=>exact old
  |some d=>
   simp only[Ht,AG,yH,upd]
   cases hj:Nat.beq d j with
   |true=>
    have:=Yd hj
    grind
   |false=>
    have:j≠d:=fun e=>by rw[e]at hj;simp at hj
    grind
theorem ZEQ(D:CxOk C){os:Nat}{fx:List Nat}(F:C.outs=os)(E:C.fx=fx){c:Code}{k:Nat}{ss:List (Nat×AV)}{hs:List (Af×Blk)}(e:Option Nat)(l:Operand)(j:List Operand)(q:He c k=some (e,l,j))
  (f:FuncId) (first d xs:List AV) (G:ev (AG ss) l=.fn (.func f) first d) (t:first++j.map (ev (AG ss))++d=xs) (ks:List Af) (m:List (Af×Blk)) (p:(ks.map fun k=>(k,AJ hs k))=m)
  (x:AV) (AB:List (Af×Blk)) (fr fl:List Af) (i:(Dz os AB&&Mq fr AB&&Nb fr fx&&Ij hs&&Ni n e&&ks.all (BO os))=true) (s:Ft C AB) (o:J1 (AJ hs) fl)
  (g:∀r:Ren,r.θ=C.θ→r.H0=C.H0→r.κ=C.κ→r.no=C.no→Ih P C.l r f xs m x AB fr)
  (h:LO P n C c (k+1) (Ad (Ht e x (Ea fr ss)) (AB++C3 (AB.map (·.1)) fr fl hs)) Q):LO P n C c k (Ad ss hs) Q:=by
 simp only[Yc]at i
 obtain⟨⟨⟨⟨⟨I,J⟩,K⟩,L⟩,M⟩,N⟩:=i
 exact ZA9 D F E e l j q f first d xs G t ks m p (ι:=Unit) (fun _=>True) (fun _=>x) (fun _=>AB) fr fl (by simp only[Yc];exact⟨⟨⟨K,L⟩,M⟩,N⟩) (fun _=>by simp only[Yc];exact⟨I,J⟩) (fun _=>s) o
  (fun r w z A B u a b=>(g r w z A B u a b).mono fun y v H=>⟨(),trivial,H⟩) fun _ _=>h
end
def DX(l:Nat)(ks:List Af):Af→Af
 |(0,i)=>match Bs ks i with|some k=>k|none=>(0,0)
 |(_+1,d)=>(l+1,d)
def HD(a:List Nat):Af→Nat
 |(0,i)=>match Bs a i with|some g=>g|none=>0
 |(_+1,_)=>0
def Cu(l:Nat)(ks:List Af)(a:List Nat)(θ:Nat→AV)(H:Hp):Ren:=⟨DX l ks,HD a,θ,H,fun k=>k∈ks⟩
def IY(l:Nat)(ks:List Af)(a:List Nat)(r:Ren):Prop:=r.κ=DX l ks∧∀i,i<ks.length→r.γ (0,i)=HD a (0,i)
def CV(r:Ren):Nat→List Blk→List Blk
 |_,[]=>[]
 |i,b::a=>AS r (0,i) b::CV r (i+1) a
def DA(H:Hp):List Af→List Blk→Hp
 |k::ks,b::a=>DA (updH H k b) ks a
 |_,_=>H
theorem kh:∀(ks:List Af) (a:List Blk) (H:Hp) (q:Af),q∉ks→DA H ks a q=H q
 |[],a,H,q,h=>by cases a<;>rfl
 |k::ks,[],H,q,h=>rfl
 |k::ks,b::a,H,q,h=>by
  simp only[DA]
  rw[kh ks a _ q (fun hm=>h (Yz _ hm)),AZ _ _ (fun e=>h (by rw[e];exact YE ..))]
theorem ZvD:∀(ks:List Af) (a:List Blk) (H:Hp),ks.Nodup→∀(j:Nat) (k:Af) (b:Blk),ks[j]?=some k→a[j]?=some b→DA H ks a k=b
 |[],a,H,_,j,k,b,h,_=>by simp at h
 |q::ks,[],H,_,_,_,_,_,h=>by simp at h
 |q::ks,c::a,H,e,j,k,b,d,hb=>by
  simp only[DA]
  rw[List.nodup_cons]at e
  cases j with
  |zero=>
   simp only[Gl,Yj]at d hb
   subst d;subst hb
   rw[kh ks a _ _ e.1,A4]
  |succ j=>
   simp only[L4]at d hb
   exact ZvD ks a _ e.2 j k b d hb
theorem Zpx{r:Ren}:∀(a:List Blk) (i j:Nat),(CV r i a)[j]?=(a[j]?).map (AS r (0,i+j))
 |[],i,j=>by simp[CV]
 |b::a,i,0=>by simp[CV]
 |b::a,i,j+1=>by
  simp only[CV,L4,Zpx a (i+1) j,show i+1+j=i+(j+1)from by omega]
theorem zj{P:Program}{T:Nat→Option TI}{n:Nat}{f:FuncId}{fn:Func}(J:List ResultVar)(c:Code){l:Nat}{xs:List AV}{H:Hp}{g:AV→Hp→Prop}(ks:List Af)(t:List Nat)(fx:List Nat)(θ:Nat→AV)(ys:List AV)(hs:List (Af×Blk))(LPost:AV→List Blk→Prop)
  (V:P.funcs[f]?=some fn) (hb:fn.body=some c) (s:(fn.name== "runtime.NumGoroutine")=false) (Z:fn.ntmps=n) (hr:fn.results.toList=J) (hx:xs.length≤n) (S:Bj P T)
  (D:∀k∈ks,k.1≤l) (u:ks.Nodup) (W:∀d,AJ hs (1,d)=Fh) (F:∀k,(AJ hs k).live=true→k.1=0∧k.2<ks.length)
  (R:∀i k,ks[i]?=some k→(H k).g=HD t (0,i)+(AJ hs (0,i)).g∧((AJ hs (0,i)).live=true→H k=AS (Cu l ks t θ H) (0,i) (AJ hs (0,i))))
  (I:Ar (Cu l ks t θ H) ys=xs)
  (h:∀C,CxOk C→C.outs=ks.length→C.fx=fx→C.l=l→C.H0=H→C.θ=θ→C.κ=DX l ks→C.no=(fun k=>k∈ks)→LW P n C c (Ad (Eg 0 ys) hs) (FQ T J ks.length LPost))
  (v:∀y b,LPost y b→b.length=ks.length∧(∀x∈b,x.live=true)∧∀r:Ren,r.κ=DX l ks→r.θ=θ→r.H0=H→r.no=(fun k=>k∈ks)→(∀i∈fx,r.γ (0,i)=HD t (0,i))→g (ren r y) (DA H ks (CV r 0 b))):Zc1 P f l xs H g:=by
 let C:Base→Cx:=fun B=>⟨l,B,DX l ks,θ,H,ks.length,fun k=>k∈ks,fx,fun γ=>∀i∈fx,γ (0,i)=HD t (0,i)⟩
 have a:∀i,i<ks.length→ks[i]?=some (DX l ks (0,i)):=fun i hi=>by
  show _=some (match Bs ks i with|some k=>k|none=>(0,0))
  rw[Cs,Ye hi]
 have E:∀(i:Nat) (k:Af),ks[i]?=some k→i<ks.length:=fun i k hi=>by
  grind
 have K:∀B,CxOk (C B):=fun B=>by
  refine⟨fun _=>rfl,fun i hi=>D _ (Yi (a i hi)),fun i j hi Y e=>?_,fun k w=>?_,fun γ γ' he A i hi=>by rw[he i hi];exact A i hi⟩
  ·have m:=a i hi
   have o:=a j Y
   rw[show DX l ks (0,i)=DX l ks (0,j)from e]at m
   have Q:ks[i]?=ks[j]?:=m.trans o.symm
   exact(List.getElem?_inj hi u).1 Q
  ·obtain⟨i,hi⟩:=YK.1 (show k∈ks from w)
   grind
 refine Zo2 J C (γ:=HD t) (LPost:=LPost) (ys:=ys) (hs:=hs) V hb s Z hr hx S K (fun B=>⟨rfl,rfl,rfl,fun i _=>rfl⟩) (fun B=>I) (fun _=>rfl) W (fun B k w=>?_) (fun B i hi=>?_) (fun B γ y b N A hy L _=>?_) (fun B=>h _ (K B) rfl rfl rfl rfl rfl rfl rfl)
 ·obtain⟨m,o⟩:=F k w
  obtain⟨k1,M⟩:=k
  simp only at m o
  subst m
  exact⟨rfl,o,(R M _ (a M o)).2 w⟩
 ·grind
 ·obtain⟨U,z,v⟩:=v y b hy
  have v:=v ((C B).r γ) rfl rfl rfl rfl fun i hi=>A i hi
  have O:N=DA H ks (CV ((C B).r γ) 0 b):=by
   funext q
   by_cases G:q∈ks
   ·obtain⟨i,hi⟩:=YK.1 G
    have X:=E i q hi
    have p:b[i]?=some b[i]:=Ye (by omega)
    have m:=L.live i _ p (z _ (Yi p))
    have o:DX l ks (0,i)=q:=by
     grind
    rw[show(C B).κ (0,i)=q from o]at m
    rw[m,ZvD ks _ H u i q (AS ((C B).r γ) (0,i) b[i]) hi]
    rw[Zpx,p,YP]
    rfl
   ·rw[kh ks _ H q G]
    exact L.o q G
  rw[O];exact v
theorem ZnP{P:Program}{T:Nat→Option TI}{n:Nat}{f:FuncId}{fn:Func}(w:List ResultVar)(c:Code){l:Nat}{xs:List AV}{H:Hp}{a:AV→Hp→Prop}(ks:List Af)(e:List Nat)(fx:List Nat)(θ:Nat→AV)(ys:List AV)(hs:List (Af×Blk))(LPost:AV→List Blk→Prop)
  (F:P.funcs[f]?=some fn) (hb:fn.body=some c) (g:(fn.name== "runtime.NumGoroutine")=false) (I:fn.ntmps=n) (J:fn.results.toList=w) (hx:xs.length≤n) (D:Bj P T)
  (q:∀k∈ks,k.1≤l) (t:ks.Nodup) (p:∀i,i<ks.length→i∈fx) (G:∀d,AJ hs (1,d)=Fh) (s:∀k,(AJ hs k).live=true→k.1=0∧k.2<ks.length)
  (B:∀i k,ks[i]?=some k→(H k).g=HD e (0,i)+(AJ hs (0,i)).g∧((AJ hs (0,i)).live=true→H k=AS (Cu l ks e θ H) (0,i) (AJ hs (0,i))))
  (v:Ar (Cu l ks e θ H) ys=xs)
  (h:∀C,CxOk C→C.outs=ks.length→C.fx=fx→C.l=l→C.H0=H→C.θ=θ→C.κ=DX l ks→C.no=(fun k=>k∈ks)→LW P n C c (Ad (Eg 0 ys) hs) (FQ T w ks.length LPost))
  (u:∀y b,LPost y b→b.length=ks.length∧(∀x∈b,x.live=true)∧∃Y' bs',(∀r,IY l ks e r→ren r y=Y')∧(∀r,IY l ks e r→CV r 0 b=bs')∧a Y' (DA H ks bs')):Zc1 P f l xs H a:=by
 refine zj w c ks e fx θ ys hs LPost F hb g I J hx D q t G s B v h fun y b hy=>?_
 obtain⟨m,o,Y',bs',E,hB,u⟩:=u y b hy
 refine⟨m,o,fun r z _ _ _ A=>?_⟩
 have j:IY l ks e r:=⟨z,fun i hi=>A i (p i hi)⟩
 rw[E _ j,hB _ j];exact u
theorem ZqT{P:Program}{T:Nat→Option TI}{n:Nat}{f:FuncId}{fn:Func}(v:List ResultVar)(c:Code){l:Nat}{xs:List AV}{H:Hp}{a:AV→Hp→Prop}(ks:List Af)(g:List Nat)(fx:List Nat)(θ:Nat→AV)(ys:List AV)(hs:List (Af×Blk))(Y:AV)(j:List Blk){Y':AV}{bs':List Blk}
  (D:P.funcs[f]?=some fn) (hb:fn.body=some c) (e:(fn.name== "runtime.NumGoroutine")=false) (F:fn.ntmps=n) (I:fn.results.toList=v) (hx:xs.length≤n) (A:Bj P T)
  (q:∀k∈ks,k.1≤l) (t:ks.Nodup) (p:∀i,i<ks.length→i∈fx) (E:∀d,AJ hs (1,d)=Fh) (s:∀k,(AJ hs k).live=true→k.1=0∧k.2<ks.length)
  (z:∀i k,ks[i]?=some k→(H k).g=HD g (0,i)+(AJ hs (0,i)).g∧((AJ hs (0,i)).live=true→H k=AS (Cu l ks g θ H) (0,i) (AJ hs (0,i))))
  (u:Ar (Cu l ks g θ H) ys=xs) (m:j.length=ks.length) (o:∀b∈j,b.live=true) (B:∀r,IY l ks g r→ren r Y=Y') (hB:∀r,IY l ks g r→CV r 0 j=bs')
  (h:∀C,CxOk C→C.outs=ks.length→C.fx=fx→C.l=l→C.H0=H→C.θ=θ→C.κ=DX l ks→C.no=(fun k=>k∈ks)→LW P n C c (Ad (Eg 0 ys) hs) (FQ T v ks.length (fun y b=>y=Y∧b=j)))
  (G:a Y' (DA H ks bs')):Zc1 P f l xs H a:=by
 exact ZnP v c ks g fx θ ys hs (fun y b=>y=Y∧b=j) D hb e F I hx A q t p E s z u h fun y b ⟨w,x⟩=>by subst w;subst x;exact⟨m,o,Y',bs',B,hB,G⟩
section
variable {P:Program} {l:Nat} {r:Ren} {f:FuncId} {xs xs':List AV} {hb AB:List (Af×Blk)} {x x':AV}
theorem ZAY(e:Ar r xs=xs')(g:ren r x=x')(h:∀a,(∀p∈hb,(a (r.κ p.1)).g=r.γ p.1+p.2.g∧(p.2.live=true→a (r.κ p.1)=AS r p.1 p.2))→(∀k:Af,k.1≤l→¬r.no k→a k=r.H0 k)→Zc1 P f (l+1) xs' a (fun y b=>y=x'∧b=Dg r AB a)):
  Ih P l r f xs hb x AB []:=fun a hb i=>by
 rw[e]
 exact(h a hb i).mono fun y b ⟨c,d⟩=>⟨r.γ,fun _ _=>rfl,by rw[c,←g],d⟩
end
theorem ZxO{α:Type}{e:α→List D}{r:Ren}{k:Af}(xs:List α):FZ r k (Ab e xs):=by
 unfold FZ
 rw[JC (Aw e xs)]
 refine Yu.2 fun x hx=>?_
 obtain⟨d,_,rfl⟩:=YS.1 hx
 rfl
theorem ZwM{r:Ren}{k:Af}{vs:List AV}(h:(Ar r vs).all (AV.low (r.κ k).1)=true):FZ r k vs:=h
theorem Hb{r:Ren}{k:Af}(ds:List D):FZ r k (ds.map .d):=by
 unfold FZ
 rw[H9]
 refine Yu.2 fun x hx=>?_
 obtain⟨d,_,rfl⟩:=YS.1 hx
 rfl
theorem zI{α:Type}(e:α→List D)(xs:List α):FP (Ab e xs):=fun x hx=>by
 obtain⟨d,_,rfl⟩:=YS.1 hx;rfl
theorem Zzo{α:Type}{e:α→List D}{xs:List α}{off cn sz:Nat}{z:List AV}(hl:∀x,(e x).length=sz)(h:off+cn≤xs.length):
  gD (Ab e xs) off cn sz z ((Ab e xs).take (off*sz)++(List.replicate cn z).flatten++(Ab e xs).drop ((off+cn)*sz)):=by
 refine⟨?_,rfl⟩
 rw[FK hl]
 exact Y9 _ h
theorem ZBj{α:Type}{e:α→List D}{xs:List α}{off sz:Nat}{A B:List AV}(hl:∀x,(e x).length=sz)(h:off≤xs.length):∃m,((Ab e xs).take (off*sz)++A++B).take m=Ab e (xs.take off):=by
 refine⟨off*sz,?_⟩
 have a:((Ab e xs).take (off*sz)).length=off*sz:=by
  rw[YD,FK hl]
  exact Fx (Y9 _ h)
 rw[D2,SI (by omega),Ke (by omega),kv hl]
def I8(n:Nat):List (Af×Blk)→Bool
 |[]=>true
 |(k,_)::r=>Nat.beq k.1 0&&Nat.ble (k.2+1) n&&I8 n r
theorem kZ{n:Nat}:∀{hs:List (Af×Blk)},I8 n hs=true→∀k,(AJ hs k).live=true→k.1=0∧k.2<n
 |[],_,k,h=>by simp[AJ,Fh]at h
 |(q,b)::r,hi,k,h=>by
  simp only[I8,Yc]at hi
  simp only[AJ]at h
  split at h
  ·rename_i a
   have a:=Cw.1 a
   subst a
   exact⟨Yd hi.1.1,Yh hi.1.2⟩
  ·exact kZ hi.2 k h
theorem km{n:Nat}:∀{hs:List (Af×Blk)},I8 n hs=true→∀d,AJ hs (1,d)=Fh
 |[],_,d=>rfl
 |(q,b)::r,hi,d=>by
  simp only[I8,Yc]at hi
  simp only[AJ]
  split
  ·rename_i a
   have a:=Cw.1 a
   subst a
   have:=Yd hi.1.1
   grind
  ·exact km hi.2 d
def Ka(H:Hp)(r:Ren)(hs:List (Af×Blk)):Nat→List Af→Prop
 |_,[]=>True
 |i,k::ks=>((H k).g=r.γ (0,i)+(AJ hs (0,i)).g∧((AJ hs (0,i)).live=true→H k=AS r (0,i) (AJ hs (0,i))))∧Ka H r hs (i+1) ks
theorem mf{H:Hp}{r:Ren}{hs:List (Af×Blk)}:∀{ks:List Af} {i:Nat},Ka H r hs i ks→∀j k,ks[j]?=some k→(H k).g=r.γ (0,i+j)+(AJ hs (0,i+j)).g∧((AJ hs (0,i+j)).live=true→H k=AS r (0,i+j) (AJ hs (0,i+j)))
 |[],i,_,j,k,h=>by simp at h
 |q::ks,i,h,0,k,a=>by
  simp only[Gl,Yj]at a
  subst a
  exact h.1
 |q::ks,i,h,j+1,k,a=>by
  have:=mf h.2 j k (by simpa using a)
  grind
def Jj(l:Nat):List Af→Prop
 |[]=>True
 |k::ks=>k.1≤l∧Jj l ks
theorem V3{l:Nat}:∀{ks:List Af},Jj l ks→∀k∈ks,k.1≤l
 |q::ks,h,k,a=>by
  rcases Yx.1 a with rfl|a
  ·exact h.1
  ·exact V3 h.2 k a
def Jm:Nat→List Nat
 |0=>[]
 |n+1=>Jm n++[n]
theorem VE:∀{n i:Nat},i<n→i∈Jm n
 |n+1,i,h=>by
  simp only[Jm,Gk,Y1]
  rcases YF i n with a|a
  ·exact .inl (VE a)
  grind
theorem ZmY{P:Program}{T:Nat→Option TI}{n:Nat}{f:FuncId}{fn:Func}(u:List ResultVar)(c:Code){l:Nat}{xs:List AV}{H:Hp}{a:AV→Hp→Prop}(ks:List Af)(g:List Nat)(os:Nat)(θ:Nat→AV)(ys:List AV)(hs:List (Af×Blk))(Y:AV)(e:List Blk){Y':AV}{bs':List Blk}
  (z:P.funcs[f]?=some fn) (hb:fn.body=some c) (d:(fn.name== "runtime.NumGoroutine")=false) (B:fn.ntmps=n) (E:fn.results.toList=u) (hx:xs.length≤n) (w:Bj P T) (s:ks.length=os)
  (p:Jj l ks) (q:ks.Nodup) (j:I8 os hs=true) (v:Ka H (Cu l ks g θ H) hs 0 ks) (t:Ar (Cu l ks g θ H) ys=xs) (m:e.length=os) (o:∀b∈e,b.live=true) (x:∀r,IY l ks g r→ren r Y=Y') (hB:∀r,IY l ks g r→CV r 0 e=bs')
  (h:∀C,CxOk C→C.outs=os→C.fx=Jm os→C.l=l→C.H0=H→C.θ=θ→C.κ=DX l ks→C.no=(fun k=>k∈ks)→LW P n C c (Ad (Eg 0 ys) hs) (FQ T u os (fun y b=>y=Y∧b=e)))
  (D:a Y' (DA H ks bs')):Zc1 P f l xs H a:=by
 subst s
 exact ZqT u c ks g (Jm ks.length) θ ys hs Y e z hb d B E hx w (V3 p) q (fun i hi=>VE hi) (km j) (kZ j) (fun i k A=>by have:=mf v i k A;rw[YP]at this;exact this) t m o x hB h D
theorem Zql{α:Type}{e e':α→List D}{xs:List α}{j sz:Nat}{x:α}(hx:xs[j]?=some x)(hl:∀x,(e x).length=sz)(he:∀x,e x=e' x):DN (Ab e xs) (j*sz) ((e' x).map .d):=by
 have a:j<xs.length:=by
  grind
 have:=zg (z:=x) a hl he
 grind
theorem ZET{P:Program}{l o:Nat}{no b:Af→Prop}{H j:Hp}{c:AV}{m:List AV}{y:AV}(h:CP P l no H c m y)(hl:l≤o)(i:∀q:Af,q.1≤l→¬no q→¬b q)(r:∀q:Af,q.1≤l→¬no q→j q=H q):CP P o b j c m y:=by
 obtain⟨f,first,a,e,h⟩:=h
 exact⟨f,first,a,e,fun l' p g s=>h l' p (D3 hl g) fun k d n=>by rw[s k (D3 d hl) (i k d n),r k d n]⟩
def ZMR:Code→Operand
 |.cond o _ _=>o
 |_=>.tmp 0
def FS(c:Code)(k:Nat):Option Nat:=match He c k with|some (d,_,_)=>d|none=>none
def callF(c:Code)(k:Nat):Operand:=match He c k with|some (_,f,_)=>f|none=>.tmp 0
def Hh(c:Code)(k:Nat):List Operand:=match He c k with|some (_,_,xs)=>xs|none=>[]
theorem ZoA{P:Program}{n:Nat}{C:Cx}{Q:Exit→St→Prop}(m:CxOk C){os:Nat}{fx:List Nat}(p:C.outs=os)(o:C.fx=fx){c:Code}{k:Nat}{ss:List (Nat×AV)}{hs:List (Af×Blk)}
  (f:FuncId) (first a xs:List AV) (i:He c k=some (FS c k,callF c k,Hh c k)) (q:ev (AG ss) (callF c k)=.fn (.func f) first a) (l:first++(Hh c k).map (ev (AG ss))++a=xs) (ks:List Af) (hb:List (Af×Blk)) (e:(ks.map fun k=>(k,AJ hs k))=hb)
  (x:AV) (AB:List (Af×Blk)) (fr fl:List Af) (g:(Dz os AB&&Mq fr AB&&Nb fr fx&&Ij hs&&Ni n (FS c k)&&ks.all (BO os))=true) (j:Ft C AB) (d:J1 (AJ hs) fl)
  (b:∀r:Ren,r.θ=C.θ→r.H0=C.H0→r.κ=C.κ→r.no=C.no→Ih P C.l r f xs hb x AB fr)
  (h:LO P n C c (k+1) (Ad (Ht (FS c k) x (Ea fr ss)) (AB++C3 (AB.map (·.1)) fr fl hs)) Q):LO P n C c k (Ad ss hs) Q:=
 ZEQ m p o _ _ _ i f first a xs q l ks hb e x AB fr fl g j d b h
end Go.Eng
namespace Go.Eng
open Go
set_option linter.all false
end Go.Eng
namespace Go.Eng
set_option linter.all false
open Go Go.RowKit Go.Shelf
theorem Zm7{w:World}{S:Nat→Prop}{H:Hp}{m:Mu}{l:Nat}{vs:Array Value}{n:Int}(f:K5 w S H m l [.e0,.d (.int .i64 n)] vs):∃a,vs=#[.slice a 0 0,.int .i64 n]:=by
 obtain⟨hs,b⟩:=f
 obtain⟨l⟩:=vs
 match l,hs,b with
 |[v0,g],_,b=>
  have e:=b 0 .e0 v0 rfl rfl
  have c:=b 1 (.d (.int .i64 n)) g rfl rfl
  cases e with
  |e0 a=>
   cases c with
   |d _ _ c=>
    cases c with
    |int=>exact⟨a,rfl⟩
theorem ki{P:Program}{ρ:Go.Shelf.Ren}(L:Go.Proofs.Lays8.n4 P ρ)(i0:TypeInfo)(z:Value)(r:P.info? (ρ.t 25)=some i0)(t:i0.zero=some z)(s:0<i0.size)(u:z.cells.size=i0.size)(p:i0.bytes≤256)
  (E:∃fn c,P.funcs[ρ.f 4]?=some fn∧fn.body=some c∧(fn.name== "runtime.NumGoroutine")=false) {ℓ:Nat} {ℋ:Hp} {k:Af} (d:k.1≤ℓ) {g:Nat} (F:(ℋ k).g=g) (n:Nat) (K:n<549755813888) {b:AV→Hp→Prop}
  (h:b (.ref k (g+1) 0 0) (updH ℋ k ⟨g+1,true,ρ.t 25,i0.size,[]⟩)):Zc1 P (ρ.f 4) ℓ [.e0,.d (.int .i64 n)] ℋ b:=
 ⟨E,fun m S w vs B D=>by
  obtain⟨a,rfl⟩:=Zm7 D
  subst F
  by_cases C:n=0
  ·subst C
   refine(Go.Proofs.Any8.slices_Grow_room L a 0 0 0 w (by omega) (by omega) (by omega) (by omega)).mono fun e w' ⟨f,o⟩=>?_
   subst o
   obtain⟨y,A⟩:=B.overEmpty k d ((ℋ k).g+1) (ρ.t 25) i0.size (by omega) ⟨0,0,0⟩ rfl
   refine⟨_,_,_,_,_,f,h,y,?_,A⟩
   have:=RepA.refL (w:=w') (S:=S) (H:=updH ℋ k ⟨(ℋ k).g+1,true,ρ.t 25,i0.size,[]⟩) (m:=Bl m k ⟨0,0,0⟩) (l:=ℓ) k 0 0 a d (by rw[A4]) (by omega) (fun q=>by rw[Bh]at q;exact absurd q (Nat.lt_irrefl 0))
   rw[A4,Bh]at this
   exact this
  ·have AB:n*i0.bytes≤549755813888*256:=Nat.mul_le_mul (by omega) p
   refine(Go.Proofs.Any8.slices_Grow_grow L i0 z r t s a 0 0 n [] w (by omega) (by omega) (by rw[YP];omega) (by omega) (by simp) (fun _=>rfl) (fun _ _ j v I=>by simp at I)).mono fun e w' ⟨f,o⟩=>?_
   have J:n≤grownCap w (0+n) 0 (ρ.t 25):=by have:=grownCap_ge w (0+n) 0 (ρ.t 25);omega
   generalize grownCap w (0+n) 0 (ρ.t 25)=G at*
   subst o
   obtain⟨y,A⟩:=B.alloc k d (ρ.t 25) i0.size G [] (([]:List Value).toArray++Builtin.zeroCells z.cells (0+n-0)++Builtin.zeroCells z.cells (G-(0+n))) (by omega)
    (by simp only[Array.size_append,jU,u];rw[show([]:List Value).toArray.size=0 from rfl,YP,←YX,show 0+n-0+(G-(0+n))=G from by omega]) (Cv _) (fun i x v hx=>by simp at hx)
    (w.drew.alloc (.cells (([]:List Value).toArray++Builtin.zeroCells z.cells (0+n-0)++Builtin.zeroCells z.cells (G-(0+n))) (ρ.t 25))) rfl rfl rfl rfl
   refine⟨_,_,_,_,_,f,h,y,?_,A⟩
   have:=RepA.refL (w:=w.drew.alloc (.cells (([]:List Value).toArray++Builtin.zeroCells z.cells (0+n-0)++Builtin.zeroCells z.cells (G-(0+n))) (ρ.t 25))) (S:=S) (H:=updH ℋ k ⟨(ℋ k).g+1,true,ρ.t 25,i0.size,[]⟩) (m:=Bl m k ⟨w.heap.size,0,G⟩) (l:=ℓ) k 0 0 (some ⟨w.heap.size,0,none⟩) d (by rw[A4]) (by omega) (fun _=>by rw[Bh];simp)
   rw[A4,Bh]at this
   exact this⟩
theorem ZJp{α:Type}{e:α→List D}{xs:List α}{l h:Nat}(q:Gg l h xs.length):Gg l h (xs.map e).length:=by rw[YG];exact q
theorem ZE4{α:Type}{e:α→List D}{xs:List α}{sz:Nat}(he:∀x,(e x).length=sz):∀d,d∈xs.map e→d.length=sz:=fun d h=>by
 grind
theorem ZIC{α:Type}{e:α→List D}{xs:List α}{sz l h:Nat}(he:∀x,(e x).length=sz):SF (xs.map e) sz l h (((xs.drop l).take (h-l)).map e):=
 ⟨ZE4 he,by rw[←List.map_drop,←List.map_take]⟩
theorem ZtH{i:Int}{len sz:Nat}(a:0≤i)(h:i<len):Mp i len 0 sz (i.toNat*sz):=⟨a,h,by simp⟩
theorem ZyU{α:Type}{e:α→List D}{xs:List α}{j sz a:Nat}{z y:α}{vs:List D}(b:j<xs.length)(hl:∀x,(e x).length=sz)(g:a+vs.length≤sz)(he:e y=(e (xs.getD j z)).take a++vs++(e (xs.getD j z)).drop (a+vs.length)):
  HI (Ab e xs) (j*sz+a) (vs.map .d) (Ab e (xs.set j y)):=by
 have d:(j+1)*sz≤xs.length*sz:=Y9 _ b
 rw[YX,L8]at d
 refine⟨by rw[YG,FK hl];omega,?_⟩
 have hx:xs.getD j z=xs[j]:=by rw[Yg,Ye b];rfl
 rw[hx]at he
 have hs:Ab e xs=Ab e (xs.take j)++((e xs[j]).map .d++Ab e (xs.drop (j+1))):=by
  conv=>lhs;rw[←HR j xs,HP b,VJ,H6]
 have c:(Ab e (xs.take j)).length=j*sz:=by rw[FK hl,YD,Fx (by omega)]
 have f:((e xs[j]).map AV.d).length=sz:=by rw[YG,hl]
 rw[hs,List.take_append,Ke (by omega:(Ab e (xs.take j)).length≤j*sz+a),c,show j*sz+a-j*sz=a from by omega,SI (by omega),
  List.drop_append,ai (by rw[c];omega),c,Gj,show j*sz+a+(vs.map AV.d).length-j*sz=a+vs.length from by rw[YG];omega,aa (by omega),
  qZ,Yk b,VJ,H6,he]
 simp only[DM,List.map_take,List.map_drop,D2]
end Go.Eng
namespace Go.Eng
set_option linter.all false
theorem VK{α:Type}{l:List α}{p:α→Bool}:((match l.findIdx? p with|some k=>(k:Int)|none=>-1)≥0)↔l.any p=true:=by
 rw[YQ]
 cases h:l.findIdx? p with
 |none=>
  rw[L3]at h
  constructor
  ·intro e;exact absurd e (by decide)
  ·rintro⟨x,hx,a⟩;rw[h x hx]at a;cases a
 |some k=>
  obtain⟨b,c,_⟩:=Kj.1 h
  exact⟨fun _=>⟨l[k],Gi b,c⟩,fun _=>Int.natCast_nonneg k⟩
theorem ZxL{α:Type}{e e':α→List D}{xs:List α}{j sz:Nat}{y:α}(a:j<xs.length)(hl:∀x,(e x).length=sz)(he:∀x,e x=e' x):HI (Ab e xs) (j*sz) ((e' y).map .d) (Ab e (xs.set j y)):=by
 rw[←he];exact ZJm a hl
theorem zR{α:Type}{sz:Nat}{e e':α→List D}{y:α}(C:List AV)(hl:∀x,(e x).length=sz)(he:∀x,e x=e' x):Eh sz C (.d (.list [e' y])) 1 (Ab e [y]):=by
 rw[ZAC,he];exact ZBr C (by rw[←he];exact hl y)
theorem ZFh{C:List AV}{o n m sz:Nat}{a:List (List D)}(h:n=m)(k:HG C o m sz a):HG C o n sz a:=h▸k
theorem ZIS{α:Type}{e:α→List D}{xs:List α}{n m off sz:Nat}(a:n=m)(h:off≤xs.length)(hl:∀x,(e x).length=sz):n=m∧off*sz≤(Ab e xs).length∧(Ab e xs).drop (off*sz)=Ab e (xs.drop off):=
 ⟨a,by rw[FK hl];exact Y9 _ h,PK hl xs off⟩
theorem ZHk{α:Type}{e:α→List D}{z:α}{c:List AV}(a:(e z).map .d=c)(m:Nat):(List.replicate m c).flatten=Ab e (List.replicate m z):=by
 subst a
 induction m with
 |zero=>rfl
 |succ m b=>rw[Z3,Ki,b,Z3,H6]
end Go.Eng
namespace Go.Eng
set_option linter.all false
open Go Go.RowKit
section
variable {P:Program} {T:Nat→Option TI} {n:Nat} {C:Cx} {τ:St} {Q:Exit→St→Prop}
theorem ZE9(f:CxOk C){os:Nat}{fx:List Nat}(k:C.outs=os)(i:C.fx=fx){c:Code}(a:AT)(lf:Lf)(q:Ren→(St→Prop)→Prop)
  (m:∀r Φ,Bq r os a τ (fun τ _=>FU fx lf τ Φ)=q r Φ) (h:∀r,r.θ=C.θ→r.H0=C.H0→r.κ=C.κ→r.no=C.no→q r (fun τ'=>LW P n C c τ' Q)):LW P n C c τ Q:=by
 subst k
 subst i
 intro γ σ l j
 have e:=h (C.r γ) rfl rfl rfl rfl
 rw[←m]at e
 obtain⟨y,w,x,g,b,d⟩:=Cm (n:=n) f a e j
 obtain⟨u,z,v,o,p,s,t⟩:=H4 (n:=n) f g l b
 exact BP.weak (p u v o s) (d.trans t)
end
theorem ZpA{s:ByteArray}{i:Int}(a:0≤i)(h:i<s.size):Jk s i ((s.data.toList.getD i.toNat 0).toNat:Int):=by
 have:=ZsT (s:=s) (i:=i.toNat) (by omega)
 rwa [Int.toNat_of_nonneg a]at this
end Go.Eng
