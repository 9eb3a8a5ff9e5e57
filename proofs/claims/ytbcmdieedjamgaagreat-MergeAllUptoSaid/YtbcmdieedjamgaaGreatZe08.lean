import Derived.Test.YtbcmdieedjamgaaGreatZe07
import Derived.Shelf.Spec.SlicesGrow
import Derived.Test.YtbcmdieedjamgaaGreatZe00
namespace Go.Eng
set_option linter.all false
open Go Go.RowKit
theorem HS{α:Type}(e:α→List D)(x:α)(xs:List α):Aa e (x::xs)=(e x).map .d++Aa e xs:=by simp[Aa]
theorem Pi{α:Type}{e:α→List D}{sz:Nat}(hl:∀x,(e x).length=sz):∀(xs:List α) (j:Nat),(Aa e xs).drop (j*sz)=Aa e (xs.drop j)
 |[],j=>by simp[Aa]
 |x::xs,0=>by simp
 |x::xs,j+1=>by
  have a:((e x).map AV.d).length=sz:=by rw[YG,hl]
  rw[HS,Y0,LX,NZ,←Ob,List.drop_left' a,Pi hl xs j]
  rfl
theorem ed{α:Type}{e:α→List D}{sz:Nat}(hl:∀x,(e x).length=sz):∀(xs:List α) (j:Nat),(Aa e xs).take (j*sz)=Aa e (xs.take j)
 |[],j=>by simp[Aa]
 |x::xs,0=>by simp[Aa]
 |x::xs,j+1=>by
  have a:((e x).map AV.d).length=sz:=by rw[YG,hl]
  rw[HS,List.take_succ_cons,HS,Y0,LX,NZ,List.take_append,a,Nat.add_sub_cancel_left,ed hl xs j,I0 (by omega)]
theorem Zsm{α:Type}{xs:List α}{j:Nat}{z:α}(a:j<xs.length):xs.drop j=xs.getD j z::xs.drop (j+1):=by
 rw[HH a,Yg,Ye a];rfl
theorem za{α:Type}{e e':α→List D}{xs:List α}{j sz:Nat}{z:α}(a:j<xs.length)(hl:∀x,(e x).length=sz)(he:∀x,e x=e' x):DR (Aa e xs) (j*sz) ((e' (xs.getD j z)).map .d):=by
 unfold DR
 rw[Pi hl,Zsm (z:=z) a,HS,he,List.take_left]
theorem ZkM{α:Type}{e e':α→List D}{xs:List α}{j sz o:Nat}{z:α}{c:List AV}(b:j<xs.length)(hl:∀x,(e x).length=sz)(he:∀x,e x=e' x)
  (a:(((e' (xs.getD j z)).map .d).drop o).take c.length=c) (f:o+c.length≤sz):DR (Aa e xs) (j*sz+o) c:=by
 unfold DR
 have d:((e' (xs.getD j z)).map AV.d).length=sz:=by rw[YG,←he,hl]
 rw[←Ob,Pi hl,Zsm (z:=z) b,HS,he,Xi (by omega),Rs (by rw[YX];omega),a]
theorem ZEi{α:Type}{e:α→List D}{xs:List α}{j sz:Nat}{y:α}(b:j<xs.length)(hl:∀x,(e x).length=sz):HC (Aa e xs) (j*sz) ((e y).map .d) (Aa e (xs.set j y)):=by
 have a:((e y).map AV.d).length=sz:=by rw[YG,hl]
 have c:(j+1)*sz≤xs.length*sz:=Y9 _ b
 rw[Y0,LX]at c
 refine⟨by rw[a,FL hl];omega,?_⟩
 rw[a,ed hl,show j*sz+sz=(j+1)*sz from by rw[Y0,LX],Pi hl,jy,Yi b,TU,HS,D5]
end Go.Eng
namespace Go.Eng
set_option linter.all false
open Go Go.RowKit
def Dd(r:Ren):List (Ad×Blk)→Hp→Hp
 |[],H=>H
 |(k,b)::a,H=>Dd r a (updH H (r.κ k) (AL r k b))
def H5(P:Program)(l:Nat)(r:Ren)(f:FuncId)(xs:List AV)(d:List (Ad×Blk))(x:AV)(Au:List (Ad×Blk))(fr:List Ad):Prop:=
 ∀a,(∀p∈d,(a (r.κ p.1)).g=r.γ p.1+p.2.g∧(p.2.live=true→a (r.κ p.1)=AL r p.1 p.2))→(∀k:Ad,k.1≤l→¬r.no k→a k=r.H0 k)→
  Zc3 P f (l+1) (Ao r xs) a (fun y b=>∃c:Ad→Nat,(∀k,k∉fr→c k=r.γ k)∧y=ren ⟨r.κ,c,r.θ,r.H0,r.no⟩ x∧b=Dd ⟨r.κ,c,r.θ,r.H0,r.no⟩ Au a)
mutual
def G8(fr:List Ad):AV→Bool
 |.ref k _ _ _=>fr.any (Bz k)
 |.ptr k _ _=>fr.any (Bz k)
 |.mp k _=>fr.any (Bz k)
 |.fn _ xs ys=>HT fr xs||HT fr ys
 |.agg xs=>HT fr xs
 |.tup xs=>HT fr xs
 |.top=>false
 |.d _=>false
 |.e0=>false
 |.p _=>false
 |.iptr _ _=>false
 |.ifc _ _ _=>false
def HT(fr:List Ad):List AV→Bool
 |[]=>false
 |x::xs=>G8 fr x||HT fr xs
end
def Ea(fr:List Ad):List (Nat×AV)→List (Nat×AV)
 |[]=>[]
 |(j,x)::r=>(j,match G8 fr x with|true=>.top|false=>x)::Ea fr r
def C2(ks fr fl:List Ad):List (Ad×Blk)→List (Ad×Blk)
 |[]=>[]
 |(k,b)::r=>match ks.any (Bz k),fl.any (Bz k)||!HT fr b.cells with
  |false,true=>(k,b)::C2 ks fr fl r
  |_,_=>C2 (k::ks) fr fl r
def Hv:Option Nat→AV→List (Nat×AV)→List (Nat×AV)
 |some d,x,r=>(d,x)::r
 |none,_,r=>r
def BA(os:Nat)(k:Ad):Bool:=Nat.beq k.1 1||(Nat.beq k.1 0&&Nat.ble (k.2+1) os)
def DF(os:Nat):List (Ad×Blk)→Bool
 |[]=>true
 |(k,b)::r=>BA os k&&b.live&&!(r.any fun p=>Bz k p.1)&&DF os r
mutual
theorem y5{r:Ren}{b:Ad→Nat}{fr:List Ad}(a:∀k,k∉fr→b k=r.γ k):∀(x:AV),G8 fr x=false→ren ⟨r.κ,b,r.θ,r.H0,r.no⟩ x=ren r x
 |.ref k g off n,h=>by simp only[G8]at h;simp only[ren];rw[a k (Uh h)]
 |.ptr k g off,h=>by simp only[G8]at h;simp only[ren];rw[a k (Uh h)]
 |.mp k g,h=>by simp only[G8]at h;simp only[ren];rw[a k (Uh h)]
 |.fn f xs ys,h=>by
  simp only[G8,Ke]at h
  have c:=MD a xs h.1
  have d:=MD a ys h.2
  cases f<;>simp only[ren,c,d]
 |.agg xs,h=>by simp only[G8]at h;simp only[ren,MD a xs h]
 |.tup xs,h=>by simp only[G8]at h;simp only[ren,MD a xs h]
 |.top,_=>by simp[ren]
 |.d _,_=>by simp[ren]
 |.e0,_=>by simp[ren]
 |.p _,_=>by simp[ren]
 |.iptr _ _,_=>by simp[ren]
 |.ifc _ _ _,_=>by simp[ren]
theorem MD{r:Ren}{b:Ad→Nat}{fr:List Ad}(a:∀k,k∉fr→b k=r.γ k):∀(xs:List AV),HT fr xs=false→Ao ⟨r.κ,b,r.θ,r.H0,r.no⟩ xs=Ao r xs
 |[],_=>by simp[Ao]
 |x::xs,h=>by
  simp only[HT,Ke]at h
  simp only[Ao,y5 a x h.1,MD a xs h.2]
theorem Uh{k:Ad}{fr:List Ad}(h:fr.any (Bz k)=false):k∉fr:=fun hm=>by
 have:fr.any (Bz k)=true:=YR.2 ⟨k,hm,Cp.2 rfl⟩
 grind
end
def BZ:Code→Array Oper
 |.region _ ops _=>ops
 |_=>#[]
def uI:Code→Bool
 |.region _ _ false=>true
 |_=>false
def Hi{α:Type}:Nat→List α→List α
 |0,l=>l
 |_+1,[]=>[]
 |n+1,_::l=>Hi n l
def H7{α:Type}:Nat→List α→List α
 |0,_=>[]
 |_+1,[]=>[]
 |n+1,x::l=>x::H7 n l
theorem ew{α:Type}:∀(n:Nat) (l:List α),Hi n l=l.drop n
 |0,l=>rfl
 |n+1,[]=>rfl
 |n+1,x::l=>ew n l
theorem TH{α:Type}:∀(n:Nat) (l:List α),H7 n l=l.take n
 |0,l=>rfl
 |n+1,[]=>rfl
 |n+1,x::l=>by rw[H7,TH n l];rfl
def LO(P:Program)(n:Nat)(C:Cx)(c:Code)(k:Nat)(τ:St)(Q:Exit→St→Prop):Prop:=
 ∀γ σ a w,C.G γ→RG (C.r γ) C.l C.outs [] τ σ→R C.l n C.B σ a w→wpList P (BZ c) (fun e d w'=>∃b,Is n C (Q e) b∧R C.l n C.B b d w') ((BZ c).toList.drop k) a w
def Ha(c:Code)(k:Nat):Option (Option Nat×Operand×List Operand):=
 match Bk (BZ c).toList k with
 |some o=>(match o.guard,o.op with
  |none,.call cl=>(match cl.callee with|.value f=>some (o.dst,f,cl.args.toList)|_=>none)
  |_,_=>none)
 |none=>none
def Fv(C:Cx):List (Ad×Blk)→Prop
 |[]=>True
 |(k,_)::r=>match Nat.beq k.1 1 with|true=>Fv C r|false=>C.no (C.κ k)∧Fv C r
def JW(H:Hp):List Ad→Prop
 |[]=>True
 |k::r=>Ih (H k).cells∧JW H r
def Mi(fr:List Ad)(Au:List (Ad×Blk)):Bool:=fr.all fun k=>Au.any fun p=>Bz k p.1
def M0(fr:List Ad)(fx:List Nat):Bool:=fr.all fun k=>!(Nat.beq k.1 0&&fx.any (Nat.beq k.2))
def Ib:List (Ad×Blk)→Bool
 |[]=>true
 |(_,b)::r=>Nat.beq b.g 0&&Ib r
def wY:Option Nat→(Nat→AV)→AV→Nat→AV
 |some d,s,v=>upd s d v
 |none,s,_=>s
def M5(n:Nat):Option Nat→Bool
 |some d=>Nat.ble (d+1) n
 |none=>true
section
variable {P:Program} {T:Nat→Option TI} {n:Nat} {C:Cx} {τ:St} {Q:Exit→St→Prop}
theorem ZpW{c:Code}(b:uI c=true)(h:LO P n C c 0 τ Q):LW P n C c τ Q:=by
 cases c with
 |region id ops d=>
  cases d with
  |true=>cases b
  |false=>
   obtain⟨i,rfl⟩:∃l:List Oper,ops=l.toArray:=⟨ops.toList,by simp⟩
   intro γ σ g e a w f
   have:=h γ σ a w g e f
   simp only[BZ,LV]at this
   exact wp_region_lit this
 |_=>cases b
theorem ZKR(d:CxOk C)(A:A8 P T){os:Nat}{fx:List Nat}(y:C.outs=os)(v:C.fx=fx){c:Code}{k:Nat}(m:Nat)(a:AT)(lf:Lf)(q:Ren→(St→Prop)→Prop)
  (E:∀r Φ,A7 r os a τ (fun τ a=>FZ P T C.l n r ((BZ c).toList.map (·.dst)) (H7 m (Hi k (BZ c).toList)) [] a (fun τ' env f=>A7 r os f (DG env τ') (fun τ _=>Eb fx lf τ Φ)) τ)=q r Φ)
  (h:∀r,r.θ=C.θ→r.H0=C.H0→r.κ=C.κ→r.no=C.no→q r (fun τ'=>LO P n C c (k+m) τ' Q)):LO P n C c k τ Q:=by
 subst y
 subst v
 intro γ σ g w D x z
 have o:=h (C.r γ) rfl rfl rfl rfl
 rw[←E]at o
 obtain⟨R,p,N,u,i,j⟩:=Cd (n:=n) d a o x
 have e:(BZ c).toList.drop k=H7 m (Hi k (BZ c).toList)++(BZ c).toList.drop (k+m):=by
  rw[TH,ew,←Ob,G0]
 rw[e]
 refine MF (d.ren γ) A (B:=C.B) _ (fun τ' l f U b w' J K L=>?_) _ [] p R N g w u i (j _ _ z)
 obtain⟨V,s,t⟩:=Pf (n:=n) K
 obtain⟨X,S,W,f1,f2,f3⟩:=Cd (n:=n) d f J s
 obtain⟨M,Y,O,F,G,H,I⟩:=HP (n:=n) d f1 D f2
 exact G M O b w' F H (I _ _ (f3 _ _ (t _ _ L)))
theorem ZKw(b:CxOk C)(A:A8 P T){os:Nat}{fx:List Nat}(y:C.outs=os)(v:C.fx=fx){c:Code}{k:Nat}(a:AT)(lf:Lf)(q:Ren→(Exit→St→Prop)→Prop)
  (E:∀r Φ,A7 r os a τ (fun τ a=>FZ P T C.l n r ((BZ c).toList.map (·.dst)) (Hi k (BZ c).toList) [] a (fun τ' env d=>A7 r os d (DG env τ') (fun τ _=>Eb fx lf τ (Φ .normal))) τ)=q r Φ)
  (h:∀r,r.θ=C.θ→r.H0=C.H0→r.κ=C.κ→r.no=C.no→q r Q):LO P n C c k τ Q:=by
 subst y
 subst v
 intro γ σ f w D x z
 have m:=h (C.r γ) rfl rfl rfl rfl
 rw[←E]at m
 obtain⟨O,p,N,u,g,i⟩:=Cd (n:=n) b a m x
 have e:(BZ c).toList.drop k=Hi k (BZ c).toList++[]:=by rw[ew,GV]
 rw[e]
 refine MF (b.ren γ) A (B:=C.B) _ (fun τ' l d U j w' J K L=>?_) _ [] p O N f w u g (i _ _ z)
 obtain⟨V,s,t⟩:=Pf (n:=n) K
 obtain⟨X,S,W,f1,f2,f3⟩:=Cd (n:=n) b d J s
 obtain⟨M,R,o,F,G,H,I⟩:=HP (n:=n) b f1 D f2
 unfold wpList
 exact⟨o,⟨M,R,o,F,G,H,Wk.refl _⟩,I _ _ (f3 _ _ (t _ _ L))⟩
theorem TJ:∀{hs:List (Ad×Blk)},Ib hs=true→∀k,(AC hs k).g=0
 |[],_,k=>rfl
 |(k',b)::r,h,k=>by
  simp only[Ib,Yc]at h
  simp only[AC]
  split
  ·exact Yd h.1
  ·exact TJ h.2 k
theorem Znu{k:Ad}{ks:List Ad}:ks.any (Bz k)=true↔k∈ks:=by
 rw[YR]
 exact⟨fun⟨q,a,b⟩=>by rw[Cp.1 b];exact a,fun h=>⟨k,h,Cp.2 rfl⟩⟩
theorem ZFj(a b:List (Ad×Blk))(k:Ad):AC (a++b) k=if k∈a.map (·.1)then AC a k else AC b k:=by
 induction a with
 |nil=>simp
 |cons p a f=>
  obtain⟨q,d⟩:=p
  simp only[HG,AC,YS,Yx]
  cases c:Bz q k with
  |true=>rw[Yi (.inl (Cp.1 c).symm)]
  |false=>
   have:k≠q:=fun e=>by rw[Cp.2 e.symm]at c;cases c
   grind
theorem Pc{fr fl:List Ad}:∀(hs:List (Ad×Blk)) (ks:List Ad) (k:Ad),(k∈ks→AC (C2 ks fr fl hs) k=Fk)∧(k∉ks→(AC (C2 ks fr fl hs) k=AC hs k∧(k∈fl∨HT fr (AC hs k).cells=false))∨AC (C2 ks fr fl hs) k=Fk)
 |[],ks,k=>⟨fun _=>rfl,fun _=>.inr rfl⟩
 |(q,b)::r,ks,k=>by
  simp only[C2]
  split
  ·rename_i d a
   have f:q∉ks:=fun hm=>by rw[Znu.2 hm]at d;cases d
   simp only[AC]
   cases c:Bz q k with
   |true=>
    have c:=Cp.1 c
    subst c
    refine⟨fun h=>absurd h f,fun _=>.inl ⟨rfl,?_⟩⟩
    simp only[YH,YK]at a
    rcases a with a|a
    ·exact .inl (Znu.1 a)
    grind
   |false=>exact Pc r ks k
  ·obtain⟨d,a⟩:=Pc (fr:=fr) (fl:=fl) r (q::ks) k
   refine⟨fun h=>d (Yw _ h),fun h=>?_⟩
   by_cases c:k=q
   ·grind
   ·rcases a (fun hm=>(Yx.1 hm).elim c h)with⟨i,j⟩|e
    ·have:Bz q k=false:=by
      cases g:Bz q k with
      |true=>exact absurd (Cp.1 g).symm c
      |false=>rfl
     simp only[AC,this]
     grind
    grind
theorem Tg{r:Ren}:∀(Au:List (Ad×Blk)) (H:Hp) (q:Ad),(∀p∈Au,r.κ p.1≠q)→Dd r Au H q=H q
 |[],H,q,h=>rfl
 |(k,b)::a,H,q,h=>by
  simp only[Dd]
  rw[Tg a _ q (fun p c=>h p (Yw _ c)),AS _ _ (fun e=>h (k,b) (Yz ..) e.symm)]
theorem ZnW{r:Ren}{os:Nat}(d:∀q k:Ad,BA os q=true→BA os k=true→q≠k→r.κ q≠r.κ k):∀(Au:List (Ad×Blk)) (H:Hp),DF os Au=true→∀k b,(k,b)∈Au→Dd r Au H (r.κ k)=AL r k b∧AC Au k=b∧BA os k=true∧b.live=true
 |[],H,_,k,b,hm=>by cases hm
 |(q,c)::rest,H,g,k,b,hm=>by
  simp only[DF,Yc,YK]at g
  obtain⟨⟨⟨i,u⟩,j⟩,m⟩:=g
  have f:∀p∈rest,p.1≠q:=fun p a e=>by
   have:(rest.any fun p=>Bz q p.1)=true:=YR.2 ⟨p,a,Cp.2 e.symm⟩
   rw[this]at j;cases j
  have h:∀(l:List (Ad×Blk)),DF os l=true→∀p∈l,BA os p.1=true:=by
   intro l
   induction l with
   |nil=>intro _ p a;cases a
   |cons p l w=>
    obtain⟨x,y⟩:=p
    intro hl p a
    simp only[DF,Yc]at hl
    rcases Yx.1 a with rfl|a
    ·exact hl.1.1.1
    ·exact w hl.2 p a
  simp only[Dd]
  rcases Yx.1 hm with e|hm
  ·cases e
   refine⟨?_,by simp only[AC,Cp.2 rfl],i,u⟩
   rw[Tg rest _ _ (fun p a=>d _ _ (h rest m p a) i (f p a)),AY]
  ·obtain⟨n,o,s,t⟩:=ZnW d rest (updH H (r.κ q) (AL r q c)) m k b hm
   refine⟨n,?_,s,t⟩
   have:Bz q k=false:=by
    cases v:Bz q k with
    |true=>exact absurd (Cp.1 v).symm (f _ hm)
    |false=>rfl
   simp only[AC,this]
   exact o
theorem io:∀{Au:List (Ad×Blk)},Fv C Au→∀p∈Au,p.1.1≠1→C.no (C.κ p.1)
 |(k,b)::r,h,p,c,a=>by
  simp only[Fv]at h
  split at h
  ·rename_i d
   rcases Yx.1 c with rfl|c
   ·exact absurd (Yd d) a
   ·exact io h p c a
  ·rcases Yx.1 c with rfl|c
   ·exact h.1
   ·exact io h.2 p c a
theorem fR{H:Hp}:∀{ks:List Ad},JW H ks→∀k∈ks,Ih (H k).cells
 |q::r,h,k,a=>by
  rcases Yx.1 a with rfl|a
  ·exact h.1
  ·exact fR h.2 k a
theorem GA{os:Nat}{k:Ad}(h:BA os k=true):k.1=1∨(k.1=0∧k.2<os):=by
 simp only[BA,YH,Yc]at h
 rcases h with h|⟨a,b⟩
 ·exact .inl (Yd h)
 ·exact .inr ⟨Yd a,Yh b⟩
theorem z8{fr:List Ad}:∀(ss:List (Nat×AV)) (j:Nat),AB (Ea fr ss) j=.top∨(AB (Ea fr ss) j=AB ss j∧G8 fr (AB ss j)=false)
 |[],j=>.inl rfl
 |(i,x)::r,j=>by
  simp only[Ea,AB]
  split
  ·grind
  ·exact z8 r j
theorem ZyK(hC:CxOk C){os:Nat}{fx:List Nat}(hO:C.outs=os)(hF:C.fx=fx){c:Code}{k:Nat}{ss:List (Nat×AV)}{hs:List (Ad×Blk)}(l:Option Nat)(fo:Operand)(aZ:List Operand)(m:Ha c k=some (l,fo,aZ))
  (f:FuncId) (first u xs:List AV) (hf:ev (AB ss) fo=.fn (.func f) first u) (hxs:first++aZ.map (ev (AB ss))++u=xs) (ks:List Ad) (J:List (Ad×Blk)) (hhb:(ks.map fun k=>(k,AC hs k))=J)
  {ι:Type} (I:ι→Prop) (xF:ι→AV) (s:ι→List (Ad×Blk)) (fr fl:List Ad) (M:(M0 fr fx&&Ib hs&&M5 n l&&ks.all (BA os))=true) (t:∀i,(DF os (s i)&&Mi fr (s i))=true) (H:∀i,Fv C (s i)) (hfl:JW (AC hs) fl)
  (T:∀r:Ren,r.θ=C.θ→r.H0=C.H0→r.κ=C.κ→r.no=C.no→∀V,(∀p∈J,(V (r.κ p.1)).g=r.γ p.1+p.2.g∧(p.2.live=true→V (r.κ p.1)=AL r p.1 p.2))→(∀k:Ad,k.1≤C.l→¬r.no k→V k=r.H0 k)→
   Zc3 P f (C.l+1) (Ao r xs) V (fun y W=>∃i,I i∧∃a:Ad→Nat,(∀k,k∉fr→a k=r.γ k)∧y=ren ⟨r.κ,a,r.θ,r.H0,r.no⟩ (xF i)∧W=Dd ⟨r.κ,a,r.θ,r.H0,r.no⟩ (s i) V))
  (h:∀i,I i→LO P n C c (k+1) (Ac (Hv l (xF i) (Ea fr ss)) (s i++C2 ((s i).map (·.1)) fr fl hs)) Q):LO P n C c k (Ac ss hs) Q:=by
 subst hO
 subst hF
 simp only[Yc]at M
 obtain⟨⟨⟨k3,k4⟩,k5⟩,k6⟩:=M
 intro γ σ act w hg z hR
 have hr:=hC.ren γ
 have hs':∀j,σ.s j=ren (C.r γ) (AB ss j):=fun j=>(z.s j).1 A5
 have A:∀y:Operand,ev σ.s y=ren (C.r γ) (ev (AB ss) y):=fun y=>Lh (c:=[]) z A5 (by cases y<;>rfl)
 unfold Ha at m
 split at m
 case h_2=>cases m
 rename_i o ho
 split at m
 case h_2=>cases m
 rename_i cl hgd hopc
 split at m
 case h_2=>cases m
 rename_i fo' hcal
 simp only[Yk,GW]at m
 obtain⟨hd,rfl,rfl⟩:=m
 rw[Cn]at ho
 have hlt:k<(BZ c).toList.length:=by
  grind
 have U:(BZ c).toList.drop k=o::(BZ c).toList.drop (k+1):=by
  rw[HH hlt]
  grind
 rw[U]
 have L:∀q k:Ad,BA C.outs q=true→BA C.outs k=true→q≠k→(C.r γ).κ q≠(C.r γ).κ k:=fun q k Z h2 h3=>hr.ne (GA Z) (GA h2) h3
 have hA:=T (C.r γ) rfl rfl rfl rfl σ.H (fun p E=>by
  rw[←hhb]at E
  obtain⟨q,g,rfl⟩:=YV.1 E
  have hq':=GA (Yu.1 k6 q g)
  refine⟨?_,fun hl=>z.h q hl⟩
  obtain⟨q1,q2⟩:=q
  simp only at hq'
  rcases hq' with rfl|⟨rfl,h2⟩
  ·have:=z.g q2
   rw[←hr.own]at this
   exact this
  ·exact z.go q2 h2) z.o
 have S:Ao (C.r γ) xs=Ao (C.r γ) first++cl.args.toList.map (ev σ.s)++Ao (C.r γ) u:=by
  rw[←hxs,G4,G4]
  congr 2
  rw[FK,IZ]
  exact Ep fun y _=>(A y).symm
 have hfe:ev σ.s fo'=.fn (.func f) (Ao (C.r γ) first) (Ao (C.r γ) u):=by rw[A,hf];simp[ren]
 have hrop:Bw P C.l n o (fun σ'=>∃i,I i∧∃a:Ad→Nat,(∀q,q∉fr→a q=γ q)∧σ'=⟨wY l σ.s (ren (C.r a) (xF i)),Dd (C.r a) (s i) σ.H⟩) σ:=by
  unfold Bw
  rw[hopc]
  simp only[hcal,hfe]
  rw[S]at hA
  refine hA.mono fun y W ⟨i,hi,a,N,e2,e3⟩=>?_
  unfold OG CC
  rw[hd]
  cases l with
  |none=>exact⟨i,hi,a,N,by rw[e3];rfl⟩
  |some d=>exact⟨Yh k5,i,hi,a,N,by rw[e2,e3];rfl⟩
 refine dm (by simp[Region.wanted,hgd]) (ME hrop) hR fun σ' Y w' hK O=>?_
 obtain⟨i,hi,a,N,rfl⟩:=hK
 have h:=h i hi
 have H:=H i
 have t:=t i
 generalize s i=Au at h H t O
 generalize xF i=x at h O
 simp only[Yc]at t
 obtain⟨k1,k2⟩:=t
 have hsub:∀q,q∈fr→∃b,(q,b)∈Au:=fun q g=>by
  obtain⟨p,E,hk⟩:=YR.1 (Yu.1 k2 q g)
  rw[Cp.1 hk];exact⟨p.2,E⟩
 let τ2:St:=Ac (Hv l x (Ea fr ss)) (Au++C2 (Au.map (·.1)) fr fl hs)
 have D:∀q,AC (Au++C2 (Au.map (·.1)) fr fl hs) q=if q∈Au.map (·.1)then AC Au q else AC (C2 (Au.map (·.1)) fr fl hs) q:=fun q=>ZFj _ _ _
 have hin:∀q,q∈Au.map (·.1)→∃b,(q,b)∈Au:=fun q g=>by obtain⟨p,E,rfl⟩:=YV.1 g;exact⟨p.2,E⟩
 have F:∀q b,(q,b)∈Au→Dd (C.r a) Au σ.H ((C.r a).κ q)=AL (C.r a) q b∧AC Au q=b∧BA C.outs q=true∧b.live=true:=ZnW (r:=C.r a) L Au σ.H k1
 have B:∀q,q∉Au.map (·.1)→BA C.outs q=true→Dd (C.r a) Au σ.H ((C.r a).κ q)=σ.H ((C.r a).κ q)∧a q=γ q:=fun q g v=>by
  refine⟨Tg _ _ _ fun p E=>L _ _ (F p.1 p.2 E).2.2.1 v fun e=>g (YV.2 ⟨p,E,e⟩),N q fun hf=>?_⟩
  grind
 have K:∀q,BA C.outs q=true→(σ.H (C.κ q)).g=γ q→(Dd (C.r a) Au σ.H (C.κ q)).g=a q+(AC (Au++C2 (Au.map (·.1)) fr fl hs) q).g:=fun q v hq0=>by
  rw[D]
  split
  ·rename_i hm
   obtain⟨b,J⟩:=hin q hm
   obtain⟨a1,X,_⟩:=F q b J
   rw[show C.κ q=(C.r a).κ q from rfl,a1,X]
   rfl
  ·rename_i hm
   obtain⟨a1,X⟩:=B q hm v
   rw[show C.κ q=(C.r a).κ q from rfl,a1,X]
   have:(AC (C2 (Au.map (·.1)) fr fl hs) q).g=0:=by
    rcases(Pc (fr:=fr) (fl:=fl) hs (Au.map (·.1)) q).2 hm with⟨e,_⟩|e
    ·rw[e];exact TJ k4 q
    ·rw[e];rfl
   rw[this]
   exact hq0
 have hG2:RG (C.r a) C.l C.outs [] τ2 ⟨fun j=>ren (C.r a) (τ2.s j),Dd (C.r a) Au σ.H⟩:=by
  refine⟨fun j=>⟨fun _=>rfl,fun hn=>absurd A5 hn⟩,fun q g=>?_,fun d=>?_,fun i hi=>?_,fun q g=>?_,fun q g hn=>?_⟩
  ·show Dd (C.r a) Au σ.H ((C.r a).κ q)=AL (C.r a) q (AC (Au++C2 (Au.map (·.1)) fr fl hs) q)
   replace g:(AC (Au++C2 (Au.map (·.1)) fr fl hs) q).live=true:=g
   rw[D]at g⊢
   split at g
   ·grind
   ·rename_i hm
    rw[Ym hm]
    rcases(Pc (fr:=fr) (fl:=fl) hs (Au.map (·.1)) q).2 hm with⟨e,e'⟩|e
    ·rw[e]at g⊢
     have v:=z.k q g
     have t:BA C.outs q=true:=by
      obtain⟨q1,q2⟩:=q
      simp only at v
      simp only[BA,YH,Yc]
      rcases v with rfl|⟨rfl,h2⟩
      ·exact .inl rfl
      ·exact .inr ⟨rfl,jI h2⟩
     obtain⟨a1,X⟩:=B q hm t
     rw[a1]
     have J:=z.h q g
     have G:Ao (C.r a) (AC hs q).cells=Ao (C.r γ) (AC hs q).cells:=by
      rcases e' with e'|e'
      ·rw[Jv (fR hfl q e'),Jv (fR hfl q e')]
      ·exact MD (r:=C.r γ) N _ e'
     show σ.H ((C.r γ).κ q)=_
     rw[J]
     simp only[AL]
     rw[G,show(C.r a).γ q=a q from rfl,X]
     rfl
    ·rw[e]at g;cases g
  ·have:=K (1,d) rfl (by
    have:=z.g d
    rw[show((Ac ss hs).H (1,d)).g=0 from TJ k4 _]at this
    rw[hC.own];exact this)
   rw[hC.own]at this
   exact this
  ·exact K (0,i) (by simp only[BA,YH,Yc];exact .inr ⟨rfl,jI hi⟩) (by
    have:=z.go i hi
    rw[show((Ac ss hs).H (0,i)).g=0 from TJ k4 _]at this
    exact this)
  ·replace g:(AC (Au++C2 (Au.map (·.1)) fr fl hs) q).live=true:=g
   rw[D]at g
   split at g
   ·rename_i hm
    obtain⟨b,J⟩:=hin q hm
    exact GA (F q b J).2.2.1
   ·rename_i hm
    rcases(Pc (fr:=fr) (fl:=fl) hs (Au.map (·.1)) q).2 hm with⟨e,e'⟩|e
    ·rw[e]at g;exact z.k q g
    ·rw[e]at g;cases g
  ·show Dd (C.r a) Au σ.H q=C.H0 q
   rw[Tg _ _ _ fun p E e=>?_]
   ·exact z.o q g hn
   ·by_cases Z:p.1.1=1
    ·obtain⟨⟨p1,p2⟩,p3⟩:=p
     simp only at Z
     subst Z
     rw[show(C.r a).κ (1,p2)=(C.l+1,p2)from hC.own p2]at e
     grind
    ·exact hn (by rw[←e];exact io H p E Z)
 refine h a _ Y w' (hC.G γ a (fun i hi=>N _ fun hm=>?_) hg) hG2 (R.weaken O fun j=>?_)
 ·have:=Yu.1 k3 _ hm
  simp only[YK,Kc]at this
  rcases this with h|h
  ·cases h
  ·have:(C.fx.any (Nat.beq i))=true:=YR.2 ⟨i,hi,by simp⟩
   grind
 ·have old:ren (C.r a) (AB (Ea fr ss) j)=σ.s j∨ren (C.r a) (AB (Ea fr ss) j)=.top:=by
   rcases z8 (fr:=fr) ss j with e|⟨e,e'⟩
   ·right;rw[e];simp[ren]
   ·left
    rw[e,hs' j]
    exact y5 (r:=C.r γ) N _ e'
  show ren (C.r a) (AB (Hv l x (Ea fr ss)) j)=_∨ren (C.r a) (AB (Hv l x (Ea fr ss)) j)=.top
  cases l with
  |none=>exact old
  |some d=>
   simp only[Hv,AB,wY,upd]
   cases hj:Nat.beq d j with
   |true=>
    have:=Yd hj
    grind
   |false=>
    have:j≠d:=fun e=>by rw[e]at hj;simp at hj
    grind
theorem ZGk(D:CxOk C){os:Nat}{fx:List Nat}(F:C.outs=os)(E:C.fx=fx){c:Code}{k:Nat}{ss:List (Nat×AV)}{hs:List (Ad×Blk)}(e:Option Nat)(l:Operand)(j:List Operand)(q:Ha c k=some (e,l,j))
  (f:FuncId) (first d xs:List AV) (G:ev (AB ss) l=.fn (.func f) first d) (t:first++j.map (ev (AB ss))++d=xs) (ks:List Ad) (m:List (Ad×Blk)) (p:(ks.map fun k=>(k,AC hs k))=m)
  (x:AV) (Au:List (Ad×Blk)) (fr fl:List Ad) (i:(DF os Au&&Mi fr Au&&M0 fr fx&&Ib hs&&M5 n e&&ks.all (BA os))=true) (s:Fv C Au) (o:JW (AC hs) fl)
  (g:∀r:Ren,r.θ=C.θ→r.H0=C.H0→r.κ=C.κ→r.no=C.no→H5 P C.l r f xs m x Au fr)
  (h:LO P n C c (k+1) (Ac (Hv e x (Ea fr ss)) (Au++C2 (Au.map (·.1)) fr fl hs)) Q):LO P n C c k (Ac ss hs) Q:=by
 simp only[Yc]at i
 obtain⟨⟨⟨⟨⟨I,J⟩,K⟩,L⟩,M⟩,N⟩:=i
 exact ZyK D F E e l j q f first d xs G t ks m p (ι:=Unit) (fun _=>True) (fun _=>x) (fun _=>Au) fr fl (by simp only[Yc];exact⟨⟨⟨K,L⟩,M⟩,N⟩) (fun _=>by simp only[Yc];exact⟨I,J⟩) (fun _=>s) o
  (fun r w z A B u a b=>(g r w z A B u a b).mono fun y v H=>⟨(),trivial,H⟩) fun _ _=>h
end
def DZ(l:Nat)(ks:List Ad):Ad→Ad
 |(0,i)=>match Bk ks i with|some k=>k|none=>(0,0)
 |(_+1,d)=>(l+1,d)
def Hy(a:List Nat):Ad→Nat
 |(0,i)=>match Bk a i with|some g=>g|none=>0
 |(_+1,_)=>0
def Co(l:Nat)(ks:List Ad)(a:List Nat)(θ:Nat→AV)(H:Hp):Ren:=⟨DZ l ks,Hy a,θ,H,fun k=>k∈ks⟩
def IX(l:Nat)(ks:List Ad)(a:List Nat)(r:Ren):Prop:=r.κ=DZ l ks∧∀i,i<ks.length→r.γ (0,i)=Hy a (0,i)
def CT(r:Ren):Nat→List Blk→List Blk
 |_,[]=>[]
 |i,b::a=>AL r (0,i) b::CT r (i+1) a
def DA(H:Hp):List Ad→List Blk→Hp
 |k::ks,b::a=>DA (updH H k b) ks a
 |_,_=>H
theorem dN:∀(ks:List Ad) (a:List Blk) (H:Hp) (q:Ad),q∉ks→DA H ks a q=H q
 |[],a,H,q,h=>by cases a<;>rfl
 |k::ks,[],H,q,h=>rfl
 |k::ks,b::a,H,q,h=>by
  simp only[DA]
  rw[dN ks a _ q (fun hm=>h (Yw _ hm)),AS _ _ (fun e=>h (by rw[e];exact Yz ..))]
theorem Zth:∀(ks:List Ad) (a:List Blk) (H:Hp),ks.Nodup→∀(j:Nat) (k:Ad) (b:Blk),ks[j]?=some k→a[j]?=some b→DA H ks a k=b
 |[],a,H,_,j,k,b,h,_=>by simp at h
 |q::ks,[],H,_,_,_,_,_,h=>by simp at h
 |q::ks,c::a,H,e,j,k,b,d,hb=>by
  simp only[DA]
  rw[List.nodup_cons]at e
  cases j with
  |zero=>
   simp only[Gl,Yk]at d hb
   subst d;subst hb
   rw[dN ks a _ _ e.1,AY]
  |succ j=>
   simp only[LQ]at d hb
   exact Zth ks a _ e.2 j k b d hb
theorem zX{r:Ren}:∀(a:List Blk) (i j:Nat),(CT r i a)[j]?=(a[j]?).map (AL r (0,i+j))
 |[],i,j=>by simp[CT]
 |b::a,i,0=>by simp[CT]
 |b::a,i,j+1=>by
  simp only[CT,LQ,zX a (i+1) j,show i+1+j=i+(j+1)from by omega]
theorem y8{P:Program}{T:Nat→Option TI}{n:Nat}{f:FuncId}{fn:Func}(J:List ResultVar)(c:Code){l:Nat}{xs:List AV}{H:Hp}{g:AV→Hp→Prop}(ks:List Ad)(t:List Nat)(fx:List Nat)(θ:Nat→AV)(ys:List AV)(hs:List (Ad×Blk))(LPost:AV→List Blk→Prop)
  (V:P.funcs[f]?=some fn) (hb:fn.body=some c) (s:(fn.name== "runtime.NumGoroutine")=false) (Z:fn.ntmps=n) (hr:fn.results.toList=J) (hx:xs.length≤n) (S:A8 P T)
  (D:∀k∈ks,k.1≤l) (u:ks.Nodup) (W:∀d,AC hs (1,d)=Fk) (F:∀k,(AC hs k).live=true→k.1=0∧k.2<ks.length)
  (R:∀i k,ks[i]?=some k→(H k).g=Hy t (0,i)+(AC hs (0,i)).g∧((AC hs (0,i)).live=true→H k=AL (Co l ks t θ H) (0,i) (AC hs (0,i))))
  (I:Ao (Co l ks t θ H) ys=xs)
  (h:∀C,CxOk C→C.outs=ks.length→C.fx=fx→C.l=l→C.H0=H→C.θ=θ→C.κ=DZ l ks→C.no=(fun k=>k∈ks)→LW P n C c (Ac (DI 0 ys) hs) (FQ T J ks.length LPost))
  (v:∀y b,LPost y b→b.length=ks.length∧(∀x∈b,x.live=true)∧∀r:Ren,r.κ=DZ l ks→r.θ=θ→r.H0=H→r.no=(fun k=>k∈ks)→(∀i∈fx,r.γ (0,i)=Hy t (0,i))→g (ren r y) (DA H ks (CT r 0 b))):Zc3 P f l xs H g:=by
 let C:Base→Cx:=fun B=>⟨l,B,DZ l ks,θ,H,ks.length,fun k=>k∈ks,fx,fun γ=>∀i∈fx,γ (0,i)=Hy t (0,i)⟩
 have a:∀i,i<ks.length→ks[i]?=some (DZ l ks (0,i)):=fun i hi=>by
  show _=some (match Bk ks i with|some k=>k|none=>(0,0))
  rw[Cn,Ye hi]
 have E:∀(i:Nat) (k:Ad),ks[i]?=some k→i<ks.length:=fun i k hi=>by
  grind
 have K:∀B,CxOk (C B):=fun B=>by
  refine⟨fun _=>rfl,fun i hi=>D _ (Yj (a i hi)),fun i j hi Y e=>?_,fun k w=>?_,fun γ γ' he A i hi=>by rw[he i hi];exact A i hi⟩
  ·have m:=a i hi
   have o:=a j Y
   rw[show DZ l ks (0,i)=DZ l ks (0,j)from e]at m
   have Q:ks[i]?=ks[j]?:=m.trans o.symm
   exact(List.getElem?_inj hi u).1 Q
  ·obtain⟨i,hi⟩:=YJ.1 (show k∈ks from w)
   grind
 refine Zoe J C (γ:=Hy t) (LPost:=LPost) (ys:=ys) (hs:=hs) V hb s Z hr hx S K (fun B=>⟨rfl,rfl,rfl,fun i _=>rfl⟩) (fun B=>I) (fun _=>rfl) W (fun B k w=>?_) (fun B i hi=>?_) (fun B γ y b N A hy L _=>?_) (fun B=>h _ (K B) rfl rfl rfl rfl rfl rfl rfl)
 ·obtain⟨m,o⟩:=F k w
  obtain⟨k1,M⟩:=k
  simp only at m o
  subst m
  exact⟨rfl,o,(R M _ (a M o)).2 w⟩
 ·grind
 ·obtain⟨U,z,v⟩:=v y b hy
  have v:=v ((C B).r γ) rfl rfl rfl rfl fun i hi=>A i hi
  have O:N=DA H ks (CT ((C B).r γ) 0 b):=by
   funext q
   by_cases G:q∈ks
   ·obtain⟨i,hi⟩:=YJ.1 G
    have X:=E i q hi
    have p:b[i]?=some b[i]:=Ye (by omega)
    have m:=L.live i _ p (z _ (Yj p))
    have o:DZ l ks (0,i)=q:=by
     grind
    rw[show(C B).κ (0,i)=q from o]at m
    rw[m,Zth ks _ H u i q (AL ((C B).r γ) (0,i) b[i]) hi]
    rw[zX,p,YN]
    rfl
   ·rw[dN ks _ H q G]
    exact L.o q G
  rw[O];exact v
theorem ZmY{P:Program}{T:Nat→Option TI}{n:Nat}{f:FuncId}{fn:Func}(w:List ResultVar)(c:Code){l:Nat}{xs:List AV}{H:Hp}{a:AV→Hp→Prop}(ks:List Ad)(e:List Nat)(fx:List Nat)(θ:Nat→AV)(ys:List AV)(hs:List (Ad×Blk))(LPost:AV→List Blk→Prop)
  (G:P.funcs[f]?=some fn) (hb:fn.body=some c) (g:(fn.name== "runtime.NumGoroutine")=false) (J:fn.ntmps=n) (K:fn.results.toList=w) (hx:xs.length≤n) (E:A8 P T)
  (q:∀k∈ks,k.1≤l) (t:ks.Nodup) (p:∀i,i<ks.length→i∈fx) (I:∀d,AC hs (1,d)=Fk) (s:∀k,(AC hs k).live=true→k.1=0∧k.2<ks.length)
  (D:∀i k,ks[i]?=some k→(H k).g=Hy e (0,i)+(AC hs (0,i)).g∧((AC hs (0,i)).live=true→H k=AL (Co l ks e θ H) (0,i) (AC hs (0,i))))
  (v:Ao (Co l ks e θ H) ys=xs)
  (h:∀C,CxOk C→C.outs=ks.length→C.fx=fx→C.l=l→C.H0=H→C.θ=θ→C.κ=DZ l ks→C.no=(fun k=>k∈ks)→LW P n C c (Ac (DI 0 ys) hs) (FQ T w ks.length LPost))
  (u:∀y b,LPost y b→b.length=ks.length∧(∀x∈b,x.live=true)∧∃Y' bs',(∀r,IX l ks e r→ren r y=Y')∧(∀r,IX l ks e r→CT r 0 b=bs')∧a Y' (DA H ks bs')):Zc3 P f l xs H a:=by
 refine y8 w c ks e fx θ ys hs LPost G hb g J K hx E q t I s D v h fun y b hy=>?_
 obtain⟨m,o,Y',bs',F,B,u⟩:=u y b hy
 refine⟨m,o,fun r z _ _ _ A=>?_⟩
 have j:IX l ks e r:=⟨z,fun i hi=>A i (p i hi)⟩
 rw[F _ j,B _ j];exact u
theorem ZpE{P:Program}{T:Nat→Option TI}{n:Nat}{f:FuncId}{fn:Func}(v:List ResultVar)(c:Code){l:Nat}{xs:List AV}{H:Hp}{a:AV→Hp→Prop}(ks:List Ad)(g:List Nat)(fx:List Nat)(θ:Nat→AV)(ys:List AV)(hs:List (Ad×Blk))(Y:AV)(j:List Blk){Y':AV}{bs':List Blk}
  (E:P.funcs[f]?=some fn) (hb:fn.body=some c) (e:(fn.name== "runtime.NumGoroutine")=false) (G:fn.ntmps=n) (J:fn.results.toList=v) (hx:xs.length≤n) (B:A8 P T)
  (q:∀k∈ks,k.1≤l) (t:ks.Nodup) (p:∀i,i<ks.length→i∈fx) (F:∀d,AC hs (1,d)=Fk) (s:∀k,(AC hs k).live=true→k.1=0∧k.2<ks.length)
  (A:∀i k,ks[i]?=some k→(H k).g=Hy g (0,i)+(AC hs (0,i)).g∧((AC hs (0,i)).live=true→H k=AL (Co l ks g θ H) (0,i) (AC hs (0,i))))
  (u:Ao (Co l ks g θ H) ys=xs) (m:j.length=ks.length) (o:∀b∈j,b.live=true) (D:∀r,IX l ks g r→ren r Y=Y') (z:∀r,IX l ks g r→CT r 0 j=bs')
  (h:∀C,CxOk C→C.outs=ks.length→C.fx=fx→C.l=l→C.H0=H→C.θ=θ→C.κ=DZ l ks→C.no=(fun k=>k∈ks)→LW P n C c (Ac (DI 0 ys) hs) (FQ T v ks.length (fun y b=>y=Y∧b=j)))
  (I:a Y' (DA H ks bs')):Zc3 P f l xs H a:=by
 exact ZmY v c ks g fx θ ys hs (fun y b=>y=Y∧b=j) E hb e G J hx B q t p F s A u h fun y b ⟨w,x⟩=>by subst w;subst x;exact⟨m,o,Y',bs',D,z,I⟩
section
variable {P:Program} {l:Nat} {r:Ren} {f:FuncId} {xs xs':List AV} {hb Au:List (Ad×Blk)} {x x':AV}
theorem ZxC(e:Ao r xs=xs')(g:ren r x=x')(h:∀a,(∀p∈hb,(a (r.κ p.1)).g=r.γ p.1+p.2.g∧(p.2.live=true→a (r.κ p.1)=AL r p.1 p.2))→(∀k:Ad,k.1≤l→¬r.no k→a k=r.H0 k)→Zc3 P f (l+1) xs' a (fun y b=>y=x'∧b=Dd r Au a)):
  H5 P l r f xs hb x Au []:=fun a hb i=>by
 rw[e]
 exact(h a hb i).mono fun y b ⟨c,d⟩=>⟨r.γ,fun _ _=>rfl,by rw[c,←g],d⟩
end
theorem Zx7{α:Type}{e:α→List D}{r:Ren}{k:Ad}(xs:List α):F9 r k (Aa e xs):=by
 unfold F9
 rw[Jv (EZ e xs)]
 refine Yu.2 fun x hx=>?_
 obtain⟨d,_,rfl⟩:=YV.1 hx
 rfl
theorem Zsw{r:Ren}{k:Ad}{vs:List AV}(h:(Ao r vs).all (AV.low (r.κ k).1)=true):F9 r k vs:=h
theorem G7{r:Ren}{k:Ad}(ds:List D):F9 r k (ds.map .d):=by
 unfold F9
 rw[HX]
 refine Yu.2 fun x hx=>?_
 obtain⟨d,_,rfl⟩:=YV.1 hx
 rfl
theorem yV{α:Type}(e:α→List D)(xs:List α):FN (Aa e xs):=fun x hx=>by
 obtain⟨d,_,rfl⟩:=YV.1 hx;rfl
theorem Zv6{α:Type}{e:α→List D}{xs:List α}{off cn sz:Nat}{z:List AV}(hl:∀x,(e x).length=sz)(h:off+cn≤xs.length):
  aY (Aa e xs) off cn sz z ((Aa e xs).take (off*sz)++(List.replicate cn z).flatten++(Aa e xs).drop ((off+cn)*sz)):=by
 refine⟨?_,rfl⟩
 rw[FL hl]
 exact Y9 _ h
theorem ZyF{α:Type}{e:α→List D}{xs:List α}{off sz:Nat}{A B:List AV}(hl:∀x,(e x).length=sz)(h:off≤xs.length):∃m,((Aa e xs).take (off*sz)++A++B).take m=Aa e (xs.take off):=by
 refine⟨off*sz,?_⟩
 have a:((Aa e xs).take (off*sz)).length=off*sz:=by
  rw[Yy,FL hl]
  exact Fx (Y9 _ h)
 rw[D5,Rs (by omega),I0 (by omega),ed hl]
def Iu(n:Nat):List (Ad×Blk)→Bool
 |[]=>true
 |(k,_)::r=>Nat.beq k.1 0&&Nat.ble (k.2+1) n&&Iu n r
theorem eT{n:Nat}:∀{hs:List (Ad×Blk)},Iu n hs=true→∀k,(AC hs k).live=true→k.1=0∧k.2<n
 |[],_,k,h=>by simp[AC,Fk]at h
 |(q,b)::r,hi,k,h=>by
  simp only[Iu,Yc]at hi
  simp only[AC]at h
  split at h
  ·rename_i a
   have a:=Cp.1 a
   subst a
   exact⟨Yd hi.1.1,Yh hi.1.2⟩
  ·exact eT hi.2 k h
theorem dW{n:Nat}:∀{hs:List (Ad×Blk)},Iu n hs=true→∀d,AC hs (1,d)=Fk
 |[],_,d=>rfl
 |(q,b)::r,hi,d=>by
  simp only[Iu,Yc]at hi
  simp only[AC]
  split
  ·rename_i a
   have a:=Cp.1 a
   subst a
   have:=Yd hi.1.1
   grind
  ·exact dW hi.2 d
def J8(H:Hp)(r:Ren)(hs:List (Ad×Blk)):Nat→List Ad→Prop
 |_,[]=>True
 |i,k::ks=>((H k).g=r.γ (0,i)+(AC hs (0,i)).g∧((AC hs (0,i)).live=true→H k=AL r (0,i) (AC hs (0,i))))∧J8 H r hs (i+1) ks
theorem fS{H:Hp}{r:Ren}{hs:List (Ad×Blk)}:∀{ks:List Ad} {i:Nat},J8 H r hs i ks→∀j k,ks[j]?=some k→(H k).g=r.γ (0,i+j)+(AC hs (0,i+j)).g∧((AC hs (0,i+j)).live=true→H k=AL r (0,i+j) (AC hs (0,i+j)))
 |[],i,_,j,k,h=>by simp at h
 |q::ks,i,h,0,k,a=>by
  simp only[Gl,Yk]at a
  subst a
  exact h.1
 |q::ks,i,h,j+1,k,a=>by
  have:=fS h.2 j k (by simpa using a)
  grind
def JQ(l:Nat):List Ad→Prop
 |[]=>True
 |k::ks=>k.1≤l∧JQ l ks
theorem Uk{l:Nat}:∀{ks:List Ad},JQ l ks→∀k∈ks,k.1≤l
 |q::ks,h,k,a=>by
  rcases Yx.1 a with rfl|a
  ·exact h.1
  ·exact Uk h.2 k a
def I3:Nat→List Nat
 |0=>[]
 |n+1=>I3 n++[n]
theorem TV:∀{n i:Nat},i<n→i∈I3 n
 |n+1,i,h=>by
  simp only[I3,D6,Y3]
  rcases YF i n with a|a
  ·exact .inl (TV a)
  grind
theorem Zmg{P:Program}{T:Nat→Option TI}{n:Nat}{f:FuncId}{fn:Func}(u:List ResultVar)(c:Code){l:Nat}{xs:List AV}{H:Hp}{a:AV→Hp→Prop}(ks:List Ad)(g:List Nat)(os:Nat)(θ:Nat→AV)(ys:List AV)(hs:List (Ad×Blk))(Y:AV)(e:List Blk){Y':AV}{bs':List Blk}
  (A:P.funcs[f]?=some fn) (hb:fn.body=some c) (d:(fn.name== "runtime.NumGoroutine")=false) (D:fn.ntmps=n) (F:fn.results.toList=u) (hx:xs.length≤n) (x:A8 P T) (s:ks.length=os)
  (p:JQ l ks) (q:ks.Nodup) (j:Iu os hs=true) (w:J8 H (Co l ks g θ H) hs 0 ks) (t:Ao (Co l ks g θ H) ys=xs) (m:e.length=os) (o:∀b∈e,b.live=true) (z:∀r,IX l ks g r→ren r Y=Y') (v:∀r,IX l ks g r→CT r 0 e=bs')
  (h:∀C,CxOk C→C.outs=os→C.fx=I3 os→C.l=l→C.H0=H→C.θ=θ→C.κ=DZ l ks→C.no=(fun k=>k∈ks)→LW P n C c (Ac (DI 0 ys) hs) (FQ T u os (fun y b=>y=Y∧b=e)))
  (E:a Y' (DA H ks bs')):Zc3 P f l xs H a:=by
 subst s
 exact ZpE u c ks g (I3 ks.length) θ ys hs Y e A hb d D F hx x (Uk p) q (fun i hi=>TV hi) (dW j) (eT j) (fun i k B=>by have:=fS w i k B;rw[YN]at this;exact this) t m o z v h E
theorem Zp1{α:Type}{e e':α→List D}{xs:List α}{j sz:Nat}{x:α}(hx:xs[j]?=some x)(hl:∀x,(e x).length=sz)(he:∀x,e x=e' x):DR (Aa e xs) (j*sz) ((e' x).map .d):=by
 have a:j<xs.length:=by
  grind
 have:=za (z:=x) a hl he
 grind
theorem ZFA{P:Program}{l o:Nat}{no b:Ad→Prop}{H j:Hp}{c:AV}{m:List AV}{y:AV}(h:CI P l no H c m y)(hl:l≤o)(i:∀q:Ad,q.1≤l→¬no q→¬b q)(r:∀q:Ad,q.1≤l→¬no q→j q=H q):CI P o b j c m y:=by
 obtain⟨f,first,a,e,h⟩:=h
 exact⟨f,first,a,e,fun l' p g s=>h l' p (D7 hl g) fun k d n=>by rw[s k (D7 d hl) (i k d n),r k d n]⟩
def kJ:Code→Operand
 |.cond o _ _=>o
 |_=>.tmp 0
def FU(c:Code)(k:Nat):Option Nat:=match Ha c k with|some (d,_,_)=>d|none=>none
def callF(c:Code)(k:Nat):Operand:=match Ha c k with|some (_,f,_)=>f|none=>.tmp 0
def Hf(c:Code)(k:Nat):List Operand:=match Ha c k with|some (_,_,xs)=>xs|none=>[]
theorem Zon{P:Program}{n:Nat}{C:Cx}{Q:Exit→St→Prop}(m:CxOk C){os:Nat}{fx:List Nat}(p:C.outs=os)(o:C.fx=fx){c:Code}{k:Nat}{ss:List (Nat×AV)}{hs:List (Ad×Blk)}
  (f:FuncId) (first a xs:List AV) (i:Ha c k=some (FU c k,callF c k,Hf c k)) (q:ev (AB ss) (callF c k)=.fn (.func f) first a) (l:first++(Hf c k).map (ev (AB ss))++a=xs) (ks:List Ad) (hb:List (Ad×Blk)) (e:(ks.map fun k=>(k,AC hs k))=hb)
  (x:AV) (Au:List (Ad×Blk)) (fr fl:List Ad) (g:(DF os Au&&Mi fr Au&&M0 fr fx&&Ib hs&&M5 n (FU c k)&&ks.all (BA os))=true) (j:Fv C Au) (d:JW (AC hs) fl)
  (b:∀r:Ren,r.θ=C.θ→r.H0=C.H0→r.κ=C.κ→r.no=C.no→H5 P C.l r f xs hb x Au fr)
  (h:LO P n C c (k+1) (Ac (Hv (FU c k) x (Ea fr ss)) (Au++C2 (Au.map (·.1)) fr fl hs)) Q):LO P n C c k (Ac ss hs) Q:=
 ZGk m p o _ _ _ i f first a xs q l ks hb e x Au fr fl g j d b h
end Go.Eng
namespace Go.Eng
open Go
set_option linter.all false
end Go.Eng
namespace Go.Eng
set_option linter.all false
open Go Go.RowKit Go.Shelf
theorem Zm1{w:World}{S:Nat→Prop}{H:Hp}{m:Mu}{l:Nat}{vs:Array Value}{n:Int}(f:K7 w S H m l [.e0,.d (.int .i64 n)] vs):∃a,vs=#[.slice a 0 0,.int .i64 n]:=by
 obtain⟨hs,b⟩:=f
 obtain⟨l⟩:=vs
 match l,hs,b with
 |[v0,g],_,b=>
  have e:=b 0 .e0 v0 rfl rfl
  have c:=b 1 (.d (.int .i64 n)) g rfl rfl
  cases e with
  |e0 a=>
   cases c with
   |d _ _ c=>
    cases c with
    |int=>exact⟨a,rfl⟩
theorem dO{P:Program}{ρ:Go.Shelf.Ren}(L:Go.Proofs.Lays8.n4 P ρ)(i0:TypeInfo)(z:Value)(r:P.info? (ρ.t 25)=some i0)(t:i0.zero=some z)(s:0<i0.size)(u:z.cells.size=i0.size)(p:i0.bytes≤256)
  (E:∃fn c,P.funcs[ρ.f 4]?=some fn∧fn.body=some c∧(fn.name== "runtime.NumGoroutine")=false) {ℓ:Nat} {ℋ:Hp} {k:Ad} (d:k.1≤ℓ) {g:Nat} (F:(ℋ k).g=g) (n:Nat) (K:n<549755813888) {b:AV→Hp→Prop}
  (h:b (.ref k (g+1) 0 0) (updH ℋ k ⟨g+1,true,ρ.t 25,i0.size,[]⟩)):Zc3 P (ρ.f 4) ℓ [.e0,.d (.int .i64 n)] ℋ b:=
 ⟨E,fun m S w vs B D=>by
  obtain⟨a,rfl⟩:=Zm1 D
  subst F
  by_cases C:n=0
  ·subst C
   refine(Go.Proofs.Any8.slices_Grow_room L a 0 0 0 w (by omega) (by omega) (by omega) (by omega)).mono fun e w' ⟨f,o⟩=>?_
   subst o
   obtain⟨y,A⟩:=B.overEmpty k d ((ℋ k).g+1) (ρ.t 25) i0.size (by omega) ⟨0,0,0⟩ rfl
   refine⟨_,_,_,_,_,f,h,y,?_,A⟩
   have:=RepA.refL (w:=w') (S:=S) (H:=updH ℋ k ⟨(ℋ k).g+1,true,ρ.t 25,i0.size,[]⟩) (m:=Bf m k ⟨0,0,0⟩) (l:=ℓ) k 0 0 a d (by rw[AY]) (by omega) (fun q=>by rw[A6]at q;exact absurd q (NV 0))
   rw[AY,A6]at this
   exact this
  ·have Au:n*i0.bytes≤549755813888*256:=Nat.mul_le_mul (by omega) p
   refine(Go.Proofs.Any8.slices_Grow_grow L i0 z r t s a 0 0 n [] w (by omega) (by omega) (by rw[YN];omega) (by omega) (by simp) (fun _=>rfl) (fun _ _ j v I=>by simp at I)).mono fun e w' ⟨f,o⟩=>?_
   have J:n≤grownCap w (0+n) 0 (ρ.t 25):=by have:=grownCap_ge w (0+n) 0 (ρ.t 25);omega
   generalize grownCap w (0+n) 0 (ρ.t 25)=G at*
   subst o
   obtain⟨y,A⟩:=B.alloc k d (ρ.t 25) i0.size G [] (([]:List Value).toArray++Builtin.zeroCells z.cells (0+n-0)++Builtin.zeroCells z.cells (G-(0+n))) (by omega)
    (by simp only[Array.size_append,dq,u];rw[show([]:List Value).toArray.size=0 from rfl,YN,←Y0,show 0+n-0+(G-(0+n))=G from by omega]) (Ck _) (fun i x v hx=>by simp at hx)
    (w.drew.alloc (.cells (([]:List Value).toArray++Builtin.zeroCells z.cells (0+n-0)++Builtin.zeroCells z.cells (G-(0+n))) (ρ.t 25))) rfl rfl rfl rfl
   refine⟨_,_,_,_,_,f,h,y,?_,A⟩
   have:=RepA.refL (w:=w.drew.alloc (.cells (([]:List Value).toArray++Builtin.zeroCells z.cells (0+n-0)++Builtin.zeroCells z.cells (G-(0+n))) (ρ.t 25))) (S:=S) (H:=updH ℋ k ⟨(ℋ k).g+1,true,ρ.t 25,i0.size,[]⟩) (m:=Bf m k ⟨w.heap.size,0,G⟩) (l:=ℓ) k 0 0 (some ⟨w.heap.size,0,none⟩) d (by rw[AY]) (by omega) (fun _=>by rw[A6];simp)
   rw[AY,A6]at this
   exact this⟩
theorem ZD0{α:Type}{e:α→List D}{xs:List α}{l h:Nat}(q:Gi l h xs.length):Gi l h (xs.map e).length:=by rw[YG];exact q
theorem ZH7{α:Type}{e:α→List D}{xs:List α}{sz:Nat}(he:∀x,(e x).length=sz):∀d,d∈xs.map e→d.length=sz:=fun d h=>by
 grind
theorem ZG3{α:Type}{e:α→List D}{xs:List α}{sz l h:Nat}(he:∀x,(e x).length=sz):Rp (xs.map e) sz l h (((xs.drop l).take (h-l)).map e):=
 ⟨ZH7 he,by rw[←List.map_drop,←List.map_take]⟩
theorem Zus{i:Int}{len sz:Nat}(a:0≤i)(h:i<len):L6 i len 0 sz (i.toNat*sz):=⟨a,h,by simp⟩
theorem Zwf{α:Type}{e:α→List D}{xs:List α}{j sz a:Nat}{z y:α}{vs:List D}(b:j<xs.length)(hl:∀x,(e x).length=sz)(g:a+vs.length≤sz)(he:e y=(e (xs.getD j z)).take a++vs++(e (xs.getD j z)).drop (a+vs.length)):
  HC (Aa e xs) (j*sz+a) (vs.map .d) (Aa e (xs.set j y)):=by
 have d:(j+1)*sz≤xs.length*sz:=Y9 _ b
 rw[Y0,LX]at d
 refine⟨by rw[YG,FL hl];omega,?_⟩
 have hx:xs.getD j z=xs[j]:=by rw[Yg,Ye b];rfl
 rw[hx]at he
 have hs:Aa e xs=Aa e (xs.take j)++((e xs[j]).map .d++Aa e (xs.drop (j+1))):=by
  conv=>lhs;rw[←G0 j xs,HH b,TU,HS]
 have c:(Aa e (xs.take j)).length=j*sz:=by rw[FL hl,Yy,Fx (by omega)]
 have f:((e xs[j]).map AV.d).length=sz:=by rw[YG,hl]
 rw[hs,List.take_append,I0 (by omega:(Aa e (xs.take j)).length≤j*sz+a),c,show j*sz+a-j*sz=a from by omega,Rs (by omega),
  List.drop_append,W9 (by rw[c];omega),c,Fy,show j*sz+a+(vs.map AV.d).length-j*sz=a+vs.length from by rw[YG];omega,Xi (by omega),
  jy,Yi b,TU,HS,he]
 simp only[DO,List.map_take,List.map_drop,D5]
end Go.Eng
namespace Go.Eng
set_option linter.all false
theorem TE{α:Type}{l:List α}{p:α→Bool}:((match l.findIdx? p with|some k=>(k:Int)|none=>-1)≥0)↔l.any p=true:=by
 rw[YR]
 cases h:l.findIdx? p with
 |none=>
  rw[LP]at h
  constructor
  ·intro e;exact absurd e (by decide)
  ·rintro⟨x,hx,a⟩;rw[h x hx]at a;cases a
 |some k=>
  obtain⟨b,c,_⟩:=Kg.1 h
  exact⟨fun _=>⟨l[k],Gk b,c⟩,fun _=>Int.natCast_nonneg k⟩
theorem Zv0{α:Type}{e e':α→List D}{xs:List α}{j sz:Nat}{y:α}(a:j<xs.length)(hl:∀x,(e x).length=sz)(he:∀x,e x=e' x):HC (Aa e xs) (j*sz) ((e' y).map .d) (Aa e (xs.set j y)):=by
 rw[←he];exact ZEi a hl
theorem zo{α:Type}{sz:Nat}{e e':α→List D}{y:α}(C:List AV)(hl:∀x,(e x).length=sz)(he:∀x,e x=e' x):Ec sz C (.d (.list [e' y])) 1 (Aa e [y]):=by
 rw[Zyf,he];exact ZwD C (by rw[←he];exact hl y)
theorem ZFM{C:List AV}{o n m sz:Nat}{a:List (List D)}(h:n=m)(k:HB C o m sz a):HB C o n sz a:=h▸k
theorem ZFZ{α:Type}{e:α→List D}{xs:List α}{n m off sz:Nat}(a:n=m)(h:off≤xs.length)(hl:∀x,(e x).length=sz):n=m∧off*sz≤(Aa e xs).length∧(Aa e xs).drop (off*sz)=Aa e (xs.drop off):=
 ⟨a,by rw[FL hl];exact Y9 _ h,Pi hl xs off⟩
theorem ZHg{α:Type}{e:α→List D}{z:α}{c:List AV}(a:(e z).map .d=c)(m:Nat):(List.replicate m c).flatten=Aa e (List.replicate m z):=by
 subst a
 induction m with
 |zero=>rfl
 |succ m b=>rw[Xb,Kf,b,Xb,HS]
end Go.Eng
namespace Go.Eng
set_option linter.all false
open Go Go.RowKit
section
variable {P:Program} {T:Nat→Option TI} {n:Nat} {C:Cx} {τ:St} {Q:Exit→St→Prop}
theorem ZHI(f:CxOk C){os:Nat}{fx:List Nat}(k:C.outs=os)(i:C.fx=fx){c:Code}(a:AT)(lf:Lf)(q:Ren→(St→Prop)→Prop)
  (m:∀r Φ,A7 r os a τ (fun τ _=>Eb fx lf τ Φ)=q r Φ) (h:∀r,r.θ=C.θ→r.H0=C.H0→r.κ=C.κ→r.no=C.no→q r (fun τ'=>LW P n C c τ' Q)):LW P n C c τ Q:=by
 subst k
 subst i
 intro γ σ l j
 have e:=h (C.r γ) rfl rfl rfl rfl
 rw[←m]at e
 obtain⟨y,w,x,g,b,d⟩:=Cd (n:=n) f a e j
 obtain⟨u,z,v,o,p,s,t⟩:=HP (n:=n) f g l b
 exact BH.weak (p u v o s) (d.trans t)
end
theorem zS{s:ByteArray}{i:Int}(a:0≤i)(h:i<s.size):I8 s i ((s.data.toList.getD i.toNat 0).toNat:Int):=by
 have:=Zui (s:=s) (i:=i.toNat) (by omega)
 rwa [Int.toNat_of_nonneg a]at this
end Go.Eng
