import Derived.Test.YtalafnjhcecdpaaGreatDoorZb08
import Derived.Shelf.Spec.SlicesGrow
import Derived.Test.YtalafnjhcecdpaaGreatDoorZb00
namespace Go.Eng
set_option linter.all false
open Go Go.RowKit
theorem HG{α:Type}(e:α→List D)(x:α)(xs:List α):Aa e (x::xs)=(e x).map .d++Aa e xs:=by simp[Aa]
theorem O4{α:Type}{e:α→List D}{sz:Nat}(hl:∀x,(e x).length=sz):∀(xs:List α) (j:Nat),(Aa e xs).drop (j*sz)=Aa e (xs.drop j)
 |[],j=>by simp[Aa]
 |x::xs,0=>by simp
 |x::xs,j+1=>by
  have a:((e x).map AV.d).length=sz:=by rw[YC,hl]
  rw[HG,YY,LJ,NQ,←N1,List.drop_left' a,O4 hl xs j]
  rfl
theorem aR{α:Type}{e:α→List D}{sz:Nat}(hl:∀x,(e x).length=sz):∀(xs:List α) (j:Nat),(Aa e xs).take (j*sz)=Aa e (xs.take j)
 |[],j=>by simp[Aa]
 |x::xs,0=>by simp[Aa]
 |x::xs,j+1=>by
  have a:((e x).map AV.d).length=sz:=by rw[YC,hl]
  rw[HG,List.take_succ_cons,HG,YY,LJ,NQ,List.take_append,a,Nat.add_sub_cancel_left,aR hl xs j,LF (by omega)]
theorem pY{α:Type}{xs:List α}{j:Nat}{z:α}(a:j<xs.length):xs.drop j=xs.getD j z::xs.drop (j+1):=by
 rw[Hw a,Ym,Ya a];rfl
theorem mW{α:Type}{e e':α→List D}{xs:List α}{j sz:Nat}{z:α}(a:j<xs.length)(hl:∀x,(e x).length=sz)(he:∀x,e x=e' x):DQ (Aa e xs) (j*sz) ((e' (xs.getD j z)).map .d):=by
 unfold DQ
 rw[O4 hl,pY (z:=z) a,HG,he,List.take_left]
theorem Zlw{α:Type}{e e':α→List D}{xs:List α}{j sz o:Nat}{z:α}{c:List AV}(b:j<xs.length)(hl:∀x,(e x).length=sz)(he:∀x,e x=e' x)
  (a:(((e' (xs.getD j z)).map .d).drop o).take c.length=c) (f:o+c.length≤sz):DQ (Aa e xs) (j*sz+o) c:=by
 unfold DQ
 have d:((e' (xs.getD j z)).map AV.d).length=sz:=by rw[YC,←he,hl]
 rw[←N1,O4 hl,pY (z:=z) b,HG,he,V3 (by omega),QJ (by rw[F2];omega),a]
theorem uF{α:Type}{e:α→List D}{xs:List α}{j sz:Nat}{y:α}(b:j<xs.length)(hl:∀x,(e x).length=sz):IG (Aa e xs) (j*sz) ((e y).map .d) (Aa e (xs.set j y)):=by
 have a:((e y).map AV.d).length=sz:=by rw[YC,hl]
 have c:(j+1)*sz≤xs.length*sz:=Y5 _ b
 rw[YY,LJ]at c
 refine⟨by rw[a,HE hl];omega,?_⟩
 rw[a,aR hl,show j*sz+sz=(j+1)*sz from by rw[YY,LJ],O4 hl,fv,Yj b,Td,HG,Y8]
def Vl:D→Option Value
 |.int k n=>some (.int k n)
 |.bool b=>some (.bool b)
 |.str s=>some (.string s)
 |.list _=>none
 |.map _ _=>none
theorem vW{w:World}{S:Nat→Prop}{d:D}{u v:Value}(h:Vl d=some v)(a:RepD w S d u):u=v:=by
 cases a<;>simp only[Vl,Yi]at h<;>first|exact h|cases h
theorem u1{w:World}{S:Nat→Prop}{H:Hp}{m:Mu}{l:Nat}{ds:List D}{V:List Value}{vs:Array Value}(h:ds.map Vl=V.map some)(f:Ky w S H m l (ds.map .d) vs):vs=V.toArray:=by
 have hl:ds.length=V.length:=by simpa using congrArg List.length h
 apply CY
 apply List.ext_getElem?
 intro i
 obtain⟨b,e⟩:=f
 have b:ds.length=vs.size:=by simpa using b
 rcases YF i ds.length with hi|hi
 ·have c:vs[i]?=some vs[i]:=Yr (by omega)
  have j:=e i (.d ds[i]) vs[i] (by simp[Ya hi]) c
  have a:=congrArg (fun l=>l[i]?) h
  simp only[YM,Ya hi,Ya (show i<V.length by omega),Y2,Yi]at a
  rw[YD,c,Ya (show i<V.length by omega)]
  cases j with|d _ _ g=>rw[vW a g]
 grind
end Go.Eng
namespace Go.Eng
set_option linter.all false
open Go Go.RowKit
def De(r:Ren):List (Ad×Blk)→Hp→Hp
 |[],H=>H
 |(k,b)::a,H=>De r a (updH H (r.κ k) (AG r k b))
def HW(P:Program)(l:Nat)(r:Ren)(f:FuncId)(xs:List AV)(d:List (Ad×Blk))(x:AV)(Aq:List (Ad×Blk))(fr:List Ad):Prop:=
 ∀a,(∀p∈d,(a (r.κ p.1)).g=r.γ p.1+p.2.g∧(p.2.live=true→a (r.κ p.1)=AG r p.1 p.2))→(∀k:Ad,k.1≤l→¬r.no k→a k=r.H0 k)→
  ZcG P f (l+1) (Am r xs) a (fun y b=>∃c:Ad→Nat,(∀k,k∉fr→c k=r.γ k)∧y=ren ⟨r.κ,c,r.θ,r.H0,r.no⟩ x∧b=De ⟨r.κ,c,r.θ,r.H0,r.no⟩ Aq a)
mutual
def GW(fr:List Ad):AV→Bool
 |.ref k _ _ _=>fr.any (BA k)
 |.ptr k _ _=>fr.any (BA k)
 |.mp k _=>fr.any (BA k)
 |.fn _ xs ys=>HI fr xs||HI fr ys
 |.agg xs=>HI fr xs
 |.tup xs=>HI fr xs
 |.top=>false
 |.d _=>false
 |.e0=>false
 |.p _=>false
 |.iptr _ _=>false
 |.ifc _ _ _=>false
def HI(fr:List Ad):List AV→Bool
 |[]=>false
 |x::xs=>GW fr x||HI fr xs
end
def D4(fr:List Ad):List (Nat×AV)→List (Nat×AV)
 |[]=>[]
 |(j,x)::r=>(j,match GW fr x with|true=>.top|false=>x)::D4 fr r
def C2(ks fr fl:List Ad):List (Ad×Blk)→List (Ad×Blk)
 |[]=>[]
 |(k,b)::r=>match ks.any (BA k),fl.any (BA k)||!HI fr b.cells with
  |false,true=>(k,b)::C2 ks fr fl r
  |_,_=>C2 (k::ks) fr fl r
def He:Option Nat→AV→List (Nat×AV)→List (Nat×AV)
 |some d,x,r=>(d,x)::r
 |none,_,r=>r
def BB(os:Nat)(k:Ad):Bool:=Nat.beq k.1 1||(Nat.beq k.1 0&&Nat.ble (k.2+1) os)
def DF(os:Nat):List (Ad×Blk)→Bool
 |[]=>true
 |(k,b)::r=>BB os k&&b.live&&!(r.any fun p=>BA k p.1)&&DF os r
mutual
theorem nd{r:Ren}{b:Ad→Nat}{fr:List Ad}(a:∀k,k∉fr→b k=r.γ k):∀(x:AV),GW fr x=false→ren ⟨r.κ,b,r.θ,r.H0,r.no⟩ x=ren r x
 |.ref k g off n,h=>by simp only[GW]at h;simp only[ren];rw[a k (Tu h)]
 |.ptr k g off,h=>by simp only[GW]at h;simp only[ren];rw[a k (Tu h)]
 |.mp k g,h=>by simp only[GW]at h;simp only[ren];rw[a k (Tu h)]
 |.fn f xs ys,h=>by
  simp only[GW,LH]at h
  have c:=MA a xs h.1
  have d:=MA a ys h.2
  cases f<;>simp only[ren,c,d]
 |.agg xs,h=>by simp only[GW]at h;simp only[ren,MA a xs h]
 |.tup xs,h=>by simp only[GW]at h;simp only[ren,MA a xs h]
 |.top,_=>by simp[ren]
 |.d _,_=>by simp[ren]
 |.e0,_=>by simp[ren]
 |.p _,_=>by simp[ren]
 |.iptr _ _,_=>by simp[ren]
 |.ifc _ _ _,_=>by simp[ren]
theorem MA{r:Ren}{b:Ad→Nat}{fr:List Ad}(a:∀k,k∉fr→b k=r.γ k):∀(xs:List AV),HI fr xs=false→Am ⟨r.κ,b,r.θ,r.H0,r.no⟩ xs=Am r xs
 |[],_=>by simp[Am]
 |x::xs,h=>by
  simp only[HI,LH]at h
  simp only[Am,nd a x h.1,MA a xs h.2]
theorem Tu{k:Ad}{fr:List Ad}(h:fr.any (BA k)=false):k∉fr:=fun hm=>by
 have:fr.any (BA k)=true:=YL.2 ⟨k,hm,Cs.2 rfl⟩
 grind
end
def B2:Code→Array Oper
 |.region _ ops _=>ops
 |_=>#[]
def jc:Code→Bool
 |.region _ _ false=>true
 |_=>false
def G0{α:Type}:Nat→List α→List α
 |0,l=>l
 |_+1,[]=>[]
 |n+1,_::l=>G0 n l
def H3{α:Type}:Nat→List α→List α
 |0,_=>[]
 |_+1,[]=>[]
 |n+1,x::l=>x::H3 n l
theorem bv{α:Type}:∀(n:Nat) (l:List α),G0 n l=l.drop n
 |0,l=>rfl
 |n+1,[]=>rfl
 |n+1,x::l=>bv n l
theorem S6{α:Type}:∀(n:Nat) (l:List α),H3 n l=l.take n
 |0,l=>rfl
 |n+1,[]=>rfl
 |n+1,x::l=>by rw[H3,S6 n l];rfl
def LO(P:Program)(n:Nat)(C:Cx)(c:Code)(k:Nat)(τ:St)(Q:Exit→St→Prop):Prop:=
 ∀γ σ a w,C.G γ→RG (C.r γ) C.l C.outs [] τ σ→R C.l n C.B σ a w→wpList P (B2 c) (fun e d w'=>∃b,Is n C (Q e) b∧R C.l n C.B b d w') ((B2 c).toList.drop k) a w
def GX(c:Code)(k:Nat):Option (Option Nat×Operand×List Operand):=
 match Bi (B2 c).toList k with
 |some o=>(match o.guard,o.op with
  |none,.call cl=>(match cl.callee with|.value f=>some (o.dst,f,cl.args.toList)|_=>none)
  |_,_=>none)
 |none=>none
def Fi(C:Cx):List (Ad×Blk)→Prop
 |[]=>True
 |(k,_)::r=>match Nat.beq k.1 1 with|true=>Fi C r|false=>C.no (C.κ k)∧Fi C r
def JA(H:Hp):List Ad→Prop
 |[]=>True
 |k::r=>HZ (H k).cells∧JA H r
def LQ(fr:List Ad)(Aq:List (Ad×Blk)):Bool:=fr.all fun k=>Aq.any fun p=>BA k p.1
def MY(fr:List Ad)(fx:List Nat):Bool:=fr.all fun k=>!(Nat.beq k.1 0&&fx.any (Nat.beq k.2))
def H2:List (Ad×Blk)→Bool
 |[]=>true
 |(_,b)::r=>Nat.beq b.g 0&&H2 r
def kI:Option Nat→(Nat→AV)→AV→Nat→AV
 |some d,s,v=>upd s d v
 |none,s,_=>s
def Ni(n:Nat):Option Nat→Bool
 |some d=>Nat.ble (d+1) n
 |none=>true
section
variable {P:Program} {T:Nat→Option TI} {n:Nat} {C:Cx} {τ:St} {Q:Exit→St→Prop}
theorem ZoX{c:Code}(b:jc c=true)(h:LO P n C c 0 τ Q):LW P n C c τ Q:=by
 cases c with
 |region id ops d=>
  cases d with
  |true=>cases b
  |false=>
   obtain⟨i,rfl⟩:∃l:List Oper,ops=l.toArray:=⟨ops.toList,by simp⟩
   intro γ σ g e a w f
   have:=h γ σ a w g e f
   simp only[B2,IH]at this
   exact wp_region_lit this
 |_=>cases b
theorem wu(d:CxOk C)(A:A9 P T){os:Nat}{fx:List Nat}(y:C.outs=os)(v:C.fx=fx){c:Code}{k:Nat}(m:Nat)(a:AT)(lf:Lf)(q:Ren→(St→Prop)→Prop)
  (E:∀r Φ,A8 r os a τ (fun τ a=>FU P T C.l n r ((B2 c).toList.map (·.dst)) (H3 m (G0 k (B2 c).toList)) [] a (fun τ' env f=>A8 r os f (DA env τ') (fun τ _=>D5 fx lf τ Φ)) τ)=q r Φ)
  (h:∀r,r.θ=C.θ→r.H0=C.H0→r.κ=C.κ→r.no=C.no→q r (fun τ'=>LO P n C c (k+m) τ' Q)):LO P n C c k τ Q:=by
 subst y
 subst v
 intro γ σ g w D x z
 have o:=h (C.r γ) rfl rfl rfl rfl
 rw[←E]at o
 obtain⟨R,p,N,u,i,j⟩:=Ck (n:=n) d a o x
 have e:(B2 c).toList.drop k=H3 m (G0 k (B2 c).toList)++(B2 c).toList.drop (k+m):=by
  rw[S6,bv,←N1,JN]
 rw[e]
 refine MD (d.ren γ) A (B:=C.B) _ (fun τ' l f U b w' J K L=>?_) _ [] p R N g w u i (j _ _ z)
 obtain⟨V,s,t⟩:=O1 (n:=n) K
 obtain⟨X,S,W,f1,f2,f3⟩:=Ck (n:=n) d f J s
 obtain⟨M,Y,O,F,G,H,I⟩:=HD (n:=n) d f1 D f2
 exact G M O b w' F H (I _ _ (f3 _ _ (t _ _ L)))
theorem wz(b:CxOk C)(A:A9 P T){os:Nat}{fx:List Nat}(y:C.outs=os)(v:C.fx=fx){c:Code}{k:Nat}(a:AT)(lf:Lf)(q:Ren→(Exit→St→Prop)→Prop)
  (E:∀r Φ,A8 r os a τ (fun τ a=>FU P T C.l n r ((B2 c).toList.map (·.dst)) (G0 k (B2 c).toList) [] a (fun τ' env d=>A8 r os d (DA env τ') (fun τ _=>D5 fx lf τ (Φ .normal))) τ)=q r Φ)
  (h:∀r,r.θ=C.θ→r.H0=C.H0→r.κ=C.κ→r.no=C.no→q r Q):LO P n C c k τ Q:=by
 subst y
 subst v
 intro γ σ f w D x z
 have m:=h (C.r γ) rfl rfl rfl rfl
 rw[←E]at m
 obtain⟨O,p,N,u,g,i⟩:=Ck (n:=n) b a m x
 have e:(B2 c).toList.drop k=G0 k (B2 c).toList++[]:=by rw[bv,N0]
 rw[e]
 refine MD (b.ren γ) A (B:=C.B) _ (fun τ' l d U j w' J K L=>?_) _ [] p O N f w u g (i _ _ z)
 obtain⟨V,s,t⟩:=O1 (n:=n) K
 obtain⟨X,S,W,f1,f2,f3⟩:=Ck (n:=n) b d J s
 obtain⟨M,R,o,F,G,H,I⟩:=HD (n:=n) b f1 D f2
 unfold wpList
 exact⟨o,⟨M,R,o,F,G,H,Wk.refl _⟩,I _ _ (f3 _ _ (t _ _ L))⟩
theorem Ta:∀{hs:List (Ad×Blk)},H2 hs=true→∀k,(AA hs k).g=0
 |[],_,k=>rfl
 |(k',b)::r,h,k=>by
  simp only[H2,Yc]at h
  simp only[AA]
  split
  ·exact Yb h.1
  ·exact Ta h.2 k
theorem od{k:Ad}{ks:List Ad}:ks.any (BA k)=true↔k∈ks:=by
 rw[YL]
 exact⟨fun⟨q,a,b⟩=>by rw[Cs.1 b];exact a,fun h=>⟨k,h,Cs.2 rfl⟩⟩
theorem uC(a b:List (Ad×Blk))(k:Ad):AA (a++b) k=if k∈a.map (·.1)then AA a k else AA b k:=by
 induction a with
 |nil=>simp
 |cons p a f=>
  obtain⟨q,d⟩:=p
  simp only[IK,AA,YV,Yu]
  cases c:BA q k with
  |true=>rw[Yj (.inl (Cs.1 c).symm)]
  |false=>
   have:k≠q:=fun e=>by rw[Cs.2 e.symm]at c;cases c
   grind
theorem O2{fr fl:List Ad}:∀(hs:List (Ad×Blk)) (ks:List Ad) (k:Ad),(k∈ks→AA (C2 ks fr fl hs) k=EZ)∧(k∉ks→(AA (C2 ks fr fl hs) k=AA hs k∧(k∈fl∨HI fr (AA hs k).cells=false))∨AA (C2 ks fr fl hs) k=EZ)
 |[],ks,k=>⟨fun _=>rfl,fun _=>.inr rfl⟩
 |(q,b)::r,ks,k=>by
  simp only[C2]
  split
  ·rename_i d a
   have f:q∉ks:=fun hm=>by rw[od.2 hm]at d;cases d
   simp only[AA]
   cases c:BA q k with
   |true=>
    have c:=Cs.1 c
    subst c
    refine⟨fun h=>absurd h f,fun _=>.inl ⟨rfl,?_⟩⟩
    simp only[YG,YU]at a
    rcases a with a|a
    ·exact .inl (od.1 a)
    grind
   |false=>exact O2 r ks k
  ·obtain⟨d,a⟩:=O2 (fr:=fr) (fl:=fl) r (q::ks) k
   refine⟨fun h=>d (Yw _ h),fun h=>?_⟩
   by_cases c:k=q
   ·grind
   ·rcases a (fun hm=>(Yu.1 hm).elim c h)with⟨i,j⟩|e
    ·have:BA q k=false:=by
      cases g:BA q k with
      |true=>exact absurd (Cs.1 g).symm c
      |false=>rfl
     simp only[AA,this]
     grind
    grind
theorem SZ{r:Ren}:∀(Aq:List (Ad×Blk)) (H:Hp) (q:Ad),(∀p∈Aq,r.κ p.1≠q)→De r Aq H q=H q
 |[],H,q,h=>rfl
 |(k,b)::a,H,q,h=>by
  simp only[De]
  rw[SZ a _ q (fun p c=>h p (Yw _ c)),AC _ _ (fun e=>h (k,b) (Yv ..) e.symm)]
theorem n6{r:Ren}{os:Nat}(d:∀q k:Ad,BB os q=true→BB os k=true→q≠k→r.κ q≠r.κ k):∀(Aq:List (Ad×Blk)) (H:Hp),DF os Aq=true→∀k b,(k,b)∈Aq→De r Aq H (r.κ k)=AG r k b∧AA Aq k=b∧BB os k=true∧b.live=true
 |[],H,_,k,b,hm=>by cases hm
 |(q,c)::rest,H,g,k,b,hm=>by
  simp only[DF,Yc,YU]at g
  obtain⟨⟨⟨i,u⟩,j⟩,m⟩:=g
  have f:∀p∈rest,p.1≠q:=fun p a e=>by
   have:(rest.any fun p=>BA q p.1)=true:=YL.2 ⟨p,a,Cs.2 e.symm⟩
   rw[this]at j;cases j
  have h:∀(l:List (Ad×Blk)),DF os l=true→∀p∈l,BB os p.1=true:=by
   intro l
   induction l with
   |nil=>intro _ p a;cases a
   |cons p l w=>
    obtain⟨x,y⟩:=p
    intro hl p a
    simp only[DF,Yc]at hl
    rcases Yu.1 a with rfl|a
    ·exact hl.1.1.1
    ·exact w hl.2 p a
  simp only[De]
  rcases Yu.1 hm with e|hm
  ·cases e
   refine⟨?_,by simp only[AA,Cs.2 rfl],i,u⟩
   rw[SZ rest _ _ (fun p a=>d _ _ (h rest m p a) i (f p a)),AO]
  ·obtain⟨n,o,s,t⟩:=n6 d rest (updH H (r.κ q) (AG r q c)) m k b hm
   refine⟨n,?_,s,t⟩
   have:BA q k=false:=by
    cases v:BA q k with
    |true=>exact absurd (Cs.1 v).symm (f _ hm)
    |false=>rfl
   simp only[AA,this]
   exact o
theorem dc:∀{Aq:List (Ad×Blk)},Fi C Aq→∀p∈Aq,p.1.1≠1→C.no (C.κ p.1)
 |(k,b)::r,h,p,c,a=>by
  simp only[Fi]at h
  split at h
  ·rename_i d
   rcases Yu.1 c with rfl|c
   ·exact absurd (Yb d) a
   ·exact dc h p c a
  ·rcases Yu.1 c with rfl|c
   ·exact h.1
   ·exact dc h.2 p c a
theorem cR{H:Hp}:∀{ks:List Ad},JA H ks→∀k∈ks,HZ (H k).cells
 |q::r,h,k,a=>by
  rcases Yu.1 a with rfl|a
  ·exact h.1
  ·exact cR h.2 k a
theorem Gm{os:Nat}{k:Ad}(h:BB os k=true):k.1=1∨(k.1=0∧k.2<os):=by
 simp only[BB,YG,Yc]at h
 rcases h with h|⟨a,b⟩
 ·exact .inl (Yb h)
 ·exact .inr ⟨Yb a,Yg b⟩
theorem nZ{fr:List Ad}:∀(ss:List (Nat×AV)) (j:Nat),Ax (D4 fr ss) j=.top∨(Ax (D4 fr ss) j=Ax ss j∧GW fr (Ax ss j)=false)
 |[],j=>.inl rfl
 |(i,x)::r,j=>by
  simp only[D4,Ax]
  split
  ·grind
  ·exact nZ r j
theorem Zva(hC:CxOk C){os:Nat}{fx:List Nat}(hO:C.outs=os)(hF:C.fx=fx){c:Code}{k:Nat}{ss:List (Nat×AV)}{hs:List (Ad×Blk)}(l:Option Nat)(fo:Operand)(aZ:List Operand)(m:GX c k=some (l,fo,aZ))
  (f:FuncId) (first u xs:List AV) (hf:ev (Ax ss) fo=.fn (.func f) first u) (hxs:first++aZ.map (ev (Ax ss))++u=xs) (ks:List Ad) (J:List (Ad×Blk)) (hhb:(ks.map fun k=>(k,AA hs k))=J)
  {ι:Type} (I:ι→Prop) (xF:ι→AV) (s:ι→List (Ad×Blk)) (fr fl:List Ad) (M:(MY fr fx&&H2 hs&&Ni n l&&ks.all (BB os))=true) (t:∀i,(DF os (s i)&&LQ fr (s i))=true) (H:∀i,Fi C (s i)) (hfl:JA (AA hs) fl)
  (T:∀r:Ren,r.θ=C.θ→r.H0=C.H0→r.κ=C.κ→r.no=C.no→∀V,(∀p∈J,(V (r.κ p.1)).g=r.γ p.1+p.2.g∧(p.2.live=true→V (r.κ p.1)=AG r p.1 p.2))→(∀k:Ad,k.1≤C.l→¬r.no k→V k=r.H0 k)→
   ZcG P f (C.l+1) (Am r xs) V (fun y W=>∃i,I i∧∃a:Ad→Nat,(∀k,k∉fr→a k=r.γ k)∧y=ren ⟨r.κ,a,r.θ,r.H0,r.no⟩ (xF i)∧W=De ⟨r.κ,a,r.θ,r.H0,r.no⟩ (s i) V))
  (h:∀i,I i→LO P n C c (k+1) (Ac (He l (xF i) (D4 fr ss)) (s i++C2 ((s i).map (·.1)) fr fl hs)) Q):LO P n C c k (Ac ss hs) Q:=by
 subst hO
 subst hF
 simp only[Yc]at M
 obtain⟨⟨⟨k3,k4⟩,k5⟩,k6⟩:=M
 intro γ σ act w hg z hR
 have hr:=hC.ren γ
 have hs':∀j,σ.s j=ren (C.r γ) (Ax ss j):=fun j=>(z.s j).1 A7
 have A:∀y:Operand,ev σ.s y=ren (C.r γ) (ev (Ax ss) y):=fun y=>KM (c:=[]) z A7 (by cases y<;>rfl)
 unfold GX at m
 split at m
 case h_2=>cases m
 rename_i o ho
 split at m
 case h_2=>cases m
 rename_i cl hgd hopc
 split at m
 case h_2=>cases m
 rename_i fo' hcal
 simp only[Yi,GO]at m
 obtain⟨hd,rfl,rfl⟩:=m
 rw[Co]at ho
 have hlt:k<(B2 c).toList.length:=by
  grind
 have U:(B2 c).toList.drop k=o::(B2 c).toList.drop (k+1):=by
  rw[Hw hlt]
  grind
 rw[U]
 have L:∀q k:Ad,BB C.outs q=true→BB C.outs k=true→q≠k→(C.r γ).κ q≠(C.r γ).κ k:=fun q k Z h2 h3=>hr.ne (Gm Z) (Gm h2) h3
 have hA:=T (C.r γ) rfl rfl rfl rfl σ.H (fun p E=>by
  rw[←hhb]at E
  obtain⟨q,g,rfl⟩:=YR.1 E
  have hq':=Gm (Yq.1 k6 q g)
  refine⟨?_,fun hl=>z.h q hl⟩
  obtain⟨q1,q2⟩:=q
  simp only at hq'
  rcases hq' with rfl|⟨rfl,h2⟩
  ·have:=z.g q2
   rw[←hr.own]at this
   exact this
  ·exact z.go q2 h2) z.o
 have S:Am (C.r γ) xs=Am (C.r γ) first++cl.args.toList.map (ev σ.s)++Am (C.r γ) u:=by
  rw[←hxs,GV,GV]
  congr 2
  rw[Fx,Hs]
  exact Y1 fun y _=>(A y).symm
 have hfe:ev σ.s fo'=.fn (.func f) (Am (C.r γ) first) (Am (C.r γ) u):=by rw[A,hf];simp[ren]
 have hrop:Bx P C.l n o (fun σ'=>∃i,I i∧∃a:Ad→Nat,(∀q,q∉fr→a q=γ q)∧σ'=⟨kI l σ.s (ren (C.r a) (xF i)),De (C.r a) (s i) σ.H⟩) σ:=by
  unfold Bx
  rw[hopc]
  simp only[hcal,hfe]
  rw[S]at hA
  refine hA.mono fun y W ⟨i,hi,a,N,e2,e3⟩=>?_
  unfold Ow CC
  rw[hd]
  cases l with
  |none=>exact⟨i,hi,a,N,by rw[e3];rfl⟩
  |some d=>exact⟨Yg k5,i,hi,a,N,by rw[e2,e3];rfl⟩
 refine aa (by simp[Region.wanted,hgd]) (Kn hrop) hR fun σ' Y w' hK O=>?_
 obtain⟨i,hi,a,N,rfl⟩:=hK
 have h:=h i hi
 have H:=H i
 have t:=t i
 generalize s i=Aq at h H t O
 generalize xF i=x at h O
 simp only[Yc]at t
 obtain⟨k1,k2⟩:=t
 have hsub:∀q,q∈fr→∃b,(q,b)∈Aq:=fun q g=>by
  obtain⟨p,E,hk⟩:=YL.1 (Yq.1 k2 q g)
  rw[Cs.1 hk];exact⟨p.2,E⟩
 let τ2:St:=Ac (He l x (D4 fr ss)) (Aq++C2 (Aq.map (·.1)) fr fl hs)
 have D:∀q,AA (Aq++C2 (Aq.map (·.1)) fr fl hs) q=if q∈Aq.map (·.1)then AA Aq q else AA (C2 (Aq.map (·.1)) fr fl hs) q:=fun q=>uC _ _ _
 have hin:∀q,q∈Aq.map (·.1)→∃b,(q,b)∈Aq:=fun q g=>by obtain⟨p,E,rfl⟩:=YR.1 g;exact⟨p.2,E⟩
 have F:∀q b,(q,b)∈Aq→De (C.r a) Aq σ.H ((C.r a).κ q)=AG (C.r a) q b∧AA Aq q=b∧BB C.outs q=true∧b.live=true:=n6 (r:=C.r a) L Aq σ.H k1
 have B:∀q,q∉Aq.map (·.1)→BB C.outs q=true→De (C.r a) Aq σ.H ((C.r a).κ q)=σ.H ((C.r a).κ q)∧a q=γ q:=fun q g v=>by
  refine⟨SZ _ _ _ fun p E=>L _ _ (F p.1 p.2 E).2.2.1 v fun e=>g (YR.2 ⟨p,E,e⟩),N q fun hf=>?_⟩
  grind
 have K:∀q,BB C.outs q=true→(σ.H (C.κ q)).g=γ q→(De (C.r a) Aq σ.H (C.κ q)).g=a q+(AA (Aq++C2 (Aq.map (·.1)) fr fl hs) q).g:=fun q v hq0=>by
  rw[D]
  split
  ·rename_i hm
   obtain⟨b,J⟩:=hin q hm
   obtain⟨a1,X,_⟩:=F q b J
   rw[show C.κ q=(C.r a).κ q from rfl,a1,X]
   rfl
  ·rename_i hm
   obtain⟨a1,X⟩:=B q hm v
   rw[show C.κ q=(C.r a).κ q from rfl,a1,X]
   have:(AA (C2 (Aq.map (·.1)) fr fl hs) q).g=0:=by
    rcases(O2 (fr:=fr) (fl:=fl) hs (Aq.map (·.1)) q).2 hm with⟨e,_⟩|e
    ·rw[e];exact Ta k4 q
    ·rw[e];rfl
   rw[this]
   exact hq0
 have hG2:RG (C.r a) C.l C.outs [] τ2 ⟨fun j=>ren (C.r a) (τ2.s j),De (C.r a) Aq σ.H⟩:=by
  refine⟨fun j=>⟨fun _=>rfl,fun hn=>absurd A7 hn⟩,fun q g=>?_,fun d=>?_,fun i hi=>?_,fun q g=>?_,fun q g hn=>?_⟩
  ·show De (C.r a) Aq σ.H ((C.r a).κ q)=AG (C.r a) q (AA (Aq++C2 (Aq.map (·.1)) fr fl hs) q)
   replace g:(AA (Aq++C2 (Aq.map (·.1)) fr fl hs) q).live=true:=g
   rw[D]at g⊢
   split at g
   ·grind
   ·rename_i hm
    rw[Yh hm]
    rcases(O2 (fr:=fr) (fl:=fl) hs (Aq.map (·.1)) q).2 hm with⟨e,e'⟩|e
    ·rw[e]at g⊢
     have v:=z.k q g
     have t:BB C.outs q=true:=by
      obtain⟨q1,q2⟩:=q
      simp only at v
      simp only[BB,YG,Yc]
      rcases v with rfl|⟨rfl,h2⟩
      ·exact .inl rfl
      ·exact .inr ⟨rfl,fQ h2⟩
     obtain⟨a1,X⟩:=B q hm t
     rw[a1]
     have J:=z.h q g
     have G:Am (C.r a) (AA hs q).cells=Am (C.r γ) (AA hs q).cells:=by
      rcases e' with e'|e'
      ·rw[IS (cR hfl q e'),IS (cR hfl q e')]
      ·exact MA (r:=C.r γ) N _ e'
     show σ.H ((C.r γ).κ q)=_
     rw[J]
     simp only[AG]
     rw[G,show(C.r a).γ q=a q from rfl,X]
     rfl
    ·rw[e]at g;cases g
  ·have:=K (1,d) rfl (by
    have:=z.g d
    rw[show((Ac ss hs).H (1,d)).g=0 from Ta k4 _]at this
    rw[hC.own];exact this)
   rw[hC.own]at this
   exact this
  ·exact K (0,i) (by simp only[BB,YG,Yc];exact .inr ⟨rfl,fQ hi⟩) (by
    have:=z.go i hi
    rw[show((Ac ss hs).H (0,i)).g=0 from Ta k4 _]at this
    exact this)
  ·replace g:(AA (Aq++C2 (Aq.map (·.1)) fr fl hs) q).live=true:=g
   rw[D]at g
   split at g
   ·rename_i hm
    obtain⟨b,J⟩:=hin q hm
    exact Gm (F q b J).2.2.1
   ·rename_i hm
    rcases(O2 (fr:=fr) (fl:=fl) hs (Aq.map (·.1)) q).2 hm with⟨e,e'⟩|e
    ·rw[e]at g;exact z.k q g
    ·rw[e]at g;cases g
  ·show De (C.r a) Aq σ.H q=C.H0 q
   rw[SZ _ _ _ fun p E e=>?_]
   ·exact z.o q g hn
   ·by_cases Z:p.1.1=1
    ·obtain⟨⟨p1,p2⟩,p3⟩:=p
     simp only at Z
     subst Z
     rw[show(C.r a).κ (1,p2)=(C.l+1,p2)from hC.own p2]at e
     grind
    ·exact hn (by rw[←e];exact dc H p E Z)
 refine h a _ Y w' (hC.G γ a (fun i hi=>N _ fun hm=>?_) hg) hG2 (R.weaken O fun j=>?_)
 ·have:=Yq.1 k3 _ hm
  simp only[YU,LG]at this
  rcases this with h|h
  ·cases h
  ·have:(C.fx.any (Nat.beq i))=true:=YL.2 ⟨i,hi,by simp⟩
   grind
 ·have old:ren (C.r a) (Ax (D4 fr ss) j)=σ.s j∨ren (C.r a) (Ax (D4 fr ss) j)=.top:=by
   rcases nZ (fr:=fr) ss j with e|⟨e,e'⟩
   ·right;rw[e];simp[ren]
   ·left
    rw[e,hs' j]
    exact nd (r:=C.r γ) N _ e'
  show ren (C.r a) (Ax (He l x (D4 fr ss)) j)=_∨ren (C.r a) (Ax (He l x (D4 fr ss)) j)=.top
  cases l with
  |none=>exact old
  |some d=>
   simp only[He,Ax,kI,upd]
   cases hj:Nat.beq d j with
   |true=>
    have:=Yb hj
    grind
   |false=>
    have:j≠d:=fun e=>by rw[e]at hj;simp at hj
    grind
theorem uL(D:CxOk C){os:Nat}{fx:List Nat}(F:C.outs=os)(E:C.fx=fx){c:Code}{k:Nat}{ss:List (Nat×AV)}{hs:List (Ad×Blk)}(e:Option Nat)(l:Operand)(j:List Operand)(q:GX c k=some (e,l,j))
  (f:FuncId) (first d xs:List AV) (G:ev (Ax ss) l=.fn (.func f) first d) (t:first++j.map (ev (Ax ss))++d=xs) (ks:List Ad) (m:List (Ad×Blk)) (p:(ks.map fun k=>(k,AA hs k))=m)
  (x:AV) (Aq:List (Ad×Blk)) (fr fl:List Ad) (i:(DF os Aq&&LQ fr Aq&&MY fr fx&&H2 hs&&Ni n e&&ks.all (BB os))=true) (s:Fi C Aq) (o:JA (AA hs) fl)
  (g:∀r:Ren,r.θ=C.θ→r.H0=C.H0→r.κ=C.κ→r.no=C.no→HW P C.l r f xs m x Aq fr)
  (h:LO P n C c (k+1) (Ac (He e x (D4 fr ss)) (Aq++C2 (Aq.map (·.1)) fr fl hs)) Q):LO P n C c k (Ac ss hs) Q:=by
 simp only[Yc]at i
 obtain⟨⟨⟨⟨⟨I,J⟩,K⟩,L⟩,M⟩,N⟩:=i
 exact Zva D F E e l j q f first d xs G t ks m p (ι:=Unit) (fun _=>True) (fun _=>x) (fun _=>Aq) fr fl (by simp only[Yc];exact⟨⟨⟨K,L⟩,M⟩,N⟩) (fun _=>by simp only[Yc];exact⟨I,J⟩) (fun _=>s) o
  (fun r w z A B u a b=>(g r w z A B u a b).mono fun y v H=>⟨(),trivial,H⟩) fun _ _=>h
end
def DX(l:Nat)(ks:List Ad):Ad→Ad
 |(0,i)=>match Bi ks i with|some k=>k|none=>(0,0)
 |(_+1,d)=>(l+1,d)
def Hk(a:List Nat):Ad→Nat
 |(0,i)=>match Bi a i with|some g=>g|none=>0
 |(_+1,_)=>0
def Cr(l:Nat)(ks:List Ad)(a:List Nat)(θ:Nat→AV)(H:Hp):Ren:=⟨DX l ks,Hk a,θ,H,fun k=>k∈ks⟩
def IF(l:Nat)(ks:List Ad)(a:List Nat)(r:Ren):Prop:=r.κ=DX l ks∧∀i,i<ks.length→r.γ (0,i)=Hk a (0,i)
def CR(r:Ren):Nat→List Blk→List Blk
 |_,[]=>[]
 |i,b::a=>AG r (0,i) b::CR r (i+1) a
def DB(H:Hp):List Ad→List Blk→Hp
 |k::ks,b::a=>DB (updH H k b) ks a
 |_,_=>H
theorem aO:∀(ks:List Ad) (a:List Blk) (H:Hp) (q:Ad),q∉ks→DB H ks a q=H q
 |[],a,H,q,h=>by cases a<;>rfl
 |k::ks,[],H,q,h=>rfl
 |k::ks,b::a,H,q,h=>by
  simp only[DB]
  rw[aO ks a _ q (fun hm=>h (Yw _ hm)),AC _ _ (fun e=>h (by rw[e];exact Yv ..))]
theorem pU:∀(ks:List Ad) (a:List Blk) (H:Hp),ks.Nodup→∀(j:Nat) (k:Ad) (b:Blk),ks[j]?=some k→a[j]?=some b→DB H ks a k=b
 |[],a,H,_,j,k,b,h,_=>by simp at h
 |q::ks,[],H,_,_,_,_,_,h=>by simp at h
 |q::ks,c::a,H,e,j,k,b,d,hb=>by
  simp only[DB]
  rw[List.nodup_cons]at e
  cases j with
  |zero=>
   simp only[FZ,Yi]at d hb
   subst d;subst hb
   rw[aO ks a _ _ e.1,AO]
  |succ j=>
   simp only[LD]at d hb
   exact pU ks a _ e.2 j k b d hb
theorem n5{r:Ren}:∀(a:List Blk) (i j:Nat),(CR r i a)[j]?=(a[j]?).map (AG r (0,i+j))
 |[],i,j=>by simp[CR]
 |b::a,i,0=>by simp[CR]
 |b::a,i,j+1=>by
  simp only[CR,LD,n5 a (i+1) j,show i+1+j=i+(j+1)from by omega]
theorem mY{P:Program}{T:Nat→Option TI}{n:Nat}{f:FuncId}{fn:Func}(J:List ResultVar)(c:Code){l:Nat}{xs:List AV}{H:Hp}{g:AV→Hp→Prop}(ks:List Ad)(t:List Nat)(fx:List Nat)(θ:Nat→AV)(ys:List AV)(hs:List (Ad×Blk))(LPost:AV→List Blk→Prop)
  (V:P.funcs[f]?=some fn) (hb:fn.body=some c) (s:(fn.name== "runtime.NumGoroutine")=false) (Z:fn.ntmps=n) (hr:fn.results.toList=J) (hx:xs.length≤n) (S:A9 P T)
  (D:∀k∈ks,k.1≤l) (u:ks.Nodup) (W:∀d,AA hs (1,d)=EZ) (F:∀k,(AA hs k).live=true→k.1=0∧k.2<ks.length)
  (R:∀i k,ks[i]?=some k→(H k).g=Hk t (0,i)+(AA hs (0,i)).g∧((AA hs (0,i)).live=true→H k=AG (Cr l ks t θ H) (0,i) (AA hs (0,i))))
  (I:Am (Cr l ks t θ H) ys=xs)
  (h:∀C,CxOk C→C.outs=ks.length→C.fx=fx→C.l=l→C.H0=H→C.θ=θ→C.κ=DX l ks→C.no=(fun k=>k∈ks)→LW P n C c (Ac (DG 0 ys) hs) (FQ T J ks.length LPost))
  (v:∀y b,LPost y b→b.length=ks.length∧(∀x∈b,x.live=true)∧∀r:Ren,r.κ=DX l ks→r.θ=θ→r.H0=H→r.no=(fun k=>k∈ks)→(∀i∈fx,r.γ (0,i)=Hk t (0,i))→g (ren r y) (DB H ks (CR r 0 b))):ZcG P f l xs H g:=by
 let C:Base→Cx:=fun B=>⟨l,B,DX l ks,θ,H,ks.length,fun k=>k∈ks,fx,fun γ=>∀i∈fx,γ (0,i)=Hk t (0,i)⟩
 have a:∀i,i<ks.length→ks[i]?=some (DX l ks (0,i)):=fun i hi=>by
  show _=some (match Bi ks i with|some k=>k|none=>(0,0))
  rw[Co,Ya hi]
 have E:∀(i:Nat) (k:Ad),ks[i]?=some k→i<ks.length:=fun i k hi=>by
  grind
 have K:∀B,CxOk (C B):=fun B=>by
  refine⟨fun _=>rfl,fun i hi=>D _ (Yk (a i hi)),fun i j hi Y e=>?_,fun k w=>?_,fun γ γ' he A i hi=>by rw[he i hi];exact A i hi⟩
  ·have m:=a i hi
   have o:=a j Y
   rw[show DX l ks (0,i)=DX l ks (0,j)from e]at m
   have Q:ks[i]?=ks[j]?:=m.trans o.symm
   exact(List.getElem?_inj hi u).1 Q
  ·obtain⟨i,hi⟩:=YH.1 (show k∈ks from w)
   grind
 refine oF J C (γ:=Hk t) (LPost:=LPost) (ys:=ys) (hs:=hs) V hb s Z hr hx S K (fun B=>⟨rfl,rfl,rfl,fun i _=>rfl⟩) (fun B=>I) (fun _=>rfl) W (fun B k w=>?_) (fun B i hi=>?_) (fun B γ y b N A hy L _=>?_) (fun B=>h _ (K B) rfl rfl rfl rfl rfl rfl rfl)
 ·obtain⟨m,o⟩:=F k w
  obtain⟨k1,M⟩:=k
  simp only at m o
  subst m
  exact⟨rfl,o,(R M _ (a M o)).2 w⟩
 ·grind
 ·obtain⟨U,z,v⟩:=v y b hy
  have v:=v ((C B).r γ) rfl rfl rfl rfl fun i hi=>A i hi
  have O:N=DB H ks (CR ((C B).r γ) 0 b):=by
   funext q
   by_cases G:q∈ks
   ·obtain⟨i,hi⟩:=YH.1 G
    have X:=E i q hi
    have p:b[i]?=some b[i]:=Ya (by omega)
    have m:=L.live i _ p (z _ (Yk p))
    have o:DX l ks (0,i)=q:=by
     grind
    rw[show(C B).κ (0,i)=q from o]at m
    rw[m,pU ks _ H u i q (AG ((C B).r γ) (0,i) b[i]) hi]
    rw[n5,p,YQ]
    rfl
   ·rw[aO ks _ H q G]
    exact L.o q G
  rw[O];exact v
theorem Zmf{P:Program}{T:Nat→Option TI}{n:Nat}{f:FuncId}{fn:Func}(w:List ResultVar)(c:Code){l:Nat}{xs:List AV}{H:Hp}{a:AV→Hp→Prop}(ks:List Ad)(e:List Nat)(fx:List Nat)(θ:Nat→AV)(ys:List AV)(hs:List (Ad×Blk))(LPost:AV→List Blk→Prop)
  (G:P.funcs[f]?=some fn) (hb:fn.body=some c) (g:(fn.name== "runtime.NumGoroutine")=false) (J:fn.ntmps=n) (K:fn.results.toList=w) (hx:xs.length≤n) (E:A9 P T)
  (q:∀k∈ks,k.1≤l) (t:ks.Nodup) (p:∀i,i<ks.length→i∈fx) (I:∀d,AA hs (1,d)=EZ) (s:∀k,(AA hs k).live=true→k.1=0∧k.2<ks.length)
  (D:∀i k,ks[i]?=some k→(H k).g=Hk e (0,i)+(AA hs (0,i)).g∧((AA hs (0,i)).live=true→H k=AG (Cr l ks e θ H) (0,i) (AA hs (0,i))))
  (v:Am (Cr l ks e θ H) ys=xs)
  (h:∀C,CxOk C→C.outs=ks.length→C.fx=fx→C.l=l→C.H0=H→C.θ=θ→C.κ=DX l ks→C.no=(fun k=>k∈ks)→LW P n C c (Ac (DG 0 ys) hs) (FQ T w ks.length LPost))
  (u:∀y b,LPost y b→b.length=ks.length∧(∀x∈b,x.live=true)∧∃Y' bs',(∀r,IF l ks e r→ren r y=Y')∧(∀r,IF l ks e r→CR r 0 b=bs')∧a Y' (DB H ks bs')):ZcG P f l xs H a:=by
 refine mY w c ks e fx θ ys hs LPost G hb g J K hx E q t I s D v h fun y b hy=>?_
 obtain⟨m,o,Y',bs',F,B,u⟩:=u y b hy
 refine⟨m,o,fun r z _ _ _ A=>?_⟩
 have j:IF l ks e r:=⟨z,fun i hi=>A i (p i hi)⟩
 rw[F _ j,B _ j];exact u
theorem ZpE{P:Program}{T:Nat→Option TI}{n:Nat}{f:FuncId}{fn:Func}(v:List ResultVar)(c:Code){l:Nat}{xs:List AV}{H:Hp}{a:AV→Hp→Prop}(ks:List Ad)(g:List Nat)(fx:List Nat)(θ:Nat→AV)(ys:List AV)(hs:List (Ad×Blk))(Y:AV)(j:List Blk){Y':AV}{bs':List Blk}
  (E:P.funcs[f]?=some fn) (hb:fn.body=some c) (e:(fn.name== "runtime.NumGoroutine")=false) (G:fn.ntmps=n) (J:fn.results.toList=v) (hx:xs.length≤n) (B:A9 P T)
  (q:∀k∈ks,k.1≤l) (t:ks.Nodup) (p:∀i,i<ks.length→i∈fx) (F:∀d,AA hs (1,d)=EZ) (s:∀k,(AA hs k).live=true→k.1=0∧k.2<ks.length)
  (A:∀i k,ks[i]?=some k→(H k).g=Hk g (0,i)+(AA hs (0,i)).g∧((AA hs (0,i)).live=true→H k=AG (Cr l ks g θ H) (0,i) (AA hs (0,i))))
  (u:Am (Cr l ks g θ H) ys=xs) (m:j.length=ks.length) (o:∀b∈j,b.live=true) (D:∀r,IF l ks g r→ren r Y=Y') (z:∀r,IF l ks g r→CR r 0 j=bs')
  (h:∀C,CxOk C→C.outs=ks.length→C.fx=fx→C.l=l→C.H0=H→C.θ=θ→C.κ=DX l ks→C.no=(fun k=>k∈ks)→LW P n C c (Ac (DG 0 ys) hs) (FQ T v ks.length (fun y b=>y=Y∧b=j)))
  (I:a Y' (DB H ks bs')):ZcG P f l xs H a:=by
 exact Zmf v c ks g fx θ ys hs (fun y b=>y=Y∧b=j) E hb e G J hx B q t p F s A u h fun y b ⟨w,x⟩=>by subst w;subst x;exact⟨m,o,Y',bs',D,z,I⟩
section
variable {P:Program} {l:Nat} {r:Ren} {f:FuncId} {xs xs':List AV} {hb Aq:List (Ad×Blk)} {x x':AV}
theorem Zwn(e:Am r xs=xs')(g:ren r x=x')(h:∀a,(∀p∈hb,(a (r.κ p.1)).g=r.γ p.1+p.2.g∧(p.2.live=true→a (r.κ p.1)=AG r p.1 p.2))→(∀k:Ad,k.1≤l→¬r.no k→a k=r.H0 k)→ZcG P f (l+1) xs' a (fun y b=>y=x'∧b=De r Aq a)):
  HW P l r f xs hb x Aq []:=fun a hb i=>by
 rw[e]
 exact(h a hb i).mono fun y b ⟨c,d⟩=>⟨r.γ,fun _ _=>rfl,by rw[c,←g],d⟩
end
theorem ZvE{α:Type}{e:α→List D}{r:Ren}{k:Ad}(xs:List α):FS r k (Aa e xs):=by
 unfold FS
 rw[IS (EO e xs)]
 refine Yq.2 fun x hx=>?_
 obtain⟨d,_,rfl⟩:=YR.1 hx
 rfl
theorem uR{r:Ren}{k:Ad}{vs:List AV}(h:(Am r vs).all (AV.low (r.κ k).1)=true):FS r k vs:=h
theorem HP{r:Ren}{k:Ad}(ds:List D):FS r k (ds.map .d):=by
 unfold FS
 rw[HR]
 refine Yq.2 fun x hx=>?_
 obtain⟨d,_,rfl⟩:=YR.1 hx
 rfl
theorem m8{α:Type}(e:α→List D)(xs:List α):FC (Aa e xs):=fun x hx=>by
 obtain⟨d,_,rfl⟩:=YR.1 hx;rfl
theorem ZwR{α:Type}{e:α→List D}{xs:List α}{off cn sz:Nat}{z:List AV}(hl:∀x,(e x).length=sz)(h:off+cn≤xs.length):
  XV (Aa e xs) off cn sz z ((Aa e xs).take (off*sz)++(List.replicate cn z).flatten++(Aa e xs).drop ((off+cn)*sz)):=by
 refine⟨?_,rfl⟩
 rw[HE hl]
 exact Y5 _ h
theorem ZvI{α:Type}{e:α→List D}{xs:List α}{off sz:Nat}{A B:List AV}(hl:∀x,(e x).length=sz)(h:off≤xs.length):∃m,((Aa e xs).take (off*sz)++A++B).take m=Aa e (xs.take off):=by
 refine⟨off*sz,?_⟩
 have a:((Aa e xs).take (off*sz)).length=off*sz:=by
  rw[YP,HE hl]
  exact Fp (Y5 _ h)
 rw[Y8,QJ (by omega),LF (by omega),aR hl]
def In(n:Nat):List (Ad×Blk)→Bool
 |[]=>true
 |(k,_)::r=>Nat.beq k.1 0&&Nat.ble (k.2+1) n&&In n r
theorem ci{n:Nat}:∀{hs:List (Ad×Blk)},In n hs=true→∀k,(AA hs k).live=true→k.1=0∧k.2<n
 |[],_,k,h=>by simp[AA,EZ]at h
 |(q,b)::r,hi,k,h=>by
  simp only[In,Yc]at hi
  simp only[AA]at h
  split at h
  ·rename_i a
   have a:=Cs.1 a
   subst a
   exact⟨Yb hi.1.1,Yg hi.1.2⟩
  ·exact ci hi.2 k h
theorem aH{n:Nat}:∀{hs:List (Ad×Blk)},In n hs=true→∀d,AA hs (1,d)=EZ
 |[],_,d=>rfl
 |(q,b)::r,hi,d=>by
  simp only[In,Yc]at hi
  simp only[AA]
  split
  ·rename_i a
   have a:=Cs.1 a
   subst a
   have:=Yb hi.1.1
   grind
  ·exact aH hi.2 d
def JM(H:Hp)(r:Ren)(hs:List (Ad×Blk)):Nat→List Ad→Prop
 |_,[]=>True
 |i,k::ks=>((H k).g=r.γ (0,i)+(AA hs (0,i)).g∧((AA hs (0,i)).live=true→H k=AG r (0,i) (AA hs (0,i))))∧JM H r hs (i+1) ks
theorem cU{H:Hp}{r:Ren}{hs:List (Ad×Blk)}:∀{ks:List Ad} {i:Nat},JM H r hs i ks→∀j k,ks[j]?=some k→(H k).g=r.γ (0,i+j)+(AA hs (0,i+j)).g∧((AA hs (0,i+j)).live=true→H k=AG r (0,i+j) (AA hs (0,i+j)))
 |[],i,_,j,k,h=>by simp at h
 |q::ks,i,h,0,k,a=>by
  simp only[FZ,Yi]at a
  subst a
  exact h.1
 |q::ks,i,h,j+1,k,a=>by
  have:=cU h.2 j k (by simpa using a)
  grind
def Jx(l:Nat):List Ad→Prop
 |[]=>True
 |k::ks=>k.1≤l∧Jx l ks
theorem Tt{l:Nat}:∀{ks:List Ad},Jx l ks→∀k∈ks,k.1≤l
 |q::ks,h,k,a=>by
  rcases Yu.1 a with rfl|a
  ·exact h.1
  ·exact Tt h.2 k a
def Jd:Nat→List Nat
 |0=>[]
 |n+1=>Jd n++[n]
theorem S9:∀{n i:Nat},i<n→i∈Jd n
 |n+1,i,h=>by
  simp only[Jd,IM,Hz]
  rcases YF i n with a|a
  ·exact .inl (S9 a)
  grind
theorem Zmu{P:Program}{T:Nat→Option TI}{n:Nat}{f:FuncId}{fn:Func}(u:List ResultVar)(c:Code){l:Nat}{xs:List AV}{H:Hp}{a:AV→Hp→Prop}(ks:List Ad)(g:List Nat)(os:Nat)(θ:Nat→AV)(ys:List AV)(hs:List (Ad×Blk))(Y:AV)(e:List Blk){Y':AV}{bs':List Blk}
  (A:P.funcs[f]?=some fn) (hb:fn.body=some c) (d:(fn.name== "runtime.NumGoroutine")=false) (D:fn.ntmps=n) (F:fn.results.toList=u) (hx:xs.length≤n) (x:A9 P T) (s:ks.length=os)
  (p:Jx l ks) (q:ks.Nodup) (j:In os hs=true) (w:JM H (Cr l ks g θ H) hs 0 ks) (t:Am (Cr l ks g θ H) ys=xs) (m:e.length=os) (o:∀b∈e,b.live=true) (z:∀r,IF l ks g r→ren r Y=Y') (v:∀r,IF l ks g r→CR r 0 e=bs')
  (h:∀C,CxOk C→C.outs=os→C.fx=Jd os→C.l=l→C.H0=H→C.θ=θ→C.κ=DX l ks→C.no=(fun k=>k∈ks)→LW P n C c (Ac (DG 0 ys) hs) (FQ T u os (fun y b=>y=Y∧b=e)))
  (E:a Y' (DB H ks bs')):ZcG P f l xs H a:=by
 subst s
 exact ZpE u c ks g (Jd ks.length) θ ys hs Y e A hb d D F hx x (Tt p) q (fun i hi=>S9 hi) (aH j) (ci j) (fun i k B=>by have:=cU w i k B;rw[YQ]at this;exact this) t m o z v h E
theorem ZpA{α:Type}{e e':α→List D}{xs:List α}{j sz:Nat}{x:α}(hx:xs[j]?=some x)(hl:∀x,(e x).length=sz)(he:∀x,e x=e' x):DQ (Aa e xs) (j*sz) ((e' x).map .d):=by
 have a:j<xs.length:=by
  grind
 have:=mW (z:=x) a hl he
 grind
theorem ZzP{P:Program}{l o:Nat}{no b:Ad→Prop}{H j:Hp}{c:AV}{m:List AV}{y:AV}(h:B3 P l no H c m y)(hl:l≤o)(i:∀q:Ad,q.1≤l→¬no q→¬b q)(r:∀q:Ad,q.1≤l→¬no q→j q=H q):B3 P o b j c m y:=by
 obtain⟨f,first,a,e,h⟩:=h
 exact⟨f,first,a,e,fun l' p g s=>h l' p (CP hl g) fun k d n=>by rw[s k (CP d hl) (i k d n),r k d n]⟩
def sk:Code→Operand
 |.cond o _ _=>o
 |_=>.tmp 0
def FF(c:Code)(k:Nat):Option Nat:=match GX c k with|some (d,_,_)=>d|none=>none
def callF(c:Code)(k:Nat):Operand:=match GX c k with|some (_,f,_)=>f|none=>.tmp 0
def G1(c:Code)(k:Nat):List Operand:=match GX c k with|some (_,_,xs)=>xs|none=>[]
theorem oh{P:Program}{n:Nat}{C:Cx}{Q:Exit→St→Prop}(m:CxOk C){os:Nat}{fx:List Nat}(p:C.outs=os)(o:C.fx=fx){c:Code}{k:Nat}{ss:List (Nat×AV)}{hs:List (Ad×Blk)}
  (f:FuncId) (first a xs:List AV) (i:GX c k=some (FF c k,callF c k,G1 c k)) (q:ev (Ax ss) (callF c k)=.fn (.func f) first a) (l:first++(G1 c k).map (ev (Ax ss))++a=xs) (ks:List Ad) (hb:List (Ad×Blk)) (e:(ks.map fun k=>(k,AA hs k))=hb)
  (x:AV) (Aq:List (Ad×Blk)) (fr fl:List Ad) (g:(DF os Aq&&LQ fr Aq&&MY fr fx&&H2 hs&&Ni n (FF c k)&&ks.all (BB os))=true) (j:Fi C Aq) (d:JA (AA hs) fl)
  (b:∀r:Ren,r.θ=C.θ→r.H0=C.H0→r.κ=C.κ→r.no=C.no→HW P C.l r f xs hb x Aq fr)
  (h:LO P n C c (k+1) (Ac (He (FF c k) x (D4 fr ss)) (Aq++C2 (Aq.map (·.1)) fr fl hs)) Q):LO P n C c k (Ac ss hs) Q:=
 uL m p o _ _ _ i f first a xs q l ks hb e x Aq fr fl g j d b h
end Go.Eng
namespace Go.Eng
open Go
set_option linter.all false
end Go.Eng
namespace Go.Eng
set_option linter.all false
open Go Go.RowKit Go.Shelf
theorem p8{α:Type}{e:α→List D}{xs:List α}{l h:Nat}(q:EI l h xs.length):EI l h (xs.map e).length:=by rw[YC];exact q
theorem ZzQ{α:Type}{e:α→List D}{xs:List α}{sz:Nat}(he:∀x,(e x).length=sz):∀d,d∈xs.map e→d.length=sz:=fun d h=>by
 grind
theorem pn{α:Type}{e:α→List D}{xs:List α}{sz l h:Nat}(he:∀x,(e x).length=sz):NL (xs.map e) sz l h (((xs.drop l).take (h-l)).map e):=
 ⟨ZzQ he,by rw[←List.map_drop,←List.map_take]⟩
theorem Zs6{i:Int}{len sz:Nat}(a:0≤i)(h:i<len):L3 i len 0 sz (i.toNat*sz):=⟨a,h,by simp⟩
theorem Zwj{α:Type}{e:α→List D}{xs:List α}{j sz a:Nat}{z y:α}{vs:List D}(b:j<xs.length)(hl:∀x,(e x).length=sz)(g:a+vs.length≤sz)(he:e y=(e (xs.getD j z)).take a++vs++(e (xs.getD j z)).drop (a+vs.length)):
  IG (Aa e xs) (j*sz+a) (vs.map .d) (Aa e (xs.set j y)):=by
 have d:(j+1)*sz≤xs.length*sz:=Y5 _ b
 rw[YY,LJ]at d
 refine⟨by rw[YC,HE hl];omega,?_⟩
 have hx:xs.getD j z=xs[j]:=by rw[Ym,Ya b];rfl
 rw[hx]at he
 have hs:Aa e xs=Aa e (xs.take j)++((e xs[j]).map .d++Aa e (xs.drop (j+1))):=by
  conv=>lhs;rw[←JN j xs,Hw b,Td,HG]
 have c:(Aa e (xs.take j)).length=j*sz:=by rw[HE hl,YP,Fp (by omega)]
 have f:((e xs[j]).map AV.d).length=sz:=by rw[YC,hl]
 rw[hs,List.take_append,LF (by omega:(Aa e (xs.take j)).length≤j*sz+a),c,show j*sz+a-j*sz=a from by omega,QJ (by omega),
  List.drop_append,fI (by rw[c];omega),c,F3,show j*sz+a+(vs.map AV.d).length-j*sz=a+vs.length from by rw[YC];omega,V3 (by omega),
  fv,Yj b,Td,HG,he]
 simp only[EJ,List.map_take,List.map_drop,Y8]
end Go.Eng
namespace Go.Eng
set_option linter.all false
theorem Tf{α:Type}{l:List α}{p:α→Bool}:((match l.findIdx? p with|some k=>(k:Int)|none=>-1)≥0)↔l.any p=true:=by
 rw[YL]
 cases h:l.findIdx? p with
 |none=>
  rw[ft]at h
  constructor
  ·intro e;exact absurd e (by decide)
  ·rintro⟨x,hx,a⟩;rw[h x hx]at a;cases a
 |some k=>
  obtain⟨b,c,_⟩:=QH.1 h
  exact⟨fun _=>⟨l[k],IL b,c⟩,fun _=>Int.natCast_nonneg k⟩
theorem Zuy{α:Type}{e e':α→List D}{xs:List α}{j sz:Nat}{y:α}(a:j<xs.length)(hl:∀x,(e x).length=sz)(he:∀x,e x=e' x):IG (Aa e xs) (j*sz) ((e' y).map .d) (Aa e (xs.set j y)):=by
 rw[←he];exact uF a hl
theorem nF{α:Type}{sz:Nat}{e e':α→List D}{y:α}(C:List AV)(hl:∀x,(e x).length=sz)(he:∀x,e x=e' x):FR sz C (.d (.list [e' y])) 1 (Aa e [y]):=by
 rw[ZuR,he];exact ZuW C (by rw[←he];exact hl y)
theorem tZ{C:List AV}{o n m sz:Nat}{a:List (List D)}(h:n=m)(k:Hr C o m sz a):Hr C o n sz a:=h▸k
theorem uc{α:Type}{e:α→List D}{xs:List α}{n m off sz:Nat}(a:n=m)(h:off≤xs.length)(hl:∀x,(e x).length=sz):n=m∧off*sz≤(Aa e xs).length∧(Aa e xs).drop (off*sz)=Aa e (xs.drop off):=
 ⟨a,by rw[HE hl];exact Y5 _ h,O4 hl xs off⟩
theorem Zzp{α:Type}{e:α→List D}{z:α}{c:List AV}(a:(e z).map .d=c)(m:Nat):(List.replicate m c).flatten=Aa e (List.replicate m z):=by
 subst a
 induction m with
 |zero=>rfl
 |succ m b=>rw[V0,JO,b,V0,HG]
end Go.Eng
namespace Go.Eng
set_option linter.all false
open Go Go.RowKit
section
variable {P:Program} {T:Nat→Option TI} {n:Nat} {C:Cx} {τ:St} {Q:Exit→St→Prop}
theorem tp(f:CxOk C){os:Nat}{fx:List Nat}(k:C.outs=os)(i:C.fx=fx){c:Code}(a:AT)(lf:Lf)(q:Ren→(St→Prop)→Prop)
  (m:∀r Φ,A8 r os a τ (fun τ _=>D5 fx lf τ Φ)=q r Φ) (h:∀r,r.θ=C.θ→r.H0=C.H0→r.κ=C.κ→r.no=C.no→q r (fun τ'=>LW P n C c τ' Q)):LW P n C c τ Q:=by
 subst k
 subst i
 intro γ σ l j
 have e:=h (C.r γ) rfl rfl rfl rfl
 rw[←m]at e
 obtain⟨y,w,x,g,b,d⟩:=Ck (n:=n) f a e j
 obtain⟨u,z,v,o,p,s,t⟩:=HD (n:=n) f g l b
 exact BI.weak (p u v o s) (d.trans t)
end
theorem oQ{s:ByteArray}{i:Int}(a:0≤i)(h:i<s.size):Jw s i ((s.data.toList.getD i.toNat 0).toNat:Int):=by
 have:=ph (s:=s) (i:=i.toNat) (by omega)
 rwa [Int.toNat_of_nonneg a]at this
end Go.Eng
