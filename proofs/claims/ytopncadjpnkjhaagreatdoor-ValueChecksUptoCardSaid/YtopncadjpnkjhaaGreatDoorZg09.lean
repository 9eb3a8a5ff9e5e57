import Derived.Test.YtopncadjpnkjhaaGreatDoorZg08
import Derived.Shelf.Spec.SlicesGrow
import Derived.Test.YtopncadjpnkjhaaGreatDoorZg00
namespace Go.Eng
set_option linter.all false
open Go Go.RowKit
theorem F6{α:Type}(e:α→List D)(x:α)(xs:List α):Ac e (x::xs)=(e x).map .d++Ac e xs:=by simp[Ac]
theorem Mp{α:Type}{e:α→List D}{sz:Nat}(hl:∀x,(e x).length=sz):∀(xs:List α) (j:Nat),(Ac e xs).drop (j*sz)=Ac e (xs.drop j)
 |[],j=>by simp[Ac]
 |x::xs,0=>by simp
 |x::xs,j+1=>by
  have a:((e x).map AV.d).length=sz:=by rw[YD,hl]
  rw[F6,YN,Jt,Lq,←Ln,List.drop_left' a,Mp hl xs j]
  rfl
theorem V8{α:Type}{e:α→List D}{sz:Nat}(hl:∀x,(e x).length=sz):∀(xs:List α) (j:Nat),(Ac e xs).take (j*sz)=Ac e (xs.take j)
 |[],j=>by simp[Ac]
 |x::xs,0=>by simp[Ac]
 |x::xs,j+1=>by
  have a:((e x).map AV.d).length=sz:=by rw[YD,hl]
  rw[F6,List.take_succ_cons,F6,YN,Jt,Lq,List.take_append,a,Nat.add_sub_cancel_left,V8 hl xs j,NO (by omega)]
theorem oZ{α:Type}{xs:List α}{j:Nat}{z:α}(a:j<xs.length):xs.drop j=xs.getD j z::xs.drop (j+1):=by
 rw[Ij a,Yu,Ye a];rfl
theorem mb{α:Type}{e e':α→List D}{xs:List α}{j sz:Nat}{z:α}(a:j<xs.length)(hl:∀x,(e x).length=sz)(he:∀x,e x=e' x):Db (Ac e xs) (j*sz) ((e' (xs.getD j z)).map .d):=by
 unfold Db
 rw[Mp hl,oZ (z:=z) a,F6,he,List.take_left]
theorem ZjN{α:Type}{e e':α→List D}{xs:List α}{j sz o:Nat}{z:α}{c:List AV}(b:j<xs.length)(hl:∀x,(e x).length=sz)(he:∀x,e x=e' x)
  (a:(((e' (xs.getD j z)).map .d).drop o).take c.length=c) (f:o+c.length≤sz):Db (Ac e xs) (j*sz+o) c:=by
 unfold Db
 have d:((e' (xs.getD j z)).map AV.d).length=sz:=by rw[YD,←he,hl]
 rw[←Ln,Mp hl,oZ (z:=z) b,F6,he,be (by omega),Sh (by rw[Ft];omega),a]
theorem uU{α:Type}{e:α→List D}{xs:List α}{j sz:Nat}{y:α}(b:j<xs.length)(hl:∀x,(e x).length=sz):G4 (Ac e xs) (j*sz) ((e y).map .d) (Ac e (xs.set j y)):=by
 have a:((e y).map AV.d).length=sz:=by rw[YD,hl]
 have c:(j+1)*sz≤xs.length*sz:=YX _ b
 rw[YN,Jt]at c
 refine⟨by rw[a,F8 hl];omega,?_⟩
 rw[a,V8 hl,show j*sz+sz=(j+1)*sz from by rw[YN,Jt],Mp hl,bc,Yi b,PV,F6,Ek]
def RS:D→Option Value
 |.int k n=>some (.int k n)
 |.bool b=>some (.bool b)
 |.str s=>some (.string s)
 |.list _=>none
 |.map _ _=>none
theorem wM{w:World}{S:Nat→Prop}{d:D}{u v:Value}(h:RS d=some v)(a:RepD w S d u):u=v:=by
 cases a<;>simp only[RS,Yg]at h<;>first|exact h|cases h
theorem vM{w:World}{S:Nat→Prop}{H:Hp}{m:Mu}{l:Nat}{ds:List D}{V:List Value}{vs:Array Value}(h:ds.map RS=V.map some)(f:IB w S H m l (ds.map .d) vs):vs=V.toArray:=by
 have hl:ds.length=V.length:=by simpa using congrArg List.length h
 apply CC
 apply List.ext_getElem?
 intro i
 obtain⟨b,e⟩:=f
 have b:ds.length=vs.size:=by simpa using b
 rcases Yz i ds.length with hi|hi
 ·have c:vs[i]?=some vs[i]:=Ym (by omega)
  have j:=e i (.d ds[i]) vs[i] (by simp[Ye hi]) c
  have a:=congrArg (fun l=>l[i]?) h
  simp only[YJ,Ye hi,Ye (show i<V.length by omega),YV,Yg]at a
  rw[Yx,c,Ye (show i<V.length by omega)]
  cases j with|d _ _ g=>rw[wM a g]
 grind
end Go.Eng
namespace Go.Eng
set_option linter.all false
open Go Go.RowKit
def CF(r:Ren):List (Ab×Blk)→Hp→Hp
 |[],H=>H
 |(k,b)::a,H=>CF r a (updH H (r.κ k) (AA r k b))
def Gl(P:Program)(l:Nat)(r:Ren)(f:FuncId)(xs:List AV)(d:List (Ab×Blk))(x:AV)(Ao:List (Ab×Blk))(fr:List Ab):Prop:=
 ∀a,(∀p∈d,(a (r.κ p.1)).g=r.γ p.1+p.2.g∧(p.2.live=true→a (r.κ p.1)=AA r p.1 p.2))→(∀k:Ab,k.1≤l→¬r.no k→a k=r.H0 k)→
  Zb8 P f (l+1) (Aj r xs) a (fun y b=>∃c:Ab→Nat,(∀k,k∉fr→c k=r.γ k)∧y=ren ⟨r.κ,c,r.θ,r.H0,r.no⟩ x∧b=CF ⟨r.κ,c,r.θ,r.H0,r.no⟩ Ao a)
mutual
def FA(fr:List Ab):AV→Bool
 |.ref k _ _ _=>fr.any (Bj k)
 |.ptr k _ _=>fr.any (Bj k)
 |.mp k _=>fr.any (Bj k)
 |.fn _ xs ys=>Ga fr xs||Ga fr ys
 |.agg xs=>Ga fr xs
 |.tup xs=>Ga fr xs
 |.top=>false
 |.d _=>false
 |.e0=>false
 |.p _=>false
 |.iptr _ _=>false
 |.ifc _ _ _=>false
def Ga(fr:List Ab):List AV→Bool
 |[]=>false
 |x::xs=>FA fr x||Ga fr xs
end
def Dn(fr:List Ab):List (Nat×AV)→List (Nat×AV)
 |[]=>[]
 |(j,x)::r=>(j,match FA fr x with|true=>.top|false=>x)::Dn fr r
def Ct(ks fr fl:List Ab):List (Ab×Blk)→List (Ab×Blk)
 |[]=>[]
 |(k,b)::r=>match ks.any (Bj k),fl.any (Bj k)||!Ga fr b.cells with
  |false,true=>(k,b)::Ct ks fr fl r
  |_,_=>Ct (k::ks) fr fl r
def FS:Option Nat→AV→List (Nat×AV)→List (Nat×AV)
 |some d,x,r=>(d,x)::r
 |none,_,r=>r
def Bk(os:Nat)(k:Ab):Bool:=Nat.beq k.1 1||(Nat.beq k.1 0&&Nat.ble (k.2+1) os)
def C5(os:Nat):List (Ab×Blk)→Bool
 |[]=>true
 |(k,b)::r=>Bk os k&&b.live&&!(r.any fun p=>Bj k p.1)&&C5 os r
mutual
theorem l2{r:Ren}{b:Ab→Nat}{fr:List Ab}(a:∀k,k∉fr→b k=r.γ k):∀(x:AV),FA fr x=false→ren ⟨r.κ,b,r.θ,r.H0,r.no⟩ x=ren r x
 |.ref k g off n,h=>by simp only[FA]at h;simp only[ren];rw[a k (P6 h)]
 |.ptr k g off,h=>by simp only[FA]at h;simp only[ren];rw[a k (P6 h)]
 |.mp k g,h=>by simp only[FA]at h;simp only[ren];rw[a k (P6 h)]
 |.fn f xs ys,h=>by
  simp only[FA,F2]at h
  have c:=J5 a xs h.1
  have d:=J5 a ys h.2
  cases f<;>simp only[ren,c,d]
 |.agg xs,h=>by simp only[FA]at h;simp only[ren,J5 a xs h]
 |.tup xs,h=>by simp only[FA]at h;simp only[ren,J5 a xs h]
 |.top,_=>by simp[ren]
 |.d _,_=>by simp[ren]
 |.e0,_=>by simp[ren]
 |.p _,_=>by simp[ren]
 |.iptr _ _,_=>by simp[ren]
 |.ifc _ _ _,_=>by simp[ren]
theorem J5{r:Ren}{b:Ab→Nat}{fr:List Ab}(a:∀k,k∉fr→b k=r.γ k):∀(xs:List AV),Ga fr xs=false→Aj ⟨r.κ,b,r.θ,r.H0,r.no⟩ xs=Aj r xs
 |[],_=>by simp[Aj]
 |x::xs,h=>by
  simp only[Ga,F2]at h
  simp only[Aj,l2 a x h.1,J5 a xs h.2]
theorem P6{k:Ab}{fr:List Ab}(h:fr.any (Bj k)=false):k∉fr:=fun hm=>by
 have:fr.any (Bj k)=true:=YT.2 ⟨k,hm,BY.2 rfl⟩
 grind
end
def BB:Code→Array Oper
 |.region _ ops _=>ops
 |_=>#[]
def iW:Code→Bool
 |.region _ _ false=>true
 |_=>false
def FD{α:Type}:Nat→List α→List α
 |0,l=>l
 |_+1,[]=>[]
 |n+1,_::l=>FD n l
def Gi{α:Type}:Nat→List α→List α
 |0,_=>[]
 |_+1,[]=>[]
 |n+1,x::l=>x::Gi n l
theorem Wr{α:Type}:∀(n:Nat) (l:List α),FD n l=l.drop n
 |0,l=>rfl
 |n+1,[]=>rfl
 |n+1,x::l=>Wr n l
theorem PN{α:Type}:∀(n:Nat) (l:List α),Gi n l=l.take n
 |0,l=>rfl
 |n+1,[]=>rfl
 |n+1,x::l=>by rw[Gi,PN n l];rfl
def LO(P:Program)(n:Nat)(C:Cx)(c:Code)(k:Nat)(τ:St)(Q:Exit→St→Prop):Prop:=
 ∀γ σ a w,C.G γ→RG (C.r γ) C.l C.outs [] τ σ→R C.l n C.B σ a w→wpList P (BB c) (fun e d w'=>∃b,Is n C (Q e) b∧R C.l n C.B b d w') ((BB c).toList.drop k) a w
def Fw(c:Code)(k:Nat):Option (Option Nat×Operand×List Operand):=
 match A5 (BB c).toList k with
 |some o=>(match o.guard,o.op with
  |none,.call cl=>(match cl.callee with|.value f=>some (o.dst,f,cl.args.toList)|_=>none)
  |_,_=>none)
 |none=>none
def Eh(C:Cx):List (Ab×Blk)→Prop
 |[]=>True
 |(k,_)::r=>match Nat.beq k.1 1 with|true=>Eh C r|false=>C.no (C.κ k)∧Eh C r
def HW(H:Hp):List Ab→Prop
 |[]=>True
 |k::r=>Gj (H k).cells∧HW H r
def JA(fr:List Ab)(Ao:List (Ab×Blk)):Bool:=fr.all fun k=>Ao.any fun p=>Bj k p.1
def Ku(fr:List Ab)(fx:List Nat):Bool:=fr.all fun k=>!(Nat.beq k.1 0&&fx.any (Nat.beq k.2))
def Gk:List (Ab×Blk)→Bool
 |[]=>true
 |(_,b)::r=>Nat.beq b.g 0&&Gk r
def kJ:Option Nat→(Nat→AV)→AV→Nat→AV
 |some d,s,v=>upd s d v
 |none,s,_=>s
def KD(n:Nat):Option Nat→Bool
 |some d=>Nat.ble (d+1) n
 |none=>true
section
variable {P:Program} {T:Nat→Option TI} {n:Nat} {C:Cx} {τ:St} {Q:Exit→St→Prop}
theorem Znl{c:Code}(b:iW c=true)(h:LO P n C c 0 τ Q):LW P n C c τ Q:=by
 cases c with
 |region id ops d=>
  cases d with
  |true=>cases b
  |false=>
   obtain⟨i,rfl⟩:∃l:List Oper,ops=l.toArray:=⟨ops.toList,by simp⟩
   intro γ σ g e a w f
   have:=h γ σ a w g e f
   simp only[BB,G8]at this
   exact wp_region_lit this
 |_=>cases b
theorem wb(d:CxOk C)(A:AX P T){os:Nat}{fx:List Nat}(y:C.outs=os)(v:C.fx=fx){c:Code}{k:Nat}(m:Nat)(a:AT)(lf:Lf)(q:Ren→(St→Prop)→Prop)
  (E:∀r Φ,AW r os a τ (fun τ a=>EF P T C.l n r ((BB c).toList.map (·.dst)) (Gi m (FD k (BB c).toList)) [] a (fun τ' env f=>AW r os f (C7 env τ') (fun τ _=>Do fx lf τ Φ)) τ)=q r Φ)
  (h:∀r,r.θ=C.θ→r.H0=C.H0→r.κ=C.κ→r.no=C.no→q r (fun τ'=>LO P n C c (k+m) τ' Q)):LO P n C c k τ Q:=by
 subst y
 subst v
 intro γ σ g w D x z
 have o:=h (C.r γ) rfl rfl rfl rfl
 rw[←E]at o
 obtain⟨R,p,N,u,i,j⟩:=BP (n:=n) d a o x
 have e:(BB c).toList.drop k=Gi m (FD k (BB c).toList)++(BB c).toList.drop (k+m):=by
  rw[PN,Wr,←Ln,Hd]
 rw[e]
 refine J9 (d.ren γ) A (B:=C.B) _ (fun τ' l f U b w' J K L=>?_) _ [] p R N g w u i (j _ _ z)
 obtain⟨V,s,t⟩:=Ml (n:=n) K
 obtain⟨X,S,W,f1,f2,f3⟩:=BP (n:=n) d f J s
 obtain⟨M,Y,O,F,G,H,I⟩:=F7 (n:=n) d f1 D f2
 exact G M O b w' F H (I _ _ (f3 _ _ (t _ _ L)))
theorem xa(b:CxOk C)(A:AX P T){os:Nat}{fx:List Nat}(y:C.outs=os)(v:C.fx=fx){c:Code}{k:Nat}(a:AT)(lf:Lf)(q:Ren→(Exit→St→Prop)→Prop)
  (E:∀r Φ,AW r os a τ (fun τ a=>EF P T C.l n r ((BB c).toList.map (·.dst)) (FD k (BB c).toList) [] a (fun τ' env d=>AW r os d (C7 env τ') (fun τ _=>Do fx lf τ (Φ .normal))) τ)=q r Φ)
  (h:∀r,r.θ=C.θ→r.H0=C.H0→r.κ=C.κ→r.no=C.no→q r Q):LO P n C c k τ Q:=by
 subst y
 subst v
 intro γ σ f w D x z
 have m:=h (C.r γ) rfl rfl rfl rfl
 rw[←E]at m
 obtain⟨O,p,N,u,g,i⟩:=BP (n:=n) b a m x
 have e:(BB c).toList.drop k=FD k (BB c).toList++[]:=by rw[Wr,N3]
 rw[e]
 refine J9 (b.ren γ) A (B:=C.B) _ (fun τ' l d U j w' J K L=>?_) _ [] p O N f w u g (i _ _ z)
 obtain⟨V,s,t⟩:=Ml (n:=n) K
 obtain⟨X,S,W,f1,f2,f3⟩:=BP (n:=n) b d J s
 obtain⟨M,R,o,F,G,H,I⟩:=F7 (n:=n) b f1 D f2
 unfold wpList
 exact⟨o,⟨M,R,o,F,G,H,Wk.refl _⟩,I _ _ (f3 _ _ (t _ _ L))⟩
theorem PZ:∀{hs:List (Ab×Blk)},Gk hs=true→∀k,(As hs k).g=0
 |[],_,k=>rfl
 |(k',b)::r,h,k=>by
  simp only[Gk,Yb]at h
  simp only[As]
  split
  ·exact Ya h.1
  ·exact PZ h.2 k
theorem ny{k:Ab}{ks:List Ab}:ks.any (Bj k)=true↔k∈ks:=by
 rw[YT]
 exact⟨fun⟨q,a,b⟩=>by rw[BY.1 b];exact a,fun h=>⟨k,h,BY.2 rfl⟩⟩
theorem ZzI(a b:List (Ab×Blk))(k:Ab):As (a++b) k=if k∈a.map (·.1)then As a k else As b k:=by
 induction a with
 |nil=>simp
 |cons p a f=>
  obtain⟨q,d⟩:=p
  simp only[G5,As,Y4,YK]
  cases c:Bj q k with
  |true=>rw[Yi (.inl (BY.1 c).symm)]
  |false=>
   have:k≠q:=fun e=>by rw[BY.2 e.symm]at c;cases c
   grind
theorem Mk{fr fl:List Ab}:∀(hs:List (Ab×Blk)) (ks:List Ab) (k:Ab),(k∈ks→As (Ct ks fr fl hs) k=Eb)∧(k∉ks→(As (Ct ks fr fl hs) k=As hs k∧(k∈fl∨Ga fr (As hs k).cells=false))∨As (Ct ks fr fl hs) k=Eb)
 |[],ks,k=>⟨fun _=>rfl,fun _=>.inr rfl⟩
 |(q,b)::r,ks,k=>by
  simp only[Ct]
  split
  ·rename_i d a
   have f:q∉ks:=fun hm=>by rw[ny.2 hm]at d;cases d
   simp only[As]
   cases c:Bj q k with
   |true=>
    have c:=BY.1 c
    subst c
    refine⟨fun h=>absurd h f,fun _=>.inl ⟨rfl,?_⟩⟩
    simp only[Yt,YF]at a
    rcases a with a|a
    ·exact .inl (ny.1 a)
    grind
   |false=>exact Mk r ks k
  ·obtain⟨d,a⟩:=Mk (fr:=fr) (fl:=fl) r (q::ks) k
   refine⟨fun h=>d (YH _ h),fun h=>?_⟩
   by_cases c:k=q
   ·grind
   ·rcases a (fun hm=>(YK.1 hm).elim c h)with⟨i,j⟩|e
    ·have:Bj q k=false:=by
      cases g:Bj q k with
      |true=>exact absurd (BY.1 g).symm c
      |false=>rfl
     simp only[As,this]
     grind
    grind
theorem PE{r:Ren}:∀(Ao:List (Ab×Blk)) (H:Hp) (q:Ab),(∀p∈Ao,r.κ p.1≠q)→CF r Ao H q=H q
 |[],H,q,h=>rfl
 |(k,b)::a,H,q,h=>by
  simp only[CF]
  rw[PE a _ q (fun p c=>h p (YH _ c)),Av _ _ (fun e=>h (k,b) (YM ..) e.symm)]
theorem nk{r:Ren}{os:Nat}(d:∀q k:Ab,Bk os q=true→Bk os k=true→q≠k→r.κ q≠r.κ k):∀(Ao:List (Ab×Blk)) (H:Hp),C5 os Ao=true→∀k b,(k,b)∈Ao→CF r Ao H (r.κ k)=AA r k b∧As Ao k=b∧Bk os k=true∧b.live=true
 |[],H,_,k,b,hm=>by cases hm
 |(q,c)::rest,H,g,k,b,hm=>by
  simp only[C5,Yb,YF]at g
  obtain⟨⟨⟨i,u⟩,j⟩,m⟩:=g
  have f:∀p∈rest,p.1≠q:=fun p a e=>by
   have:(rest.any fun p=>Bj q p.1)=true:=YT.2 ⟨p,a,BY.2 e.symm⟩
   rw[this]at j;cases j
  have h:∀(l:List (Ab×Blk)),C5 os l=true→∀p∈l,Bk os p.1=true:=by
   intro l
   induction l with
   |nil=>intro _ p a;cases a
   |cons p l w=>
    obtain⟨x,y⟩:=p
    intro hl p a
    simp only[C5,Yb]at hl
    rcases YK.1 a with rfl|a
    ·exact hl.1.1.1
    ·exact w hl.2 p a
  simp only[CF]
  rcases YK.1 hm with e|hm
  ·cases e
   refine⟨?_,by simp only[As,BY.2 rfl],i,u⟩
   rw[PE rest _ _ (fun p a=>d _ _ (h rest m p a) i (f p a)),AH]
  ·obtain⟨n,o,s,t⟩:=nk d rest (updH H (r.κ q) (AA r q c)) m k b hm
   refine⟨n,?_,s,t⟩
   have:Bj q k=false:=by
    cases v:Bj q k with
    |true=>exact absurd (BY.1 v).symm (f _ hm)
    |false=>rfl
   simp only[As,this]
   exact o
theorem X6:∀{Ao:List (Ab×Blk)},Eh C Ao→∀p∈Ao,p.1.1≠1→C.no (C.κ p.1)
 |(k,b)::r,h,p,c,a=>by
  simp only[Eh]at h
  split at h
  ·rename_i d
   rcases YK.1 c with rfl|c
   ·exact absurd (Ya d) a
   ·exact X6 h p c a
  ·rcases YK.1 c with rfl|c
   ·exact h.1
   ·exact X6 h.2 p c a
theorem X7{H:Hp}:∀{ks:List Ab},HW H ks→∀k∈ks,Gj (H k).cells
 |q::r,h,k,a=>by
  rcases YK.1 a with rfl|a
  ·exact h.1
  ·exact X7 h.2 k a
theorem E0{os:Nat}{k:Ab}(h:Bk os k=true):k.1=1∨(k.1=0∧k.2<os):=by
 simp only[Bk,Yt,Yb]at h
 rcases h with h|⟨a,b⟩
 ·exact .inl (Ya h)
 ·exact .inr ⟨Ya a,Yf b⟩
theorem nD{fr:List Ab}:∀(ss:List (Nat×AV)) (j:Nat),AJ (Dn fr ss) j=.top∨(AJ (Dn fr ss) j=AJ ss j∧FA fr (AJ ss j)=false)
 |[],j=>.inl rfl
 |(i,x)::r,j=>by
  simp only[Dn,AJ]
  split
  ·grind
  ·exact nD r j
theorem Zr8(hC:CxOk C){os:Nat}{fx:List Nat}(hO:C.outs=os)(hF:C.fx=fx){c:Code}{k:Nat}{ss:List (Nat×AV)}{hs:List (Ab×Blk)}(l:Option Nat)(fo:Operand)(aZ:List Operand)(m:Fw c k=some (l,fo,aZ))
  (f:FuncId) (first u xs:List AV) (hf:ev (AJ ss) fo=.fn (.func f) first u) (hxs:first++aZ.map (ev (AJ ss))++u=xs) (ks:List Ab) (J:List (Ab×Blk)) (hhb:(ks.map fun k=>(k,As hs k))=J)
  {ι:Type} (I:ι→Prop) (xF:ι→AV) (s:ι→List (Ab×Blk)) (fr fl:List Ab) (M:(Ku fr fx&&Gk hs&&KD n l&&ks.all (Bk os))=true) (t:∀i,(C5 os (s i)&&JA fr (s i))=true) (H:∀i,Eh C (s i)) (hfl:HW (As hs) fl)
  (T:∀r:Ren,r.θ=C.θ→r.H0=C.H0→r.κ=C.κ→r.no=C.no→∀V,(∀p∈J,(V (r.κ p.1)).g=r.γ p.1+p.2.g∧(p.2.live=true→V (r.κ p.1)=AA r p.1 p.2))→(∀k:Ab,k.1≤C.l→¬r.no k→V k=r.H0 k)→
   Zb8 P f (C.l+1) (Aj r xs) V (fun y W=>∃i,I i∧∃a:Ab→Nat,(∀k,k∉fr→a k=r.γ k)∧y=ren ⟨r.κ,a,r.θ,r.H0,r.no⟩ (xF i)∧W=CF ⟨r.κ,a,r.θ,r.H0,r.no⟩ (s i) V))
  (h:∀i,I i→LO P n C c (k+1) (Aa (FS l (xF i) (Dn fr ss)) (s i++Ct ((s i).map (·.1)) fr fl hs)) Q):LO P n C c k (Aa ss hs) Q:=by
 subst hO
 subst hF
 simp only[Yb]at M
 obtain⟨⟨⟨k3,k4⟩,k5⟩,k6⟩:=M
 intro γ σ act w hg z hR
 have hr:=hC.ren γ
 have hs':∀j,σ.s j=ren (C.r γ) (AJ ss j):=fun j=>(z.s j).1 AU
 have A:∀y:Operand,ev σ.s y=ren (C.r γ) (ev (AJ ss) y):=fun y=>IF (c:=[]) z AU (by cases y<;>rfl)
 unfold Fw at m
 split at m
 case h_2=>cases m
 rename_i o ho
 split at m
 case h_2=>cases m
 rename_i cl hgd hopc
 split at m
 case h_2=>cases m
 rename_i fo' hcal
 simp only[Yg,Fs]at m
 obtain⟨hd,rfl,rfl⟩:=m
 rw[BS]at ho
 have hlt:k<(BB c).toList.length:=by
  grind
 have U:(BB c).toList.drop k=o::(BB c).toList.drop (k+1):=by
  rw[Ij hlt]
  grind
 rw[U]
 have L:∀q k:Ab,Bk C.outs q=true→Bk C.outs k=true→q≠k→(C.r γ).κ q≠(C.r γ).κ k:=fun q k Z h2 h3=>hr.ne (E0 Z) (E0 h2) h3
 have hA:=T (C.r γ) rfl rfl rfl rfl σ.H (fun p E=>by
  rw[←hhb]at E
  obtain⟨q,g,rfl⟩:=YU.1 E
  have hq':=E0 (Yk.1 k6 q g)
  refine⟨?_,fun hl=>z.h q hl⟩
  obtain⟨q1,q2⟩:=q
  simp only at hq'
  rcases hq' with rfl|⟨rfl,h2⟩
  ·have:=z.g q2
   rw[←hr.own]at this
   exact this
  ·exact z.go q2 h2) z.o
 have S:Aj (C.r γ) xs=Aj (C.r γ) first++cl.args.toList.map (ev σ.s)++Aj (C.r γ) u:=by
  rw[←hxs,Fu,Fu]
  congr 2
  rw[Er,Ha]
  exact ET fun y _=>(A y).symm
 have hfe:ev σ.s fo'=.fn (.func f) (Aj (C.r γ) first) (Aj (C.r γ) u):=by rw[A,hf];simp[ren]
 have hrop:Bg P C.l n o (fun σ'=>∃i,I i∧∃a:Ab→Nat,(∀q,q∉fr→a q=γ q)∧σ'=⟨kJ l σ.s (ren (C.r a) (xF i)),CF (C.r a) (s i) σ.H⟩) σ:=by
  unfold Bg
  rw[hopc]
  simp only[hcal,hfe]
  rw[S]at hA
  refine hA.mono fun y W ⟨i,hi,a,N,e2,e3⟩=>?_
  unfold LU B6
  rw[hd]
  cases l with
  |none=>exact⟨i,hi,a,N,by rw[e3];rfl⟩
  |some d=>exact⟨Yf k5,i,hi,a,N,by rw[e2,e3];rfl⟩
 refine VJ (by simp[Region.wanted,hgd]) (Iy hrop) hR fun σ' Y w' hK O=>?_
 obtain⟨i,hi,a,N,rfl⟩:=hK
 have h:=h i hi
 have H:=H i
 have t:=t i
 generalize s i=Ao at h H t O
 generalize xF i=x at h O
 simp only[Yb]at t
 obtain⟨k1,k2⟩:=t
 have hsub:∀q,q∈fr→∃b,(q,b)∈Ao:=fun q g=>by
  obtain⟨p,E,hk⟩:=YT.1 (Yk.1 k2 q g)
  rw[BY.1 hk];exact⟨p.2,E⟩
 let τ2:St:=Aa (FS l x (Dn fr ss)) (Ao++Ct (Ao.map (·.1)) fr fl hs)
 have D:∀q,As (Ao++Ct (Ao.map (·.1)) fr fl hs) q=if q∈Ao.map (·.1)then As Ao q else As (Ct (Ao.map (·.1)) fr fl hs) q:=fun q=>ZzI _ _ _
 have hin:∀q,q∈Ao.map (·.1)→∃b,(q,b)∈Ao:=fun q g=>by obtain⟨p,E,rfl⟩:=YU.1 g;exact⟨p.2,E⟩
 have F:∀q b,(q,b)∈Ao→CF (C.r a) Ao σ.H ((C.r a).κ q)=AA (C.r a) q b∧As Ao q=b∧Bk C.outs q=true∧b.live=true:=nk (r:=C.r a) L Ao σ.H k1
 have B:∀q,q∉Ao.map (·.1)→Bk C.outs q=true→CF (C.r a) Ao σ.H ((C.r a).κ q)=σ.H ((C.r a).κ q)∧a q=γ q:=fun q g v=>by
  refine⟨PE _ _ _ fun p E=>L _ _ (F p.1 p.2 E).2.2.1 v fun e=>g (YU.2 ⟨p,E,e⟩),N q fun hf=>?_⟩
  grind
 have K:∀q,Bk C.outs q=true→(σ.H (C.κ q)).g=γ q→(CF (C.r a) Ao σ.H (C.κ q)).g=a q+(As (Ao++Ct (Ao.map (·.1)) fr fl hs) q).g:=fun q v hq0=>by
  rw[D]
  split
  ·rename_i hm
   obtain⟨b,J⟩:=hin q hm
   obtain⟨a1,X,_⟩:=F q b J
   rw[show C.κ q=(C.r a).κ q from rfl,a1,X]
   rfl
  ·rename_i hm
   obtain⟨a1,X⟩:=B q hm v
   rw[show C.κ q=(C.r a).κ q from rfl,a1,X]
   have:(As (Ct (Ao.map (·.1)) fr fl hs) q).g=0:=by
    rcases(Mk (fr:=fr) (fl:=fl) hs (Ao.map (·.1)) q).2 hm with⟨e,_⟩|e
    ·rw[e];exact PZ k4 q
    ·rw[e];rfl
   rw[this]
   exact hq0
 have hG2:RG (C.r a) C.l C.outs [] τ2 ⟨fun j=>ren (C.r a) (τ2.s j),CF (C.r a) Ao σ.H⟩:=by
  refine⟨fun j=>⟨fun _=>rfl,fun hn=>absurd AU hn⟩,fun q g=>?_,fun d=>?_,fun i hi=>?_,fun q g=>?_,fun q g hn=>?_⟩
  ·show CF (C.r a) Ao σ.H ((C.r a).κ q)=AA (C.r a) q (As (Ao++Ct (Ao.map (·.1)) fr fl hs) q)
   replace g:(As (Ao++Ct (Ao.map (·.1)) fr fl hs) q).live=true:=g
   rw[D]at g⊢
   split at g
   ·grind
   ·rename_i hm
    rw[Yj hm]
    rcases(Mk (fr:=fr) (fl:=fl) hs (Ao.map (·.1)) q).2 hm with⟨e,e'⟩|e
    ·rw[e]at g⊢
     have v:=z.k q g
     have t:Bk C.outs q=true:=by
      obtain⟨q1,q2⟩:=q
      simp only at v
      simp only[Bk,Yt,Yb]
      rcases v with rfl|⟨rfl,h2⟩
      ·exact .inl rfl
      ·exact .inr ⟨rfl,aS h2⟩
     obtain⟨a1,X⟩:=B q hm t
     rw[a1]
     have J:=z.h q g
     have G:Aj (C.r a) (As hs q).cells=Aj (C.r γ) (As hs q).cells:=by
      rcases e' with e'|e'
      ·rw[Hl (X7 hfl q e'),Hl (X7 hfl q e')]
      ·exact J5 (r:=C.r γ) N _ e'
     show σ.H ((C.r γ).κ q)=_
     rw[J]
     simp only[AA]
     rw[G,show(C.r a).γ q=a q from rfl,X]
     rfl
    ·rw[e]at g;cases g
  ·have:=K (1,d) rfl (by
    have:=z.g d
    rw[show((Aa ss hs).H (1,d)).g=0 from PZ k4 _]at this
    rw[hC.own];exact this)
   rw[hC.own]at this
   exact this
  ·exact K (0,i) (by simp only[Bk,Yt,Yb];exact .inr ⟨rfl,aS hi⟩) (by
    have:=z.go i hi
    rw[show((Aa ss hs).H (0,i)).g=0 from PZ k4 _]at this
    exact this)
  ·replace g:(As (Ao++Ct (Ao.map (·.1)) fr fl hs) q).live=true:=g
   rw[D]at g
   split at g
   ·rename_i hm
    obtain⟨b,J⟩:=hin q hm
    exact E0 (F q b J).2.2.1
   ·rename_i hm
    rcases(Mk (fr:=fr) (fl:=fl) hs (Ao.map (·.1)) q).2 hm with⟨e,e'⟩|e
    ·rw[e]at g;exact z.k q g
    ·rw[e]at g;cases g
  ·show CF (C.r a) Ao σ.H q=C.H0 q
   rw[PE _ _ _ fun p E e=>?_]
   ·exact z.o q g hn
   ·by_cases Z:p.1.1=1
    ·obtain⟨⟨p1,p2⟩,p3⟩:=p
     simp only at Z
     subst Z
     rw[show(C.r a).κ (1,p2)=(C.l+1,p2)from hC.own p2]at e
     grind
    ·exact hn (by rw[←e];exact X6 H p E Z)
 refine h a _ Y w' (hC.G γ a (fun i hi=>N _ fun hm=>?_) hg) hG2 (R.weaken O fun j=>?_)
 ·have:=Yk.1 k3 _ hm
  simp only[YF,He]at this
  rcases this with h|h
  ·cases h
  ·have:(C.fx.any (Nat.beq i))=true:=YT.2 ⟨i,hi,by simp⟩
   grind
 ·have old:ren (C.r a) (AJ (Dn fr ss) j)=σ.s j∨ren (C.r a) (AJ (Dn fr ss) j)=.top:=by
   rcases nD (fr:=fr) ss j with e|⟨e,e'⟩
   ·right;rw[e];simp[ren]
   ·left
    rw[e,hs' j]
    exact l2 (r:=C.r γ) N _ e'
  show ren (C.r a) (AJ (FS l x (Dn fr ss)) j)=_∨ren (C.r a) (AJ (FS l x (Dn fr ss)) j)=.top
  cases l with
  |none=>exact old
  |some d=>
   simp only[FS,AJ,kJ,upd]
   cases hj:Nat.beq d j with
   |true=>
    have:=Ya hj
    grind
   |false=>
    have:j≠d:=fun e=>by rw[e]at hj;simp at hj
    grind
theorem ZyY(D:CxOk C){os:Nat}{fx:List Nat}(F:C.outs=os)(E:C.fx=fx){c:Code}{k:Nat}{ss:List (Nat×AV)}{hs:List (Ab×Blk)}(e:Option Nat)(l:Operand)(j:List Operand)(q:Fw c k=some (e,l,j))
  (f:FuncId) (first d xs:List AV) (G:ev (AJ ss) l=.fn (.func f) first d) (t:first++j.map (ev (AJ ss))++d=xs) (ks:List Ab) (m:List (Ab×Blk)) (p:(ks.map fun k=>(k,As hs k))=m)
  (x:AV) (Ao:List (Ab×Blk)) (fr fl:List Ab) (i:(C5 os Ao&&JA fr Ao&&Ku fr fx&&Gk hs&&KD n e&&ks.all (Bk os))=true) (s:Eh C Ao) (o:HW (As hs) fl)
  (g:∀r:Ren,r.θ=C.θ→r.H0=C.H0→r.κ=C.κ→r.no=C.no→Gl P C.l r f xs m x Ao fr)
  (h:LO P n C c (k+1) (Aa (FS e x (Dn fr ss)) (Ao++Ct (Ao.map (·.1)) fr fl hs)) Q):LO P n C c k (Aa ss hs) Q:=by
 simp only[Yb]at i
 obtain⟨⟨⟨⟨⟨I,J⟩,K⟩,L⟩,M⟩,N⟩:=i
 exact Zr8 D F E e l j q f first d xs G t ks m p (ι:=Unit) (fun _=>True) (fun _=>x) (fun _=>Ao) fr fl (by simp only[Yb];exact⟨⟨⟨K,L⟩,M⟩,N⟩) (fun _=>by simp only[Yb];exact⟨I,J⟩) (fun _=>s) o
  (fun r w z A B u a b=>(g r w z A B u a b).mono fun y v H=>⟨(),trivial,H⟩) fun _ _=>h
end
def Dj(l:Nat)(ks:List Ab):Ab→Ab
 |(0,i)=>match A5 ks i with|some k=>k|none=>(0,0)
 |(_+1,d)=>(l+1,d)
def FU(a:List Nat):Ab→Nat
 |(0,i)=>match A5 a i with|some g=>g|none=>0
 |(_+1,_)=>0
def BX(l:Nat)(ks:List Ab)(a:List Nat)(θ:Nat→AV)(H:Hp):Ren:=⟨Dj l ks,FU a,θ,H,fun k=>k∈ks⟩
def G3(l:Nat)(ks:List Ab)(a:List Nat)(r:Ren):Prop:=r.κ=Dj l ks∧∀i,i<ks.length→r.γ (0,i)=FU a (0,i)
def Cm(r:Ren):Nat→List Blk→List Blk
 |_,[]=>[]
 |i,b::a=>AA r (0,i) b::Cm r (i+1) a
def C6(H:Hp):List Ab→List Blk→Hp
 |k::ks,b::a=>C6 (updH H k b) ks a
 |_,_=>H
theorem VP:∀(ks:List Ab) (a:List Blk) (H:Hp) (q:Ab),q∉ks→C6 H ks a q=H q
 |[],a,H,q,h=>by cases a<;>rfl
 |k::ks,[],H,q,h=>rfl
 |k::ks,b::a,H,q,h=>by
  simp only[C6]
  rw[VP ks a _ q (fun hm=>h (YH _ hm)),Av _ _ (fun e=>h (by rw[e];exact YM ..))]
theorem oz:∀(ks:List Ab) (a:List Blk) (H:Hp),ks.Nodup→∀(j:Nat) (k:Ab) (b:Blk),ks[j]?=some k→a[j]?=some b→C6 H ks a k=b
 |[],a,H,_,j,k,b,h,_=>by simp at h
 |q::ks,[],H,_,_,_,_,_,h=>by simp at h
 |q::ks,c::a,H,e,j,k,b,d,hb=>by
  simp only[C6]
  rw[List.nodup_cons]at e
  cases j with
  |zero=>
   simp only[Y5,Yg]at d hb
   subst d;subst hb
   rw[VP ks a _ _ e.1,AH]
  |succ j=>
   simp only[Jp]at d hb
   exact oz ks a _ e.2 j k b d hb
theorem mZ{r:Ren}:∀(a:List Blk) (i j:Nat),(Cm r i a)[j]?=(a[j]?).map (AA r (0,i+j))
 |[],i,j=>by simp[Cm]
 |b::a,i,0=>by simp[Cm]
 |b::a,i,j+1=>by
  simp only[Cm,Jp,mZ a (i+1) j,show i+1+j=i+(j+1)from by omega]
theorem lV{P:Program}{T:Nat→Option TI}{n:Nat}{f:FuncId}{fn:Func}(J:List ResultVar)(c:Code){l:Nat}{xs:List AV}{H:Hp}{g:AV→Hp→Prop}(ks:List Ab)(t:List Nat)(fx:List Nat)(θ:Nat→AV)(ys:List AV)(hs:List (Ab×Blk))(LPost:AV→List Blk→Prop)
  (V:P.funcs[f]?=some fn) (hb:fn.body=some c) (s:(fn.name== "runtime.NumGoroutine")=false) (Z:fn.ntmps=n) (hr:fn.results.toList=J) (hx:xs.length≤n) (S:AX P T)
  (D:∀k∈ks,k.1≤l) (u:ks.Nodup) (W:∀d,As hs (1,d)=Eb) (F:∀k,(As hs k).live=true→k.1=0∧k.2<ks.length)
  (R:∀i k,ks[i]?=some k→(H k).g=FU t (0,i)+(As hs (0,i)).g∧((As hs (0,i)).live=true→H k=AA (BX l ks t θ H) (0,i) (As hs (0,i))))
  (I:Aj (BX l ks t θ H) ys=xs)
  (h:∀C,CxOk C→C.outs=ks.length→C.fx=fx→C.l=l→C.H0=H→C.θ=θ→C.κ=Dj l ks→C.no=(fun k=>k∈ks)→LW P n C c (Aa (C2 0 ys) hs) (FQ T J ks.length LPost))
  (v:∀y b,LPost y b→b.length=ks.length∧(∀x∈b,x.live=true)∧∀r:Ren,r.κ=Dj l ks→r.θ=θ→r.H0=H→r.no=(fun k=>k∈ks)→(∀i∈fx,r.γ (0,i)=FU t (0,i))→g (ren r y) (C6 H ks (Cm r 0 b))):Zb8 P f l xs H g:=by
 let C:Base→Cx:=fun B=>⟨l,B,Dj l ks,θ,H,ks.length,fun k=>k∈ks,fx,fun γ=>∀i∈fx,γ (0,i)=FU t (0,i)⟩
 have a:∀i,i<ks.length→ks[i]?=some (Dj l ks (0,i)):=fun i hi=>by
  show _=some (match A5 ks i with|some k=>k|none=>(0,0))
  rw[BS,Ye hi]
 have E:∀(i:Nat) (k:Ab),ks[i]?=some k→i<ks.length:=fun i k hi=>by
  grind
 have K:∀B,CxOk (C B):=fun B=>by
  refine⟨fun _=>rfl,fun i hi=>D _ (Yn (a i hi)),fun i j hi Y e=>?_,fun k w=>?_,fun γ γ' he A i hi=>by rw[he i hi];exact A i hi⟩
  ·have m:=a i hi
   have o:=a j Y
   rw[show Dj l ks (0,i)=Dj l ks (0,j)from e]at m
   have Q:ks[i]?=ks[j]?:=m.trans o.symm
   exact(List.getElem?_inj hi u).1 Q
  ·obtain⟨i,hi⟩:=Y2.1 (show k∈ks from w)
   grind
 refine nd J C (γ:=FU t) (LPost:=LPost) (ys:=ys) (hs:=hs) V hb s Z hr hx S K (fun B=>⟨rfl,rfl,rfl,fun i _=>rfl⟩) (fun B=>I) (fun _=>rfl) W (fun B k w=>?_) (fun B i hi=>?_) (fun B γ y b N A hy L _=>?_) (fun B=>h _ (K B) rfl rfl rfl rfl rfl rfl rfl)
 ·obtain⟨m,o⟩:=F k w
  obtain⟨k1,M⟩:=k
  simp only at m o
  subst m
  exact⟨rfl,o,(R M _ (a M o)).2 w⟩
 ·grind
 ·obtain⟨U,z,v⟩:=v y b hy
  have v:=v ((C B).r γ) rfl rfl rfl rfl fun i hi=>A i hi
  have O:N=C6 H ks (Cm ((C B).r γ) 0 b):=by
   funext q
   by_cases G:q∈ks
   ·obtain⟨i,hi⟩:=Y2.1 G
    have X:=E i q hi
    have p:b[i]?=some b[i]:=Ye (by omega)
    have m:=L.live i _ p (z _ (Yn p))
    have o:Dj l ks (0,i)=q:=by
     grind
    rw[show(C B).κ (0,i)=q from o]at m
    rw[m,oz ks _ H u i q (AA ((C B).r γ) (0,i) b[i]) hi]
    rw[mZ,p,YS]
    rfl
   ·rw[VP ks _ H q G]
    exact L.o q G
  rw[O];exact v
theorem ZkS{P:Program}{T:Nat→Option TI}{n:Nat}{f:FuncId}{fn:Func}(w:List ResultVar)(c:Code){l:Nat}{xs:List AV}{H:Hp}{a:AV→Hp→Prop}(ks:List Ab)(e:List Nat)(fx:List Nat)(θ:Nat→AV)(ys:List AV)(hs:List (Ab×Blk))(LPost:AV→List Blk→Prop)
  (G:P.funcs[f]?=some fn) (hb:fn.body=some c) (g:(fn.name== "runtime.NumGoroutine")=false) (J:fn.ntmps=n) (K:fn.results.toList=w) (L:xs.length≤n) (E:AX P T)
  (q:∀k∈ks,k.1≤l) (t:ks.Nodup) (p:∀i,i<ks.length→i∈fx) (I:∀d,As hs (1,d)=Eb) (s:∀k,(As hs k).live=true→k.1=0∧k.2<ks.length)
  (D:∀i k,ks[i]?=some k→(H k).g=FU e (0,i)+(As hs (0,i)).g∧((As hs (0,i)).live=true→H k=AA (BX l ks e θ H) (0,i) (As hs (0,i))))
  (v:Aj (BX l ks e θ H) ys=xs)
  (h:∀C,CxOk C→C.outs=ks.length→C.fx=fx→C.l=l→C.H0=H→C.θ=θ→C.κ=Dj l ks→C.no=(fun k=>k∈ks)→LW P n C c (Aa (C2 0 ys) hs) (FQ T w ks.length LPost))
  (u:∀y b,LPost y b→b.length=ks.length∧(∀x∈b,x.live=true)∧∃Y' bs',(∀r,G3 l ks e r→ren r y=Y')∧(∀r,G3 l ks e r→Cm r 0 b=bs')∧a Y' (C6 H ks bs')):Zb8 P f l xs H a:=by
 refine lV w c ks e fx θ ys hs LPost G hb g J K L E q t I s D v h fun y b hy=>?_
 obtain⟨m,o,Y',bs',F,B,u⟩:=u y b hy
 refine⟨m,o,fun r z _ _ _ A=>?_⟩
 have j:G3 l ks e r:=⟨z,fun i hi=>A i (p i hi)⟩
 rw[F _ j,B _ j];exact u
theorem ZmI{P:Program}{T:Nat→Option TI}{n:Nat}{f:FuncId}{fn:Func}(v:List ResultVar)(c:Code){l:Nat}{xs:List AV}{H:Hp}{a:AV→Hp→Prop}(ks:List Ab)(g:List Nat)(fx:List Nat)(θ:Nat→AV)(ys:List AV)(hs:List (Ab×Blk))(Y:AV)(j:List Blk){Y':AV}{bs':List Blk}
  (E:P.funcs[f]?=some fn) (hb:fn.body=some c) (e:(fn.name== "runtime.NumGoroutine")=false) (G:fn.ntmps=n) (J:fn.results.toList=v) (K:xs.length≤n) (B:AX P T)
  (q:∀k∈ks,k.1≤l) (t:ks.Nodup) (p:∀i,i<ks.length→i∈fx) (F:∀d,As hs (1,d)=Eb) (s:∀k,(As hs k).live=true→k.1=0∧k.2<ks.length)
  (A:∀i k,ks[i]?=some k→(H k).g=FU g (0,i)+(As hs (0,i)).g∧((As hs (0,i)).live=true→H k=AA (BX l ks g θ H) (0,i) (As hs (0,i))))
  (u:Aj (BX l ks g θ H) ys=xs) (m:j.length=ks.length) (o:∀b∈j,b.live=true) (D:∀r,G3 l ks g r→ren r Y=Y') (z:∀r,G3 l ks g r→Cm r 0 j=bs')
  (h:∀C,CxOk C→C.outs=ks.length→C.fx=fx→C.l=l→C.H0=H→C.θ=θ→C.κ=Dj l ks→C.no=(fun k=>k∈ks)→LW P n C c (Aa (C2 0 ys) hs) (FQ T v ks.length (fun y b=>y=Y∧b=j)))
  (I:a Y' (C6 H ks bs')):Zb8 P f l xs H a:=by
 exact ZkS v c ks g fx θ ys hs (fun y b=>y=Y∧b=j) E hb e G J K B q t p F s A u h fun y b ⟨w,x⟩=>by subst w;subst x;exact⟨m,o,Y',bs',D,z,I⟩
section
variable {P:Program} {l:Nat} {r:Ren} {f:FuncId} {xs xs':List AV} {hb Ao:List (Ab×Blk)} {x x':AV}
theorem ZqZ(e:Aj r xs=xs')(g:ren r x=x')(h:∀a,(∀p∈hb,(a (r.κ p.1)).g=r.γ p.1+p.2.g∧(p.2.live=true→a (r.κ p.1)=AA r p.1 p.2))→(∀k:Ab,k.1≤l→¬r.no k→a k=r.H0 k)→Zb8 P f (l+1) xs' a (fun y b=>y=x'∧b=CF r Ao a)):
  Gl P l r f xs hb x Ao []:=fun a hb i=>by
 rw[e]
 exact(h a hb i).mono fun y b ⟨c,d⟩=>⟨r.γ,fun _ _=>rfl,by rw[c,←g],d⟩
end
theorem ZrX{α:Type}{e:α→List D}{r:Ren}{k:Ab}(xs:List α):EB r k (Ac e xs):=by
 unfold EB
 rw[Hl (D0 e xs)]
 refine Yk.2 fun x a=>?_
 obtain⟨d,_,rfl⟩:=YU.1 a
 rfl
theorem vW{r:Ren}{k:Ab}{vs:List AV}(h:(Aj r vs).all (AV.low (r.κ k).1)=true):EB r k vs:=h
theorem XS{r:Ren}{k:Ab}(ds:List D):EB r k (ds.map .d):=by
 unfold EB
 rw[Gg]
 refine Yk.2 fun x a=>?_
 obtain⟨d,_,rfl⟩:=YU.1 a
 rfl
theorem mn{α:Type}(e:α→List D)(xs:List α):Eu (Ac e xs):=fun x a=>by
 obtain⟨d,_,rfl⟩:=YU.1 a;rfl
theorem Zs6{α:Type}{e:α→List D}{xs:List α}{off cn sz:Nat}{z:List AV}(hl:∀x,(e x).length=sz)(h:off+cn≤xs.length):
  TS (Ac e xs) off cn sz z ((Ac e xs).take (off*sz)++(List.replicate cn z).flatten++(Ac e xs).drop ((off+cn)*sz)):=by
 refine⟨?_,rfl⟩
 rw[F8 hl]
 exact YX _ h
theorem Zs0{α:Type}{e:α→List D}{xs:List α}{off sz:Nat}{A B:List AV}(hl:∀x,(e x).length=sz)(h:off≤xs.length):∃m,((Ac e xs).take (off*sz)++A++B).take m=Ac e (xs.take off):=by
 refine⟨off*sz,?_⟩
 have a:((Ac e xs).take (off*sz)).length=off*sz:=by
  rw[YO,F8 hl]
  exact G7 (YX _ h)
 rw[Ek,Sh (by omega),NO (by omega),V8 hl]
def GN(n:Nat):List (Ab×Blk)→Bool
 |[]=>true
 |(k,_)::r=>Nat.beq k.1 0&&Nat.ble (k.2+1) n&&GN n r
theorem W4{n:Nat}:∀{hs:List (Ab×Blk)},GN n hs=true→∀k,(As hs k).live=true→k.1=0∧k.2<n
 |[],_,k,h=>by simp[As,Eb]at h
 |(q,b)::r,hi,k,h=>by
  simp only[GN,Yb]at hi
  simp only[As]at h
  split at h
  ·rename_i a
   have a:=BY.1 a
   subst a
   exact⟨Ya hi.1.1,Yf hi.1.2⟩
  ·exact W4 hi.2 k h
theorem V6{n:Nat}:∀{hs:List (Ab×Blk)},GN n hs=true→∀d,As hs (1,d)=Eb
 |[],_,d=>rfl
 |(q,b)::r,hi,d=>by
  simp only[GN,Yb]at hi
  simp only[As]
  split
  ·rename_i a
   have a:=BY.1 a
   subst a
   have:=Ya hi.1.1
   grind
  ·exact V6 hi.2 d
def Ib(H:Hp)(r:Ren)(hs:List (Ab×Blk)):Nat→List Ab→Prop
 |_,[]=>True
 |i,k::ks=>((H k).g=r.γ (0,i)+(As hs (0,i)).g∧((As hs (0,i)).live=true→H k=AA r (0,i) (As hs (0,i))))∧Ib H r hs (i+1) ks
theorem XF{H:Hp}{r:Ren}{hs:List (Ab×Blk)}:∀{ks:List Ab} {i:Nat},Ib H r hs i ks→∀j k,ks[j]?=some k→(H k).g=r.γ (0,i+j)+(As hs (0,i+j)).g∧((As hs (0,i+j)).live=true→H k=AA r (0,i+j) (As hs (0,i+j)))
 |[],i,_,j,k,h=>by simp at h
 |q::ks,i,h,0,k,a=>by
  simp only[Y5,Yg]at a
  subst a
  exact h.1
 |q::ks,i,h,j+1,k,a=>by
  have:=XF h.2 j k (by simpa using a)
  grind
def HK(l:Nat):List Ab→Prop
 |[]=>True
 |k::ks=>k.1≤l∧HK l ks
theorem Qb{l:Nat}:∀{ks:List Ab},HK l ks→∀k∈ks,k.1≤l
 |q::ks,h,k,a=>by
  rcases YK.1 a with rfl|a
  ·exact h.1
  ·exact Qb h.2 k a
def HP:Nat→List Nat
 |0=>[]
 |n+1=>HP n++[n]
theorem PY:∀{n i:Nat},i<n→i∈HP n
 |n+1,i,h=>by
  simp only[HP,Ji,Lg]
  rcases Yz i n with a|a
  ·exact .inl (PY a)
  grind
theorem ZkF{P:Program}{T:Nat→Option TI}{n:Nat}{f:FuncId}{fn:Func}(u:List ResultVar)(c:Code){l:Nat}{xs:List AV}{H:Hp}{a:AV→Hp→Prop}(ks:List Ab)(g:List Nat)(os:Nat)(θ:Nat→AV)(ys:List AV)(hs:List (Ab×Blk))(Y:AV)(e:List Blk){Y':AV}{bs':List Blk}
  (A:P.funcs[f]?=some fn) (hb:fn.body=some c) (d:(fn.name== "runtime.NumGoroutine")=false) (D:fn.ntmps=n) (F:fn.results.toList=u) (G:xs.length≤n) (x:AX P T) (s:ks.length=os)
  (p:HK l ks) (q:ks.Nodup) (j:GN os hs=true) (w:Ib H (BX l ks g θ H) hs 0 ks) (t:Aj (BX l ks g θ H) ys=xs) (m:e.length=os) (o:∀b∈e,b.live=true) (z:∀r,G3 l ks g r→ren r Y=Y') (v:∀r,G3 l ks g r→Cm r 0 e=bs')
  (h:∀C,CxOk C→C.outs=os→C.fx=HP os→C.l=l→C.H0=H→C.θ=θ→C.κ=Dj l ks→C.no=(fun k=>k∈ks)→LW P n C c (Aa (C2 0 ys) hs) (FQ T u os (fun y b=>y=Y∧b=e)))
  (E:a Y' (C6 H ks bs')):Zb8 P f l xs H a:=by
 subst s
 exact ZmI u c ks g (HP ks.length) θ ys hs Y e A hb d D F G x (Qb p) q (fun i hi=>PY hi) (V6 j) (W4 j) (fun i k B=>by have:=XF w i k B;rw[YS]at this;exact this) t m o z v h E
theorem Zm4{α:Type}{e e':α→List D}{xs:List α}{j sz:Nat}{x:α}(b:xs[j]?=some x)(hl:∀x,(e x).length=sz)(he:∀x,e x=e' x):Db (Ac e xs) (j*sz) ((e' x).map .d):=by
 have a:j<xs.length:=by
  grind
 have:=mb (z:=x) a hl he
 grind
theorem ZzT{P:Program}{l o:Nat}{no b:Ab→Prop}{H j:Hp}{c:AV}{m:List AV}{y:AV}(h:BH P l no H c m y)(hl:l≤o)(i:∀q:Ab,q.1≤l→¬no q→¬b q)(r:∀q:Ab,q.1≤l→¬no q→j q=H q):BH P o b j c m y:=by
 obtain⟨f,first,a,e,h⟩:=h
 exact⟨f,first,a,e,fun l' p g s=>h l' p (ER hl g) fun k d n=>by rw[s k (ER d hl) (i k d n),r k d n]⟩
def qE:Code→Operand
 |.cond o _ _=>o
 |_=>.tmp 0
def EA(c:Code)(k:Nat):Option Nat:=match Fw c k with|some (d,_,_)=>d|none=>none
def callF(c:Code)(k:Nat):Operand:=match Fw c k with|some (_,f,_)=>f|none=>.tmp 0
def FE(c:Code)(k:Nat):List Operand:=match Fw c k with|some (_,_,xs)=>xs|none=>[]
theorem m7{P:Program}{n:Nat}{C:Cx}{Q:Exit→St→Prop}(m:CxOk C){os:Nat}{fx:List Nat}(p:C.outs=os)(o:C.fx=fx){c:Code}{k:Nat}{ss:List (Nat×AV)}{hs:List (Ab×Blk)}
  (f:FuncId) (first a xs:List AV) (i:Fw c k=some (EA c k,callF c k,FE c k)) (q:ev (AJ ss) (callF c k)=.fn (.func f) first a) (l:first++(FE c k).map (ev (AJ ss))++a=xs) (ks:List Ab) (hb:List (Ab×Blk)) (e:(ks.map fun k=>(k,As hs k))=hb)
  (x:AV) (Ao:List (Ab×Blk)) (fr fl:List Ab) (g:(C5 os Ao&&JA fr Ao&&Ku fr fx&&Gk hs&&KD n (EA c k)&&ks.all (Bk os))=true) (j:Eh C Ao) (d:HW (As hs) fl)
  (b:∀r:Ren,r.θ=C.θ→r.H0=C.H0→r.κ=C.κ→r.no=C.no→Gl P C.l r f xs hb x Ao fr)
  (h:LO P n C c (k+1) (Aa (FS (EA c k) x (Dn fr ss)) (Ao++Ct (Ao.map (·.1)) fr fl hs)) Q):LO P n C c k (Aa ss hs) Q:=
 ZyY m p o _ _ _ i f first a xs q l ks hb e x Ao fr fl g j d b h
end Go.Eng
namespace Go.Eng
open Go
set_option linter.all false
end Go.Eng
namespace Go.Eng
set_option linter.all false
open Go Go.RowKit Go.Shelf
theorem oI{α:Type}{e:α→List D}{xs:List α}{l h:Nat}(q:DW l h xs.length):DW l h (xs.map e).length:=by rw[YD];exact q
theorem Zzl{α:Type}{e:α→List D}{xs:List α}{sz:Nat}(he:∀x,(e x).length=sz):∀d,d∈xs.map e→d.length=sz:=fun d h=>by
 grind
theorem n0{α:Type}{e:α→List D}{xs:List α}{sz l h:Nat}(he:∀x,(e x).length=sz):Lc (xs.map e) sz l h (((xs.drop l).take (h-l)).map e):=
 ⟨Zzl he,by rw[←List.map_drop,←List.map_take]⟩
theorem Zop{i:Int}{len sz:Nat}(a:0≤i)(h:i<len):JN i len 0 sz (i.toNat*sz):=⟨a,h,by simp⟩
theorem ZsR{α:Type}{e:α→List D}{xs:List α}{j sz a:Nat}{z y:α}{vs:List D}(b:j<xs.length)(hl:∀x,(e x).length=sz)(h:a+vs.length≤sz)(he:e y=(e (xs.getD j z)).take a++vs++(e (xs.getD j z)).drop (a+vs.length)):
  G4 (Ac e xs) (j*sz+a) (vs.map .d) (Ac e (xs.set j y)):=by
 have d:(j+1)*sz≤xs.length*sz:=YX _ b
 rw[YN,Jt]at d
 refine⟨by rw[YD,F8 hl];omega,?_⟩
 have f:xs.getD j z=xs[j]:=by rw[Yu,Ye b];rfl
 rw[f]at he
 have hs:Ac e xs=Ac e (xs.take j)++((e xs[j]).map .d++Ac e (xs.drop (j+1))):=by
  conv=>lhs;rw[←Hd j xs,Ij b,PV,F6]
 have c:(Ac e (xs.take j)).length=j*sz:=by rw[F8 hl,YO,G7 (by omega)]
 have g:((e xs[j]).map AV.d).length=sz:=by rw[YD,hl]
 rw[hs,List.take_append,NO (by omega:(Ac e (xs.take j)).length≤j*sz+a),c,show j*sz+a-j*sz=a from by omega,Sh (by omega),
  List.drop_append,a8 (by rw[c];omega),c,FZ,show j*sz+a+(vs.map AV.d).length-j*sz=a+vs.length from by rw[YD];omega,be (by omega),
  bc,Yi b,PV,F6,he]
 simp only[Jj,List.map_take,List.map_drop,Ek]
end Go.Eng
namespace Go.Eng
set_option linter.all false
theorem Wu{α:Type}{l:List α}{p:α→Bool}:((match l.findIdx? p with|some k=>(k:Int)|none=>-1)≥0)↔l.any p=true:=by
 rw[YT]
 cases h:l.findIdx? p with
 |none=>
  rw[SA]at h
  constructor
  ·intro e;exact absurd e (by decide)
  ·rintro⟨x,d,a⟩;rw[h x d]at a;cases a
 |some k=>
  obtain⟨b,c,_⟩:=NP.1 h
  exact⟨fun _=>⟨l[k],Jn b,c⟩,fun _=>Int.natCast_nonneg k⟩
theorem Zri{α:Type}{e e':α→List D}{xs:List α}{j sz:Nat}{y:α}(a:j<xs.length)(hl:∀x,(e x).length=sz)(he:∀x,e x=e' x):G4 (Ac e xs) (j*sz) ((e' y).map .d) (Ac e (xs.set j y)):=by
 rw[←he];exact uU a hl
theorem mN{α:Type}{sz:Nat}{e e':α→List D}{y:α}(C:List AV)(hl:∀x,(e x).length=sz)(he:∀x,e x=e' x):EI sz C (.d (.list [e' y])) 1 (Ac e [y]):=by
 rw[Zr0,he];exact ZrH C (by rw[←he];exact hl y)
theorem ZzQ{C:List AV}{o n m sz:Nat}{a:List (List D)}(h:n=m)(k:FY C o m sz a):FY C o n sz a:=h▸k
theorem Zzi{α:Type}{e:α→List D}{xs:List α}{n m off sz:Nat}(a:n=m)(h:off≤xs.length)(hl:∀x,(e x).length=sz):n=m∧off*sz≤(Ac e xs).length∧(Ac e xs).drop (off*sz)=Ac e (xs.drop off):=
 ⟨a,by rw[F8 hl];exact YX _ h,Mp hl xs off⟩
theorem ZyU{α:Type}{e:α→List D}{z:α}{c:List AV}(a:(e z).map .d=c)(m:Nat):(List.replicate m c).flatten=Ac e (List.replicate m z):=by
 subst a
 induction m with
 |zero=>rfl
 |succ m b=>rw[SE,If,b,SE,F6]
end Go.Eng
namespace Go.Eng
set_option linter.all false
open Go Go.RowKit
section
variable {P:Program} {T:Nat→Option TI} {n:Nat} {C:Cx} {τ:St} {Q:Exit→St→Prop}
theorem u9(f:CxOk C){os:Nat}{fx:List Nat}(k:C.outs=os)(i:C.fx=fx){c:Code}(a:AT)(lf:Lf)(q:Ren→(St→Prop)→Prop)
  (m:∀r Φ,AW r os a τ (fun τ _=>Do fx lf τ Φ)=q r Φ) (h:∀r,r.θ=C.θ→r.H0=C.H0→r.κ=C.κ→r.no=C.no→q r (fun τ'=>LW P n C c τ' Q)):LW P n C c τ Q:=by
 subst k
 subst i
 intro γ σ l j
 have e:=h (C.r γ) rfl rfl rfl rfl
 rw[←m]at e
 obtain⟨y,w,x,g,b,d⟩:=BP (n:=n) f a e j
 obtain⟨u,z,v,o,p,s,t⟩:=F7 (n:=n) f g l b
 exact Bn.weak (p u v o s) (d.trans t)
end
theorem mY{s:ByteArray}{i:Int}(a:0≤i)(h:i<s.size):HQ s i ((s.data.toList.getD i.toNat 0).toNat:Int):=by
 have:=oy (s:=s) (i:=i.toNat) (by omega)
 rwa [Int.toNat_of_nonneg a]at this
end Go.Eng
