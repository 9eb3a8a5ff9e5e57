import Derived.Test.YtbcmdieedjamgaaGreatZe10
import Derived.OrdersHeld
import Derived.Test.YtbcmdieedjamgaaGreatProg
import Derived.Test.YtbcmdieedjamgaaGreatZe07
import Derived.Test.YtbcmdieedjamgaaGreatZe00
namespace Go.Eng
set_option linter.all false
open Go Go.RowKit
section
variable {V:Type} [Mv V]
def Mf(s:ByteArray):List (ByteArray×V)→Option V
 |[]=>none
 |p::r=>match decide (p.1=s)with|true=>some p.2|false=>Mf s r
def On(s:ByteArray)(v:V):List (ByteArray×V)→List (ByteArray×V)
 |[]=>[(s,v)]
 |p::r=>match decide (p.1=s)with|true=>(s,v)::r|false=>p::On s v r
def OJ(s:ByteArray):List (ByteArray×V)→List (ByteArray×V)
 |[]=>[]
 |p::r=>match decide (p.1=s)with|true=>r|false=>p::OJ s r
theorem zN(s:ByteArray):∀xs:List (ByteArray×V),FV s (xs.map DL)=(Mf s xs).map Mv.e
 |[]=>rfl
 |p::r=>by
  simp only[YS,FV,DL,GD,Mf]
  cases decide (p.1=s)with
  |true=>rfl
  |false=>exact zN s r
theorem zU(s:ByteArray)(v:V):∀xs:List (ByteArray×V),In s (Mv.e v) (xs.map DL)=(On s v xs).map DL
 |[]=>rfl
 |p::r=>by
  simp only[YS,In,DL,GD,On]
  cases decide (p.1=s)with
  |true=>rfl
  |false=>exact congrArg _ (zU s v r)
theorem Zow(s:ByteArray):∀xs:List (ByteArray×V),Iz s (xs.map DL)=(OJ s xs).map DL
 |[]=>rfl
 |p::r=>by
  simp only[YS,Iz,DL,GD,OJ]
  cases decide (p.1=s)with
  |true=>rfl
  |false=>exact congrArg _ (Zow s r)
def Lx(s:ByteArray)(xs:List (ByteArray×V)):V:=(Mf s xs).getD Mv.z
def Ls(s:ByteArray)(xs:List (ByteArray×V)):Bool:=(Mf s xs).isSome
theorem ZFc(s:ByteArray)(xs:List (ByteArray×V)):Qq (xs.map DL) s (Mv.e (Mv.z (V:=V))) (Mv.e (Lx s xs)) (Ls s xs):=by
 unfold Qq Lx Ls
 rw[zN]
 cases Mf s xs<;>exact⟨rfl,rfl⟩
variable {os:Nat} {β:Type}
@[reducible] def NB(xs:List (ByteArray×V))(s:ByteArray)(k:V→Bool→PT os β):PT os β:=
 ⟨.av (.d (.bool (Ls s xs))) (.ds (Mv.e (Lx s xs)) (k (Lx s xs) (Ls s xs)).a),fun E=>Qq (xs.map DL) s (Mv.e (Mv.z (V:=V))) (Mv.e (Lx s xs)) (Ls s xs)∧(k (Lx s xs) (Ls s xs)).q E,(k (Lx s xs) (Ls s xs)).m,fun E=>∀v b,(k v b).n E,
 fun E c y hm a=>⟨ZFc s xs,(k _ _).ok E (c _ _) y hm a⟩⟩
@[reducible] def NC(xs:List (ByteArray×V))(s:ByteArray)(v:V)(k:PT os β):PT os β:=
 ⟨.ents ((On s v xs).map DL) k.a,fun E=>ZWV s (Mv.e v) (xs.map DL) ((On s v xs).map DL)∧k.q E,k.m,k.n,fun E b y hm a=>⟨zU s v xs,k.ok E b y hm a⟩⟩
@[reducible] def Nz(xs:List (ByteArray×V))(s:ByteArray)(k:PT os β):PT os β:=
 ⟨.ents ((OJ s xs).map DL) k.a,fun E=>ZXa s (xs.map DL) ((OJ s xs).map DL)∧k.q E,k.m,k.n,fun E b y hm a=>⟨Zow s xs,k.ok E b y hm a⟩⟩
end
@[reducible] def ND{os:Nat}{β:Type}(d q:Nat)(k:PT os β)(a:Nat.ble (q+1) os=true:=by kernel_rfl):PT os β:=
 ⟨.mv d q k.a,fun E=>FN []∧(q<os∧E.r.no (E.r.κ (0,q)))∧k.q E,k.m,k.n,fun E c y hm b=>
  ⟨fun x hx=>(by cases hx),⟨Yh a,by rw[E.g.no,E.g.κ];exact E.co.W q (Yh a)⟩,k.ok E c y hm b⟩⟩
structure KCN (P:Program) (f:FuncId) (xs:List AV) {γ:Type} (M:Option (List γ)) (e:γ→AV):Prop where
 k:∀l H ys,M=some ys→Zc3 P f l xs H (fun z H'=>(∃y∈ys,z=e y)∧H'=H)
 x:∀r,Ao r xs=xs
 e:∀r y,ren r (e y)=e y
theorem KCN.one{P:Program}{f:FuncId}{xs:List AV}{γ:Type}{M:Option (List γ)}{e:γ→AV}(K:KCN P f xs M e)(N:Option γ)(h:∀y,N=some y→∃ys,M=some ys∧∀z∈ys,z=y):KC P f xs N e:=
 ⟨fun l H y hy=>by
  obtain⟨ys,a,b⟩:=h y hy
  exact(K.k l H ys a).mono fun z j ⟨⟨i,c,d⟩,g⟩=>⟨by rw[d,b i c],g⟩,K.x,K.e⟩
structure KON (P:Program) (f:FuncId) (os:Nat) (ys:List AV) (bi:List Blk) (Θ:Cl) {γ:Type} (M:Option (List γ)) (e:γ→AV) (bs:γ→List Blk):Prop where
 k:∀l H (ks:List Ad) (gs:List Nat) (θ:Nat→AV),ks.length=os→JQ l ks→ks.Nodup→J8 H (Co l ks gs θ H) (Dp 0 bi) 0 ks→Θ (fun k=>k∈ks) l H θ→∀zs,M=some zs→
  Zc3 P f l (Ao (Co l ks gs θ H) ys) H (fun z H'=>∃y∈zs,z=ren (Co l ks gs θ H) (e y)∧H'=DA H ks (CT (Co l ks gs θ H) 0 (bs y)))
end Go.Eng
namespace Go.Eng
set_option linter.all false
open Go Go.RowKit
inductive Pl where
 |nil
 |fst (i:Nat) (r:Pl)
 |two (i j:Nat) (a b:Pl)
 |opt (hs:List Nat) (i:Nat) (r s:Pl)
def Pl.len:Pl→Nat
 |.nil=>0
 |.fst _ r=>r.len+1
 |.two _ _ a _=>a.len+1
 |.opt _ _ r _=>r.len+1
def VM:Pl→Bool
 |.opt _ _ _ _=>true
 |_=>false
def Sq:Pl→List Nat
 |.opt _ i _ s=>i::Sq s
 |_=>[]
def LY:Pl→Bool
 |.opt hs i r s=>hs.all fun k=>(Sq (.opt hs i r s)).any (Nat.beq k)
 |_=>true
def Ee(P:Program)(L:List Oper)(Q:Exit→Act→World→Prop)(S:World→Prop):Pl→Act→World→Prop
 |.nil,a,w=>Q .normal a w
 |.fst i r,a,w=>match Bk L i with
  |some o=>o.wp P a w (fun b w'=>S w'∧Ee P L Q S r b w') Q
  |none=>False
 |.two i j x y,a,w=>match Bk L i,Bk L j with
  |some o,some c=>o.wp P a w (fun b w'=>S w'∧Ee P L Q S x b w') Q∧c.wp P a w (fun b w'=>S w'∧Ee P L Q S y b w') Q
  |_,_=>False
 |.opt _ i x y,a,w=>match Bk L i with
  |some o=>o.wp P a w (fun b w'=>S w'∧Ee P L Q S x b w') Q∧(VM y=true→Ee P L Q S y a w)
  |none=>False
def Ve(a hs:List Nat):Nat→List Oper→Bool
 |_,[]=>true
 |k,ok::r=>(a.any (Nat.beq k)||hs.any (Nat.beq k)||ok.after.toList.any (fun e=>Region.binds .any e&&!a.any (Nat.beq e.on)))&&Ve a hs (k+1) r
theorem Zod{a hs:List Nat}:∀{r:List Oper} {c k:Nat} {ok:Oper},Ve a hs c r=true→r[k]?=some ok→
  (c+k)∈a∨c+k∈hs∨∃e∈ok.after,Region.binds .any e=true∧e.on∉a
 |[],c,k,ok,_,h=>by simp at h
 |q::r,c,k,ok,f,h=>by
  unfold Ve at f
  rw[Yc]at f
  cases k with
  |zero=>
   simp only[Gl,Yk]at h
   subst h
   have b:=f.1
   simp only[YH]at b
   rcases b with(b|b)|b
   ·exact .inl (Gt.1 b)
   ·exact .inr (.inl (Gt.1 b))
   ·obtain⟨e,he,d⟩:=YR.1 b
    rw[Yc]at d
    exact .inr (.inr ⟨e,by simpa using he,d.1,fun hm=>by have:=Gt.2 hm;rw[this]at d;cases d.2⟩)
  |succ k=>
   have:=Zod (k:=k) f.2 (by simpa using h)
   grind
def R1(a:List Nat)(i j:Nat):Nat→List Oper→Bool
 |_,[]=>true
 |k,ok::r=>(a.any (Nat.beq k)||Nat.beq k i||Nat.beq k j||ok.after.toList.any (fun e=>Region.binds .any e&&!a.any (Nat.beq e.on)))&&R1 a i j (k+1) r
theorem Zrg{a:List Nat}{i j:Nat}:∀{r:List Oper} {c k:Nat} {ok:Oper},R1 a i j c r=true→r[k]?=some ok→
  (c+k)∈a∨c+k=i∨c+k=j∨∃e∈ok.after,Region.binds .any e=true∧e.on∉a
 |[],c,k,ok,_,h=>by simp at h
 |q::r,c,k,ok,f,h=>by
  unfold R1 at f
  rw[Yc]at f
  cases k with
  |zero=>
   simp only[Gl,Yk]at h
   subst h
   have b:=f.1
   simp only[YH]at b
   rcases b with((b|b)|b)|b
   ·exact .inl (Gt.1 b)
   ·exact .inr (.inl (Yd b))
   ·exact .inr (.inr (.inl (Yd b)))
   ·obtain⟨e,he,d⟩:=YR.1 b
    rw[Yc]at d
    exact .inr (.inr (.inr ⟨e,by simpa using he,d.1,fun hm=>by have:=Gt.2 hm;rw[this]at d;cases d.2⟩))
  |succ k=>
   have:=Zrg (k:=k) f.2 (by simpa using h)
   grind
def Qr(env:List (Nat×Nat))(o:Oper):Bool:=match o.op with
 |.load _ x=>(match Ln x with|some y=>(JN y env).isSome|none=>false)
 |_=>false
def GE(P:Program)(L:List Oper):List (Nat×Nat)→List Nat→Pl→Bool
 |_,a,.nil=>(List.range L.length).all fun j=>a.any (Nat.beq j)
 |env,a,.fst i c=>(match Bk L i with
  |some b=>!(a.any (Nat.beq i))&&b.after.toList.all (fun e=>!Region.binds .any e||a.any (Nat.beq e.on))&&(match D1 P b||Qr env b with|true=>QG.chkV P L a i b 0 L|false=>OL P L a i b 0 L)&&GE P L (DQ P env b) (i::a) c&&LY c
  |none=>false)
 |env,a,.two i j x y=>(match Bk L i,Bk L j with
  |some b,some d=>b.after.toList.all (fun e=>!Region.binds .any e||a.any (Nat.beq e.on))&&!(a.any (Nat.beq i))&&!(a.any (Nat.beq j))&&R1 a i j 0 L&&Nat.beq x.len y.len&&GE P L (DQ P env b) (i::a) x&&GE P L (DQ P env d) (j::a) y&&LY x&&LY y
  |_,_=>false)
 |env,a,.opt hs i x y=>(match Bk L i with
  |some b=>b.after.toList.all (fun e=>!Region.binds .any e||a.any (Nat.beq e.on))&&!(a.any (Nat.beq i))&&Ve a hs 0 L&&GE P L (DQ P env b) (i::a) x&&LY x&&(!VM y||(Nat.beq y.len (x.len+1)&&GE P L env a y))
  |none=>false)
def aI(o:Oper)(a b:Act):Prop:=∃u,∀x,b.eval x=(a.put o.dst u).eval x
theorem US{P:Program}{o:Oper}{a:Act}{w:World}{N:Act→World→Prop}{Q:Exit→Act→World→Prop}(h:o.wp P a w N Q):o.wp P a w (fun g w'=>N g w'∧aI o a g∧∀v b,(execOp a.eval o).run P w=.ok (.value v) b→g=a.put o.dst v) Q:=by
 unfold Oper.wp at*
 cases j:(execOp a.eval o).run P w with
 |ok n w'=>
  rw[j]at h
  cases n<;>simp only[Oper.upon]at h⊢
  case value u=>exact⟨h,⟨u,fun _=>rfl⟩,fun v b e=>by cases e;rfl⟩
  case skip=>exact⟨h,⟨_,fun _=>rfl⟩,fun v b e=>by cases e⟩
  case defer d=>exact⟨h,⟨Go.undef,fun x=>by cases o.dst<;>rfl⟩,fun v b e=>by cases e⟩
  case enter f args=>
   refine Calls.mono h fun e i he=>?_
   cases e with
   |returned u=>exact⟨he,⟨u,fun _=>rfl⟩,fun v b e=>by cases e⟩
   |panicked c=>exact he
   |outgrown=>exact he
  case row row args=>exact Rows.mono h fun u i he=>⟨he,⟨u,fun _=>rfl⟩,fun v b e=>by cases e⟩
 |halt x w'=>
  rw[j]at h
  cases x<;>simp only[Oper.upon]at h⊢
  grind
def JF(β:Nat→Nat)(env:List (Nat×Nat))(a:Act):Prop:=∀p∈env,∀b,pb (a.eval (.tmp p.1))=some b→b=β p.2
theorem eval_put(a:Act)(d j:Nat)(u:Value)(h:j≠d):(a.put (some d) u).eval (.tmp j)=a.eval (.tmp j):=by
 simp only[Act.put,Act.eval,YC,Rq]
 grind
theorem Zj9(a:Act)(d:Nat)(u:Value):(a.put (some d) u).eval (.tmp d)=u∨(a.put (some d) u).eval (.tmp d)=Go.undef:=by
 simp only[Act.put,Act.eval,YC,Rq]
 grind
theorem JF.put{P:Program}{β:Nat→Nat}{env:List (Nat×Nat)}{a i:Act}{o:Oper}{w:World}(j:JF β env a)(h:aI o a i)(x:∀z,Lm P o=some z→∃v n,(execOp a.eval o).run P w=.ok (.value v) n∧i=a.put o.dst v):JF β (DQ P env o) i:=by
 intro p c b f
 unfold DQ at c
 cases g:o.dst with
 |none=>
  rw[g]at c
  obtain⟨u,l⟩:=h
  rw[l,g]at f
  exact j p c b f
 |some d=>
  rw[g]at c
  rcases D6.1 c with c|c
  ·cases hs:Lm P o with
   |none=>rw[hs]at c;cases c
   |some z=>
    rw[hs]at c
    dsimp only at c
    cases he:JN z env with
    |none=>rw[he]at c;cases c
    |some r=>
     rw[he]at c
     rcases Y3.1 c with rfl
     obtain⟨v,n,q,s⟩:=x z hs
     rw[s,g]at f
     have Au:pb v=some b:=by
      rcases Zj9 a d v with e|e
      ·grind
      ·rw[e]at f;cases f
     exact j _ (K2 he) b (nJ hs q Au)
  ·obtain⟨t,m⟩:=Du.1 c
   obtain⟨u,l⟩:=h
   have k:p.1≠d:=fun e=>by rw[e]at m;simp at m
   rw[l,g,eval_put a d p.1 u k]at f
   exact j p t b f
section
variable {P:Program} {Q:Exit→Act→World→Prop} {L:List Oper} {S:World→Prop}
theorem Zmk{ops:Array Oper}{i:Nat}{m:Oper}{v:Value}(hi:ops[i]?=some m)(G:Dl P m=true)(O:∀(j:Nat) (o:Oper),ops[j]?=some o→o.guard=none)(q:∀(j:Nat) (o:Oper) cs b,ops[j]?=some o→o.op≠.select cs b)
  (hQ:∀c a w,¬Q (.panic c) a w) (T:¬LetsOut Q):∀(fuel:Nat) (d:Array Bool) (a:Act) (w:World),DC ops d→
   (∀j l,ops[j]?=some l→j≠i→d.getD j true=false→¬Waits ops j i→m.apart ops l=true∧(Dl P l||JX l)=true)→
   i∈Region.ready .any ops d→(execOp a.eval m).run P w=.ok (.value v) w→S w→
   wpAnyH P .any ops Q S fuel (d.setIfInBounds i true) (a.put m.dst v) w→wpAnyH P .any ops Q S (fuel+1) d a w:=by
 have R:∀{a:Act} {w:World} {K:Act→World→Prop},(execOp a.eval m).run P w=.ok (.value v) w→K (a.put m.dst v) w→wpOp P ops Q i K a w:=fun hy h=>by
  unfold wpOp
  simp only[hi]
  rw[Yi (by simp[Region.wanted,O i m hi])]
  left
  unfold Oper.wp
  rw[hy]
  exact h
 intro fuel
 induction fuel with
 |zero=>
  intro d a w _ _ r hy U H
  refine⟨fun h=>(by rw[h]at r;cases r),fun j s=>?_⟩
  by_cases g:j=i
  ·grind
  ·have:=ready_mono s g
   rw[H.1]at this
   cases this
 |succ fuel W=>
  intro d a w L M r hy U H
  refine⟨fun h=>(by rw[h]at r;cases r),fun j s=>?_⟩
  by_cases g:j=i
  ·grind
  ·have e:=H.2 j (ready_mono s g)
   obtain⟨z,l,p,N⟩:=mem_ready.1 s
   have t:=(mem_ready.1 r).1
   obtain⟨B,F⟩:=M j l p g z (L.nowait s t)
   obtain⟨X,Y,Z⟩:=Oper.apart_spec B
   obtain⟨q1,q2⟩:=ZrV (P:=P) (ρ:=a.eval) F
   unfold wpOp at e⊢
   simp only[p]at e⊢
   have J:∀y,Region.wanted l y=true:=fun y=>by simp[Region.wanted,O j l p]
   rw[Yi (J _)]at e⊢
   rcases e with e|⟨_,e⟩
   case inr=>exact absurd e T
   left
   unfold Oper.wp at e⊢
   rw[execOp_put l (fun cs b=>q j l cs b p) a m.dst v X]at e
   cases f:(execOp a.eval l).run P w with
   |halt x w'=>
    rw[f]at e
    cases x<;>simp only[Oper.upon]at e
    grind
   |ok n w'=>
    have I:=q1 _ _ _ f
    obtain⟨u,rfl⟩:=q2 _ _ _ f
    rw[f]at e
    simp only[Oper.upon]at e⊢
    refine⟨e.1,W (d.setIfInBounds j true) (a.put l.dst u) w' (L.ready s) (fun k ok V D A E=>?_) (ready_mono r (Ne.symm g)) ?_ e.1 ?_⟩
    ·refine M k ok V D ?_ E
     by_cases C:j=k
     ·grind
     ·rw[getD_set_ne true C]at A;exact A
    ·rw[execOp_put m (fun cs b=>q i m cs b hi) a l.dst u Z];exact Zyi G _ _ _ _ hy I
    ·rw[jC _ _ g,←Act.put_comm a v u Y];exact e.2
theorem Zq3{β:Nat→Nat}{F:Nat→Prop}{w0:World}(hS0:∀b w,F b→S w→w.heap[b]?=w0.heap[b]?)(hC:∀b,F b→ES w0 b)(hu:∀(j:Nat) (o:Oper),L.toArray[j]?=some o→o.guard=none)(hsel:∀(j:Nat) (o:Oper) cs b,L.toArray[j]?=some o→o.op≠.select cs b)(hQ:∀c a w,¬Q (.panic c) a w)(hO:¬LetsOut Q):
  ∀(π:Pl) (env:List (Nat×Nat)) (d:List Nat) (g:Array Bool) (a:Act) (w:World),g.size=L.length→(∀j,j<L.length→(g.getD j true=true↔j∈d))→(∀x∈d,x<L.length)→DC L.toArray g→GE P L env d π=true→(∀p∈env,F (β p.2))→JF β env a→S w→
   Ee P L Q S π a w→(LY π=true→wpAnyH P .any L.toArray Q S π.len g a w)∧
    ∀k∈Sq π,wpOp P L.toArray Q k (fun B w'=>S w'∧wpAnyH P .any L.toArray Q S (π.len-1) (g.setIfInBounds k true) B w') a w:=by
 have un:∀(g:Array Bool) (d:List Nat) (i:Nat),(∀j,j<L.length→(g.getD j true=true↔j∈d))→i<L.length→d.any (Nat.beq i)=false→g.getD i true=false:=fun g d i hl O c1=>by
  cases hb:g.getD i true with
  |false=>rfl
  |true=>have:=Gt.2 ((hl i O).1 hb);rw[c1]at this;cases this
 have next:∀(g:Array Bool) (d:List Nat) (i:Nat),g.size=L.length→(∀j,j<L.length→(g.getD j true=true↔j∈d))→∀j,j<L.length→((g.setIfInBounds i true).getD j true=true↔j∈i::d):=fun g d i hs hl j Z=>by
  by_cases s:i=j
  ·subst s
   simp only[Yx,true_or,iff_true]
   simp[hs,Z]
  ·rw[getD_set_ne true s,hl j Z,Yx]
   exact⟨.inr,fun h=>h.resolve_left (Ne.symm s)⟩
 have rdy:∀(g:Array Bool) (d:List Nat) (i:Nat) (l:Oper),g.size=L.length→(∀j,j<L.length→(g.getD j true=true↔j∈d))→(∀x∈d,x<L.length)→L[i]?=some l→d.any (Nat.beq i)=false→
   l.after.toList.all (fun e=>!Region.binds .any e||d.any (Nat.beq e.on))=true→i∈Region.ready .any L.toArray g:=fun g d i l hs hl q hi c1 c2=>
  mem_ready.2 ⟨un g d i hl (Yb.1 hi).1 c1,l,by simpa using hi,fun e he hb=>by
   have h1:=Yu.1 c2 e (by simpa using he)
   rw[hb]at h1
   simp only[Y7,Kh]at h1
   have hm:=Gt.1 h1
   have h2:=q _ hm
   have A:=(hl _ h2).2 hm
   simp only[YC]at A⊢
   rw[Yv (by omega)]at A⊢
   simpa using A⟩
 have V:∀(env:List (Nat×Nat)) (o:Oper),(∀p∈env,F (β p.2))→∀p∈DQ P env o,F (β p.2):=fun env o Y p hp=>by
  unfold DQ at hp
  split at hp
  ·exact Y p hp
  ·rcases D6.1 hp with hp|hp
   ·split at hp
    ·split at hp
     ·rename_i r M
      have e:=Y3.1 hp
      rw[e]
      have:=Y _ (K2 M)
      exact this
     ·cases hp
    ·cases hp
   ·exact Y p (Du.1 hp).1
 have G:∀(env:List (Nat×Nat)) (o:Oper) (a B:Act) (w:World) (N:Act→World→Prop),o.wp P a w N Q→JF β env a→aI o a B→(∀v w1,(execOp a.eval o).run P w=.ok (.value v) w1→B=a.put o.dst v)→JF β (DQ P env o) B:=fun env o a B w N hw W h1 h2=>by
  refine W.put (P:=P) (w:=w) h1 fun z hz=>?_
  have hv:D1 P o=true:=by unfold Lm at hz;cases hv:D1 P o with|true=>rfl|false=>rw[hv]at hz;cases hz
  obtain⟨v1,v2⟩:=T4 (P:=P) (ρ:=a.eval) hv
  unfold Oper.wp at hw
  cases f:(execOp a.eval o).run P w with
  |halt x w'=>
   rw[f]at hw
   cases x<;>simp only[Oper.upon]at hw
   exact absurd hw (hQ _ _ _)
  |ok n w'=>
   obtain⟨u,rfl⟩:=v2 _ _ _ f
   exact⟨u,w',rfl,h2 u w' f⟩
 intro π
 induction π with
 |nil=>
  intro env d g a w hs hl q hD D Y W hS h
  unfold GE at D
  rw[Yu]at D
  refine⟨fun _=>⟨?_,h⟩,fun k H=>by cases H⟩
  cases M:Region.ready .any L.toArray g with
  |nil=>rfl
  |cons x xs=>
   have hx:x∈Region.ready .any L.toArray g:=by rw[M];exact Yz ..
   obtain⟨X,o,ho,_⟩:=mem_ready.1 hx
   have q:x<L.length:=by have:=(GY.1 ho).1;simpa using this
   have:=(hl x q).2 (Gt.1 (D x (RA.2 q)))
   rw[X]at this
   cases this
 |two i j x y ihx ihy=>
  intro env d g a w hs hl q hD D Y W hS h
  unfold GE at D
  unfold Ee at h
  cases hi:L[i]? with
  |none=>rw[Cn,hi]at D;simp at D
  |some l=>
   cases Z:L[j]? with
   |none=>rw[Cn,Cn,hi,Z]at D;simp at D
   |some K=>
    rw[Cn,Cn,hi,Z]at D h
    dsimp only at h
    simp only[Yc,YK]at D
    obtain⟨⟨⟨⟨⟨⟨⟨⟨c0,c1⟩,c2⟩,c5⟩,c6⟩,c7⟩,c8⟩,cx⟩,cy⟩:=D
    refine⟨fun _=>?_,fun k H=>by cases H⟩
    have O:i<L.length:=(Yb.1 hi).1
    have hjL:j<L.length:=(Yb.1 Z).1
    obtain⟨h1,h2⟩:=h
    have lt':∀k,k<L.length→∀z∈k::d,z<L.length:=fun k H z hz=>by
     rcases Yx.1 hz with rfl|hz
     ·exact H
     ·exact q z hz
    show wpAnyH P .any L.toArray Q S (x.len+1) g a w
    have hready:∀k∈Region.ready .any L.toArray g,k=i∨k=j:=fun k H=>by
     obtain⟨k0,ok,hok,hall⟩:=mem_ready.1 H
     have hkl:k<L.length:=by have:=(GY.1 hok).1;simpa using this
     have:=Zrg (k:=k) c5 (by simpa using hok)
     rw[YN]at this
     rcases this with A|A|A|⟨e,he,hb,I⟩
     ·have:=(hl k hkl).2 A;rw[k0]at this;cases this
     ·exact .inl A
     ·exact .inr A
     ·have T:=hall e he hb
      have h5:e.on<L.length:=by
       rcases YF e.on g.size with h|h
       ·omega
       ·simp[Gm h,YC]at T
      refine absurd ((hl e.on h5).1 ?_) I
      simp only[YC]at T⊢
      rw[Yv (by omega)]at T⊢
      simpa using T
    have M:=rdy g d i l hs hl q hi c1 c0
    refine⟨fun X=>(by rw[X]at M;cases M),fun k H=>?_⟩
    rcases hready k H with rfl|rfl
    ·unfold wpOp
     have R:L.toArray[k]?=some l:=by simpa using hi
     simp only[R]
     rw[Yi (by simp[Region.wanted,hu k _ R])]
     exact .inl (Oper.wp_mono (fun B w' m=>⟨m.1.1,(ihx (DQ P env l) (k::d) _ B w' (by simp[hs]) (next g d k hs hl) (lt' k O) (hD.ready H) c7 (V env l Y) (G env l a B w _ h1 W m.2.1 m.2.2) m.1.1 m.1.2).1 cx⟩) (US h1))
    ·unfold wpOp
     have R:L.toArray[k]?=some K:=by simpa using Z
     simp only[R]
     rw[Yi (by simp[Region.wanted,hu k _ R])]
     rw[Yd c6]
     exact .inl (Oper.wp_mono (fun B w' m=>⟨m.1.1,(ihy (DQ P env K) (k::d) _ B w' (by simp[hs]) (next g d k hs hl) (lt' k hjL) (hD.ready H) c8 (V env K Y) (G env K a B w _ h2 W m.2.1 m.2.2) m.1.1 m.1.2).1 cy⟩) (US h2))
 |opt hh0 i x y ihx ihy=>
  intro env d g a w hs hl q hD D Y W hS h
  unfold GE at D
  unfold Ee at h
  cases hi:L[i]? with
  |none=>rw[Cn,hi]at D;simp at D
  |some l=>
   rw[Cn,hi]at D h
   dsimp only at h
   simp only[Yc,YK,YH]at D
   obtain⟨⟨⟨⟨⟨c0,c1⟩,c5⟩,c7⟩,cx⟩,cy⟩:=D
   have O:i<L.length:=(Yb.1 hi).1
   obtain⟨h1,h2⟩:=h
   have lt':∀k,k<L.length→∀z∈k::d,z<L.length:=fun k H z hz=>by
    rcases Yx.1 hz with rfl|hz
    ·exact H
    ·exact q z hz
   have M:=rdy g d i l hs hl q hi c1 c0
   have hB:∀k∈Sq (.opt hh0 i x y),wpOp P L.toArray Q k (fun B w'=>S w'∧wpAnyH P .any L.toArray Q S x.len (g.setIfInBounds k true) B w') a w:=fun k H=>by
    rcases Yx.1 H with rfl|H
    ·unfold wpOp
     have R:L.toArray[k]?=some l:=by simpa using hi
     simp only[R]
     rw[Yi (by simp[Region.wanted,hu k _ R])]
     exact .inl (Oper.wp_mono (fun B w' m=>⟨m.1.1,(ihx (DQ P env l) (k::d) _ B w' (by simp[hs]) (next g d k hs hl) (lt' k O) (hD.ready M) c7 (V env l Y) (G env l a B w _ h1 W m.2.1 m.2.2) m.1.1 m.1.2).1 cx⟩) (US h1))
    ·have hy:VM y=true:=by cases y with|opt _ _ _ _=>rfl|_=>cases H
     rcases cy with cy|⟨cy,cz⟩
     ·rw[hy]at cy;cases cy
     ·have:=(ihy env d g a w hs hl q hD cz Y W hS (h2 hy)).2 k H
      rw[Yd cy,Nat.add_sub_cancel]at this
      exact this
   refine⟨fun hcov=>?_,hB⟩
   show wpAnyH P .any L.toArray Q S (x.len+1) g a w
   refine⟨fun X=>(by rw[X]at M;cases M),fun k H=>hB k ?_⟩
   obtain⟨k0,ok,hok,hall⟩:=mem_ready.1 H
   have hkl:k<L.length:=by have:=(GY.1 hok).1;simpa using this
   have:=Zod (k:=k) c5 (by simpa using hok)
   rw[YN]at this
   rcases this with A|A|⟨e,he,hb,I⟩
   ·have:=(hl k hkl).2 A;rw[k0]at this;cases this
   ·exact Gt.1 (Yu.1 hcov k A)
   ·have T:=hall e he hb
    have h5:e.on<L.length:=by
     rcases YF e.on g.size with h|h
     ·omega
     ·simp[Gm h,YC]at T
    refine absurd ((hl e.on h5).1 ?_) I
    simp only[YC]at T⊢
    rw[Yv (by omega)]at T⊢
    simpa using T
 |fst i rest ih=>
  intro env d g a w hs hl q hD D Y W hS h
  unfold GE at D
  unfold Ee at h
  cases hi:L[i]? with
  |none=>rw[Cn,hi]at D;simp at D
  |some l=>
   rw[Cn,hi]at D h
   dsimp only at h
   simp only[Yc,YK]at D
   obtain⟨⟨⟨⟨c1,c2⟩,c3⟩,c4⟩,c9⟩:=D
   refine⟨fun _=>?_,fun k H=>by cases H⟩
   have O:i<L.length:=(Yb.1 hi).1
   have U:L.toArray[i]?=some l:=by simpa using hi
   have hun:=un g d i hl O c1
   have M:=rdy g d i l hs hl q hi c1 c2
   have hlt':∀x∈i::d,x<L.length:=fun x hx=>by
    rcases Yx.1 hx with rfl|hx
    ·exact O
    ·exact q x hx
   have ih:∀B w',S w'→JF β (DQ P env l) B→Ee P L Q S rest B w'→wpAnyH P .any L.toArray Q S rest.len (g.setIfInBounds i true) B w':=fun B w' hS' hJ' h=>
    (ih (DQ P env l) (i::d) _ B w' (by simp[hs]) (next g d i hs hl) hlt' (hD.ready M) c4 (V env l Y) hJ' hS' h).1 c9
   have hli:∀j,j<L.length→g.getD j true=false→j∉d:=fun j Z hun hm=>by
    have:=(hl j Z).2 hm
    rw[hun]at this
    cases this
   have free:QG.chkV P L d i l 0 L=true→∀j K,L.toArray[j]?=some K→j≠i→g.getD j true=false→(∀e∈K.after,Region.binds .any e=true→e.on≠i)→l.apart L.toArray K=true:=fun c3 j K J s E I=>by
    have hjl:j<L.length:=by have:=(GY.1 J).1;simpa using this
    have:=ZqL (k:=j) c3 (by simpa using J)
    rw[YN]at this
    rcases this with A|A|⟨e,he,hb,he2⟩|A
    ·exact absurd A (hli j hjl E)
    ·exact absurd A s
    ·exact absurd he2 (I e he hb)
    ·exact A
   show wpAnyH P .any L.toArray Q S (rest.len+1) g a w
   have h':=US h
   by_cases hv:D1 P l=true
   ·rw[hv]at c3
    simp only[N1]at c3
    obtain⟨v1,v2⟩:=T4 (P:=P) (ρ:=a.eval) hv
    have X:=h
    unfold Oper.wp at h
    cases f:(execOp a.eval l).run P w with
    |halt x w'=>
     rw[f]at h
     cases x<;>simp only[Oper.upon]at h
     exact absurd h (hQ _ _ _)
    |ok n w'=>
     obtain⟨rfl,v3⟩:=v1 _ _ _ f
     obtain⟨u,rfl⟩:=v2 _ _ _ f
     rw[f]at h
     simp only[Oper.upon]at h
     exact wpAnyH_first U hsel (fun c a w hq=>absurd hq (hQ _ _ _)) rest.len g a w' (free c3) M (.inl ⟨by simp[Region.wanted,hu i l U],fun w2 _=>v3 w2⟩) hS (ih _ _ h.1 (G env l a _ w' _ X W ⟨u,fun _=>rfl⟩ fun v w1 e=>by rw[f]at e;cases e;rfl) h.2)
   ·have hv':D1 P l=false:=by cases hq:D1 P l with|false=>rfl|true=>exact absurd hq hv
    rw[hv',Kh]at c3
    by_cases m:Qr env l=true
    ·rw[m]at c3
     obtain⟨t,x,y,r,ho,hy,he⟩:∃t x y r,l.op=.load t x∧Ln x=some y∧JN y env=some r:=by
      unfold Qr at m
      split at m
      ·rename_i t x ho
       split at m
       ·rename_i y hy
        obtain⟨r,M⟩:=Y5.1 m
        exact⟨t,x,y,r,ho,hy,M⟩
       ·cases m
      ·cases m
     have hrd:Dl P l=true:=by unfold Dl;rw[hv',ho];rfl
     obtain⟨v1,v2⟩:=PH (P:=P) (ρ:=a.eval) hrd
     have X:=h
     unfold Oper.wp at h
     cases f:(execOp a.eval l).run P w with
     |halt x w'=>
      rw[f]at h
      cases x<;>simp only[Oper.upon]at h
      exact absurd h (hQ _ _ _)
     |ok n w'=>
      have e:=v1 _ _ _ f
      subst e
      obtain⟨u,rfl⟩:=v2 _ _ _ f
      rw[f]at h
      simp only[Oper.upon]at h
      have hyl:YieldsIf P L.toArray S l u a:=.inl ⟨by simp[Region.wanted,hu i l U],fun w2 hS2=>by
       obtain⟨b,hb,hlo⟩:=ZFl (w2:=w2) ho f
       have hb':b=β r:=W _ (K2 he) b (by rw[←TP hy];exact hb)
       have hFb:F b:=by rw[hb'];exact Y _ (K2 he)
       have e1:=hS0 b w' hFb hS
       have e2:=hS0 b w2 hFb hS2
       obtain⟨C,q1,q2,q3⟩:=hC b hFb
       exact hlo ⟨C,q1,q2,by rw[e1];exact q3⟩ (by rw[e1,e2])⟩
      exact wpAnyH_first U hsel (fun c a w hq=>absurd hq (hQ _ _ _)) rest.len g a w' (free c3) M hyl hS (ih _ _ h.1 (G env l a _ w' _ X W ⟨u,fun _=>rfl⟩ fun v w1 e=>by rw[f]at e;cases e;rfl) h.2)
    ·have hh':Qr env l=false:=by cases hq:Qr env l with|false=>rfl|true=>exact absurd hq m
     rw[hh']at c3
     have at_:∀j K,L.toArray[j]?=some K→j≠i→g.getD j true=false→¬Waits L.toArray j i→l.apart L.toArray K=true∧Dl P l=true∧(Dl P K||JX K)=true:=fun j K J s E I=>by
      have hjl:j<L.length:=by have:=(GY.1 J).1;simpa using this
      have:=Zux (k:=j) c3 (by simpa using J)
      rw[YN]at this
      rcases this with A|A|A|⟨A,T⟩
      ·exact absurd A (hli j hjl E)
      ·exact absurd A s
      ·exact absurd A I
      ·rcases T with T|T
       ·exact absurd T hv
       ·exact⟨A,T⟩
     by_cases hrd:Dl P l=true
     ·obtain⟨v1,v2⟩:=PH (P:=P) (ρ:=a.eval) hrd
      have X:=h
      unfold Oper.wp at h
      cases f:(execOp a.eval l).run P w with
      |halt x w'=>
       rw[f]at h
       cases x<;>simp only[Oper.upon]at h
       exact absurd h (hQ _ _ _)
      |ok n w'=>
       have e:=v1 _ _ _ f
       subst e
       obtain⟨u,rfl⟩:=v2 _ _ _ f
       rw[f]at h
       simp only[Oper.upon]at h
       exact Zmk U hrd hu hsel hQ hO rest.len g a w' hD (fun j K J s E I=>⟨(at_ j K J s E I).1,(at_ j K J s E I).2.2⟩) M f hS (ih _ _ h.1 (G env l a _ w' _ X W ⟨u,fun _=>rfl⟩ fun v w1 e=>by rw[f]at e;cases e;rfl) h.2)
     ·refine⟨fun X=>(by rw[X]at M;cases M),fun j Z=>?_⟩
      have s:j=i:=by
       apply NU
       intro s
       obtain⟨E,K,J,_⟩:=mem_ready.1 Z
       exact hrd (at_ j K J s E (hD.nowait Z hun)).2.1
      subst s
      unfold wpOp
      simp only[U]
      rw[Yi (by simp[Region.wanted,hu j l U])]
      exact .inl (Oper.wp_mono (fun B w' m=>⟨m.1.1,ih B w' m.1.1 (G env l a B w _ h W m.2.1 m.2.2) m.1.2⟩) h')
end
def IS(r:Ren):List (Ad×Blk)→Prop
 |[]=>True
 |(k,_)::t=>match Nat.beq k.1 1 with|true=>IS r t|false=>LJ r k∧IS r t
def Sh:List (Ad×Blk)→Hp→Hp
 |[],H=>H
 |(k,b)::t,H=>Sh t (updH H k b)
def pHc(P:Program)(l n os:Nat)(r:Ren)(c:Option Nat)(d:AV)(xs:List AV)(a:AT)(K:St→AT→Prop)(τ:St):Prop:=
 match d,a with
 |.fn (.func f) [] [],.hard x ks Au [] b=>(match ks.all (BA os),DF os Au with
  |true,true=>H5 P l r f xs (ks.map fun k=>(k,τ.H k)) x Au []∧IS r Au∧RV n K τ.s (Sh Au τ.H) x b c
  |_,_=>False)
 |_,_=>False
def ZJu:AT→Bool
 |.hard _ _ _ _ _=>true
 |_=>false
def Ky(P:Program)(T:Nat→Option TI)(l n os:Nat)(r:Ren)(o:Oper)(a:AT)(K:St→AT→Prop)(τ:St):Prop:=
 match ZJu a,o.op with
 |true,.call c=>(match c.callee with
  |.value b=>pHc P l n os r o.dst (ev τ.s b) (c.args.toList.map (ev τ.s)) a K τ
  |_=>False)
 |_,_=>KQ P T l n r o a K τ
section
variable {P:Program} {T:Nat→Option TI} {r:Ren} {l n outs:Nat} {B:Base} {env:BP} {τ σ:St} {a:AT} {o:Oper} {K:St→AT→Prop}
theorem Zou(f:RenOk r l outs):∀(Au:List (Ad×Blk)) {τ σ:St},DF outs Au=true→IS r Au→RG r l outs env τ σ→RG r l outs env ⟨τ.s,Sh Au τ.H⟩ ⟨σ.s,Dd r Au σ.H⟩
 |[],τ,σ,_,_,h=>h
 |(k,b)::t,τ,σ,e,a,h=>by
  simp only[DF,Yc]at e
  obtain⟨⟨⟨i,j⟩,n⟩,m⟩:=e
  have d:Ko r outs k∧IS r t:=by
   unfold IS at a
   rcases GA i with c|⟨c,g⟩
   ·rw[c]at a;exact⟨.inl c,a⟩
   ·rw[c]at a;exact⟨.inr ⟨c,g,a.1.2⟩,a.2⟩
  exact Zou f t (τ:=⟨τ.s,updH τ.H k b⟩) (σ:=⟨σ.s,updH σ.H (r.κ k) (AL r k b)⟩) m d.2 (RG.updH f h k b j d.1)
theorem Pk(E:RenOk r l outs)(N:A8 P T)(h:RG r l outs env τ σ)(t:Cf env [] o.op=true)(G:FO env o.dst=true)(d:Ky P T l n outs r o a K τ):CV P l n B o (KA r l n outs B (Dx env o.dst) K) σ:=by
 unfold Ky at d
 split at d
 case h_2=>exact zW E N h t G d
 rename_i c S H
 split at d
 case h_2=>exact d.elim
 rename_i s e
 unfold pHc at d
 split at d
 case h_2=>exact d.elim
 rename_i f x ks Au b C
 split at d
 case h_2=>exact d.elim
 rename_i D j
 obtain⟨L,z,M⟩:=d
 have ops:∀x∈o.op.operands,ev σ.s x=ren r (ev τ.s x):=by
  unfold Cf at t
  split at t
  ·grind
  ·exact G6 h A5 t
 rw[H]at ops
 have g:∀x,x=s∨x∈c.args.toList→x∈(Op.call c).operands:=fun x hx=>by
  simp only[Op.operands,Call.operands,e]
  grind
 have A:ev σ.s s=.fn (.func f) [] []:=by rw[ops s (g s (.inl rfl)),C];simp[ren,Ao]
 have F:=L σ.H (fun p d=>by
  obtain⟨q,O,rfl⟩:=YV.1 d
  have m:=GA (Yu.1 D q O)
  refine⟨?_,fun hl=>h.h q hl⟩
  obtain⟨U,I⟩:=q
  simp only at m
  rcases m with rfl|⟨rfl,z⟩
  ·have:=h.g I
   rw[←E.own]at this
   exact this
  ·exact h.go I z) h.o
 have i:Ao r (c.args.toList.map (ev τ.s))=c.args.toList.map (ev σ.s):=by
  rw[FK,IZ]
  exact Ep fun y hy=>(ops y (g y (.inr hy))).symm
 refine ME ?_
 unfold Bw
 rw[H]
 simp only[e,A,Fy,GV]
 rw[i]at F
 refine F.mono fun y u ⟨R,J,v,w⟩=>?_
 have Q:R=r.γ:=funext fun k=>J k (by simp)
 subst Q
 have v:y=ren r x:=v
 have w:u=Dd r Au σ.H:=w
 subst w
 exact ZqO (τ':=⟨τ.s,Sh Au τ.H⟩) G (Zou E Au j z h) v M
end
def GP(P:Program)(T:Nat→Option TI)(l n os:Nat)(r:Ren)(L:List Oper):Pl→BP→AT→(St→BP→AT→Prop)→St→Prop
 |.nil,env,a,K,τ=>K τ env a
 |.fst i x,env,a,K,τ=>match Bk L i with
  |some o=>(match Cf env [] o.op,FO env o.dst with
   |true,true=>Ky P T l n os r o a (fun τ' b=>GP P T l n os r L x (Dx env o.dst) b K τ') τ
   |_,_=>False)
  |none=>False
 |.two i j x y,env,a,K,τ=>match Bk L i,Bk L j,a with
  |some o,some c,.br a1 d=>(match Cf env [] o.op,FO env o.dst,Cf env [] c.op,FO env c.dst with
   |true,true,true,true=>Ky P T l n os r o a1 (fun τ' b=>GP P T l n os r L x (Dx env o.dst) b K τ') τ∧Ky P T l n os r c d (fun τ' b=>GP P T l n os r L y (Dx env c.dst) b K τ') τ
   |_,_,_,_=>False)
  |_,_,_=>False
 |.opt _ i x y,env,a,K,τ=>match Bk L i with
  |some o=>(match Cf env [] o.op,FO env o.dst with
   |true,true=>(match VM y with
    |true=>(match a with
     |.br a1 d=>Ky P T l n os r o a1 (fun τ' b=>GP P T l n os r L x (Dx env o.dst) b K τ') τ∧GP P T l n os r L y env d K τ
     |_=>False)
    |false=>Ky P T l n os r o a (fun τ' b=>GP P T l n os r L x (Dx env o.dst) b K τ') τ)
   |_,_=>False)
  |none=>False
section
variable {P:Program} {T:Nat→Option TI} {r:Ren} {l n outs:Nat} {B:Base}
theorem ZsJ(v:RenOk r l outs)(t:A8 P T){L:List Oper}{K:St→BP→AT→Prop}{QQ:Exit→Act→World→Prop}{S:World→Prop}(O:∀σ a w,R l n B σ a w→S w)
  (M:∀τ' k p m c w',K τ' k p→RG r l outs k τ' m→R l n B m c w'→QQ .normal c w'):
  ∀(π:Pl) (env:BP) (a:AT) (τ σ:St) (b:Act) (w:World),GP P T l n outs r L π env a K τ→RG r l outs env τ σ→R l n B σ b w→Ee P L QQ S π b w:=by
 intro π
 induction π with
 |nil=>intro env a τ σ b w h d e;exact M _ _ _ _ _ _ h d e
 |fst i x Q=>
  intro env a τ σ b w h d e
  unfold GP at h
  split at h
  ·rename_i o u
   unfold Ee
   rw[u]
   split at h
   ·rename_i q s
    refine Oper.wp_mono (fun c w' f=>?_) (Pk (B:=B) v t d q s h b w e QQ)
    obtain⟨m,⟨g,⟨τ',p,A,C⟩,D⟩,E⟩:=f
    grind
   grind
  grind
 |two i j x y I z=>
  intro env a τ σ b w h d e
  unfold GP at h
  split at h
  ·rename_i o U a1 N u H
   unfold Ee
   rw[u,H]
   split at h
   ·rename_i q s F G
    refine⟨Oper.wp_mono (fun c w' f=>?_) (Pk (B:=B) v t d q s h.1 b w e QQ),Oper.wp_mono (fun c w' f=>?_) (Pk (B:=B) v t d F G h.2 b w e QQ)⟩
    ·obtain⟨m,⟨g,⟨τ',p,A,C⟩,D⟩,E⟩:=f
     grind
    ·obtain⟨m,⟨g,⟨τ',p,A,C⟩,D⟩,E⟩:=f
     grind
   grind
  grind
 |opt hs i x y I z=>
  intro env a τ σ b w h d e
  unfold GP at h
  split at h
  ·rename_i o u
   unfold Ee
   rw[u]
   split at h
   ·rename_i q s
    split at h
    ·split at h
     ·refine⟨Oper.wp_mono (fun c w' f=>?_) (Pk (B:=B) v t d q s h.1 b w e QQ),fun _=>z _ _ _ _ _ _ h.2 d e⟩
      obtain⟨m,⟨g,⟨τ',p,A,C⟩,D⟩,E⟩:=f
      grind
     grind
    ·rename_i hy
     refine⟨Oper.wp_mono (fun c w' f=>?_) (Pk (B:=B) v t d q s h b w e QQ),fun J=>by rw[hy]at J;cases J⟩
     obtain⟨m,⟨g,⟨τ',p,A,C⟩,D⟩,E⟩:=f
     grind
   grind
  grind
end
def zB(s:Nat→AV):List Nat→Bool
 |[]=>true
 |z::r=>(match s z with|.iptr (_::_) _=>true|_=>false)&&zB s r
theorem oi{s:Nat→AV}:∀{Z:List Nat},zB s Z=true→∀z∈Z,∃x ds off,s z=.iptr (x::ds) off
 |[],_,z,a=>by cases a
 |y::r,h,z,a=>by
  simp only[zB,Yc]at h
  rcases Yx.1 a with rfl|a
  ·grind
  ·exact oi h.2 z a
def pq(P:Program)(π:Pl)(Z:List Nat):Code→Bool
 |.region _ ops true=>ops.toList.all WI&&Nat.beq π.len ops.toList.length&&GE P ops.toList (Z.map fun z=>(z,z)) [] π&&LY π
 |_=>false
section
variable {P:Program} {T:Nat→Option TI} {n:Nat} {C:Cx} {τ:St} {Q:Exit→St→Prop} {os:Nat} {c:Code} {β:Type} {L:β→Prop} {y:β}
theorem F5{fx:List Nat}(co:COx C os fx)(hT:A8 P T)(hm':P.follows .mixedOrders=true)(π:Pl)(Z:List Nat)(v:PT os β)(lf:Lf)(hv:v.m=some y)(hL:HL L y)(hn:∀r (g:Gd C r),v.n ⟨⟨C.l,r,Q,fun _ _=>False⟩,L,C,_,co,g,rfl⟩)
  (hq:∀l r Q A,A7 r os v.a τ (fun τ a=>match zB τ.s Z with|true=>GP P T l n os r (BZ c).toList π [] a (fun τ' env f=>A7 r os f (DG env τ') (fun τ _=>Eb fx lf τ (Q .normal))) τ|false=>False)=v.q ⟨l,r,Q,A⟩:=by intro l r Q P;kernel_rfl)
  (Y:pq P π Z c=true:=by kernel_rfl):LW P n C c τ Q:=by
 cases c with
 |region id ops dr=>
  cases dr with
  |false=>cases Y
  |true=>
   obtain⟨q,rfl⟩:∃l:List Oper,ops=l.toArray:=⟨ops.toList,by simp⟩
   simp only[pq,Yc]at Y
   obtain⟨⟨⟨k1,k2⟩,k3⟩,k4⟩:=Y
   intro γ σ hg hG a w hR
   have hR':R C.l n C.B σ a {w with drawn:=w.drawn+1 }:=by
    obtain⟨s,H⟩:=σ
    obtain⟨m,S,hO,hn,hdf,hS,hex⟩:=hR.un
    obtain⟨k,u⟩:=hO.drew (w':={w with drawn:=w.drawn+1 }) rfl rfl rfl rfl
    exact R.keep k hn hdf hS hex u
   have k:=v.ok _ (hn (C.r γ) ⟨rfl,rfl,rfl,rfl⟩) y hv hL
   rw[←hq]at k
   generalize v.a=va at k
   have ok:=co.ok
   rw[←co.O,←co.F]at k
   obtain⟨τ₁,a₁,σ₁,u,G,hw1⟩:=Cd (n:=n) ok va k hG
   split at u
   case h_2=>exact u.elim
   rename_i hz
   have hR1:=hw1 _ _ hR'
   obtain⟨s1,H1⟩:=σ₁
   obtain⟨m1,D,hO1,hn1,hd1,t,J⟩:=hR1.un
   let U:Base:=⟨H1,m1,D,{w with drawn:=w.drawn+1 }⟩
   have hRB:R C.l n U ⟨s1,H1⟩ a {w with drawn:=w.drawn+1 }:=⟨m1,D,hO1,hn1,hd1,t,Ext.refl _ _ _ _ _⟩
   have E:∀d f w',R C.l n U d f w'→R C.l n C.B d f w':=fun d f w' h=>by
    obtain⟨m2,S2,V,W,g3,g4,g5⟩:=h
    exact⟨m2,S2,V,W,g3,g4,J.trans g5⟩
   let S:World→Prop:=fun w'=>∀b,D b→w'.heap[b]?=({w with drawn:=w.drawn+1 }:World).heap[b]?
   have hS1:∀d f w',R C.l n U d f w'→S w':=fun d f w' h b i=>by
    obtain⟨m2,S2,V,W,g3,g4,g5⟩:=h
    exact g5.blk b i
   have I:∀(j:Nat) (o:Oper),q.toArray[j]?=some o→WI o=true:=fun j o M=>Yu.1 k1 o (Yj (by simpa using M))
   have hu:∀(j:Nat) (o:Oper),q.toArray[j]?=some o→o.guard=none:=fun j o M=>by
    have:=I j o M
    unfold WI at this
    rw[Yc]at this
    cases hg:o.guard with
    |none=>rfl
    |some _=>rw[hg]at this;simp at this
   have N:∀(j:Nat) (o:Oper) cs b,q.toArray[j]?=some o→o.op≠.select cs b:=fun j o cs b M he=>by
    have:=I j o M
    unfold WI at this
    rw[he,Yc]at this
    simp at this
   let Q2:Exit→Act→World→Prop:=fun e f w'=>∃d,Is n C (match e with|.normal=>Q .normal|_=>fun _=>False) d∧R C.l n C.B d f w'
   have hpl:Ee P q Q2 S π a {w with drawn:=w.drawn+1 }:=by
    refine ZsJ (ok.ren γ) hT (B:=U) hS1 (fun τ' env' f d act' w' k1 k2 k3=>?_) π [] a₁ τ₁ ⟨s1,H1⟩ a _ u G hRB
    obtain⟨σ₂,V,W⟩:=Pf (n:=n) k2
    obtain⟨τ₃,a₃,σ₃,f1,f2,f3⟩:=Cd (n:=n) ok f k1 V
    obtain⟨γ',τ₄,σ₄,j0,j1,j2,j3⟩:=HP (n:=n) ok f1 hg f2
    exact⟨σ₄,⟨γ',τ₄,σ₄,j0,j1,j2,Wk.refl _⟩,j3 _ _ (f3 _ _ (W _ _ (E _ _ _ k3)))⟩
   have hF:∀z∈Z,∃b,pb (a.eval (.tmp z))=some b∧D b∧ES {w with drawn:=w.drawn+1 } b:=fun z hz'=>by
    obtain⟨x,ds,off,e⟩:=oi hz z hz'
    have hsz:s1 z=.iptr (x::ds) off:=by
     have:=(G.s z).1 A5
     simp only at this
     rw[this,e];simp[ren]
    have hx:=t z
    rw[hsz]at hx
    show∃b,pb (a.tmps.getD z Go.undef)=some b∧_
    generalize a.tmps.getD z Go.undef=vv at hx
    cases hx with
    |iptr _ _ ad c i hc hr=>
     refine⟨(ad.add off).block,rfl,by rw[block_add];exact i,?_⟩
     rw[block_add]
     have X:=hc 0 x rfl
     simp only[World.cell?]at X
     have hbk:(ad.add 0).block=ad.block:=block_add _ _
     rw[hbk]at X
     split at X
     ·rename_i C0 e0 f0 hh;exact⟨C0,e0,f0,hh⟩
     ·cases X
   have hw:=Zq3 (P:=P) (L:=q) (Q:=Q2) (S:=S) (β:=fun z=>(pb (a.eval (.tmp z))).getD 0) (F:=fun b=>D b∧ES {w with drawn:=w.drawn+1 } b) (w0:={w with drawn:=w.drawn+1 }) (fun b w' i hS=>hS b i.1) (fun b i=>i.2) hu N
    (fun c a w ⟨d,⟨_,_,_,_,K,_⟩,_⟩=>K) (fun⟨a,w,d,⟨_,_,_,_,K,_⟩,_⟩=>K) π (Z.map fun z=>(z,z)) [] (Array.replicate q.toArray.size false) a {w with drawn:=w.drawn+1 } (by simp) (fun j hj=>by simp[hj]) (fun x hx=>by cases hx)
    (fun m om hm hl=>by
     have:(Array.replicate q.toArray.size false).getD m false=false:=by
      simp only[YC,Array.getElem?_replicate]
      split<;>rfl
     rw[this]at hl
     cases hl) (by simpa using k3)
    (fun p hp=>by
     obtain⟨z,O,rfl⟩:=YV.1 hp
     obtain⟨b,b1,b2⟩:=hF z O
     simp only[b1,YM];exact b2)
    (fun p hp b i=>by
     obtain⟨z,O,rfl⟩:=YV.1 hp
     simp only at i
     simp only[i,YM]) (fun b i=>rfl) hpl
   have hs:π.len=q.toArray.size:=by simpa using Yd k2
   rw[hs]at hw
   refine wp_mono (wp_region_held hm' (hw.1 k4)) fun e f w' ⟨d,k,u⟩=>⟨d,?_,u⟩
   cases e with
   |normal=>exact k
   |_=>obtain⟨_,_,_,_,K,_⟩:=k;exact K.elim
 |_=>cases Y
@[reducible] def tw(a b:PT os β):PT os β:=⟨.br a.a b.a,fun E=>a.q E∧b.q E,a.m,fun E=>a.n E∧b.n E∧(∀y,a.m=some y→b.m=some y),fun E c y hm d=>⟨a.ok E c.1 y hm d,b.ok E c.2.1 y (c.2.2 y hm) d⟩⟩
@[reducible] def du(k:PT os β):PT os β:=⟨.br k.a k.a,fun E=>k.q E∧k.q E,k.m,k.n,fun E b y hm a=>⟨k.ok E b y hm a,k.ok E b y hm a⟩⟩
theorem fP{C:Cx}{r:Ren}(g:Gd C r):∀{Au:List (Ad×Blk)},DF os Au=true→Fv C Au→IS r Au
 |[],_,_=>trivial
 |(k,b)::t,c,h=>by
  simp only[DF,Yc]at c
  obtain⟨⟨⟨e,i⟩,j⟩,d⟩:=c
  unfold IS
  unfold Fv at h
  rcases GA e with a|⟨a,f⟩
  ·rw[a]at h⊢;exact fP g d h
  ·rw[a]at h⊢;exact⟨⟨a,by rw[g.no,g.κ];exact h.1⟩,fP g d h.2⟩
@[reducible] def ch{γ:Type}[Inhabited γ](P:Program)(f:FuncId)(xs:List AV)(ks:List Ad)(d:List (Ad×Blk))(M:Option γ)(e:γ→AV)(Au:γ→List (Ad×Blk))(k:γ→PT os β)(b:∀z,DF os (Au z)=true:=by intro z;kernel_rfl):PT os β:=
 ⟨.hard (e (M.getD default)) ks (Au (M.getD default)) [] (k (M.getD default)).a,fun E=>H5 P E.l E.r f xs d (e (M.getD default)) (Au (M.getD default)) []∧IS E.r (Au (M.getD default))∧(k (M.getD default)).q E,M.bind fun y=>(k y).m,
 fun E=>(∀y,M=some y→H5 P E.C.l E.E.r f xs d (e y) (Au y) [])∧(∀y,Fv E.C (Au y))∧∀y,(k y).n E,fun E a y hm i=>by
  obtain⟨x,c,g⟩:=bind_some hm
  have h:M.getD default=x:=by rw[c];rfl
  rw[h]
  exact⟨by rw[E.hl];exact a.1 x c,fP E.g (b x) (a.2.1 x),(k x).ok E (a.2.2 x) y g i⟩⟩
end
section
variable {os:Nat} {β α:Type} [Rw α]
abbrev bE(xs:List α)(off cn:Nat)(z:List AV):List AV:=(Aa Rw.e xs).take (off*Rw.s α)++(List.replicate cn z).flatten++(Aa Rw.e xs).drop ((off+cn)*Rw.s α)
@[reducible] def cr(xs:List α)(off cn:Nat)(z:List AV)(k:PT os β):PT os β:=⟨.cs (bE xs off cn z) k.a,fun E=>aY (Aa Rw.e xs) off cn (Rw.s α) z (bE xs off cn z)∧k.q E,
 if off+cn≤xs.length then k.m else none,k.n,fun E c y hm b=>by
  obtain⟨a,hm⟩:=BD hm
  exact⟨Zv6 Rw.len a,k.ok E c y hm b⟩⟩
@[reducible] def J3(q:Nat)(xs:List α)(off cn:Nat)(z:List AV)(k:PT os β)(d:Nat.ble (q+1) os=true:=by kernel_rfl):PT os β:=⟨.trim (0,q) (Aa Rw.e (xs.take off)) k.a,fun E=>(∃m,(bE xs off cn z).take m=Aa Rw.e (xs.take off))∧LJ E.r (0,q)∧k.q E,
 if off≤xs.length then k.m else none,k.n,fun E c y hm b=>by
  obtain⟨a,hm⟩:=BD hm
  exact⟨ZyF Rw.len a,⟨rfl,by rw[E.g.no,E.g.κ];exact E.co.W q (Yh d)⟩,k.ok E c y hm b⟩⟩
end
theorem lfx{P:AV→List Blk→Prop}{v a:AV}{B:List Blk}(e:v=a)(h:P a B):P v B:=e▸h
theorem J2{A B:Prop}(b:A→B)(a:A):B:=b a
def gF(a fr:List Nat)(δ:Nat→Nat):Ad→Nat
 |(0,i)=>match fr.any (Nat.beq i)with|true=>δ i|false=>Hy a (0,i)
 |(_+1,_)=>0
def rF(l:Nat)(ks:List Ad)(a fr:List Nat)(δ:Nat→Nat)(H:Hp):Ren:=⟨DZ l ks,gF a fr δ,fun _=>.top,H,fun k=>k∈ks⟩
def IW(κ:Ad→Ad):List (Nat×Nat)→Prop
 |[]=>True
 |(a,b)::t=>(κ (0,a)).1≤(κ (0,b)).1∧IW κ t
structure KG (P:Program) (f:FuncId) (os:Nat) (fr:List Nat) (lv:List (Nat×Nat)) (ys:List AV) (bi:List Blk) {γ:Type} (M:Option γ) (e:γ→AV) (bs:γ→List Blk):Prop where
 k:∀l H (ks:List Ad) (gs:List Nat),ks.length=os→JQ l ks→ks.Nodup→J8 H (Co l ks gs (fun _=>.top) H) (Dp 0 bi) 0 ks→IW (DZ l ks) lv→∀y,M=some y→
  Zc3 P f l (Ao (Co l ks gs (fun _=>.top) H) ys) H (fun z H'=>∃δ,z=ren (rF l ks gs fr δ H) (e y)∧H'=DA H ks (CT (rF l ks gs fr δ H) 0 (bs y)))
theorem iH{P:Program}{T:Nat→Option TI}{n:Nat}{f:FuncId}{fn:Func}{ys:List AV}{bi:List Blk}{γ:Type}{M:Option γ}{e:γ→AV}{bs:γ→List Blk}(R:P.funcs[f]?=some fn)(W:fn.ntmps=n)(O:A8 P T)(w:List ResultVar)(os:Nat)(fr fx:List Nat)(lv:List (Nat×Nat))
  (h:∀C:Cx,COx C os fx→IW C.κ lv→∀y,M=some y→∀a:AV→List Blk→Prop,HL (fun y=>a (e y) (bs y)) y→LW P n C (pa [] (As fn)) (Ac (DI 0 ys) (Dp 0 bi)) (FQ T w os a))
  (o:(I3 os).all (fun i=>fr.any (Nat.beq i)||fx.any (Nat.beq i))=true:=by kernel_rfl)
  (he:∀y,JZ os (e y)=true:=by intro y;kernel_rfl) (x:∀y,F1 os (bs y):=by intro y;repeat(first|exact trivial|refine⟨.inl (EZ _ _),rfl,?_⟩|refine⟨.inl JH,rfl,?_⟩|refine⟨.inr (by kernel_rfl),rfl,?_⟩)) (hl:∀y,(bs y).length=os:=by intro y;rfl) (d:Iu os (Dp 0 bi)=true:=by kernel_rfl)
  (Q:fn.body=some (As fn):=by kernel_rfl) (c:(fn.name== "runtime.NumGoroutine")=false:=by kernel_rfl) (X:fn.results.toList=w:=by kernel_rfl) (hx:Nat.ble ys.length n=true:=by kernel_rfl):KG P f os fr lv ys bi M e bs:=
 ⟨fun l H ks m p g t K s y hy=>by
  subst p
  refine y8 w (As fn) ks m fx (fun _=>.top) ys (Dp 0 bi) (fun z b=>z=e y∧b=bs y) R Q c W X (by rw[CF];exact Yh hx) O (Uk g) t (dW d) (eT d) (fun i k U=>by have:=fS K i k U;rw[YN]at this;exact this) rfl (fun C I N J V L hθ B u=>?_) fun z b ⟨D,E⟩=>?_
  ·refine h C ⟨I,N,J,fun q A=>?_⟩ (by rw[B];exact s) y hy _ ⟨rfl,rfl⟩
   rw[u,B]
   show(match Bk ks q with|some k=>k|none=>(0,0))∈ks
   rw[Cn,Ye (by omega)]
   exact Gk _
  ·subst D;subst E
   refine⟨hl y,(x y).live,fun r F Y Z h4 G=>⟨fun i=>r.γ (0,i),?_⟩⟩
   have hs:Nc ks.length r (rF l ks m fr (fun i=>r.γ (0,i)) H):=fun q A=>by
    refine⟨by rw[F];rfl,?_⟩
    show r.γ (0,q)=match fr.any (Nat.beq q)with|true=>r.γ (0,q)|false=>Hy m (0,q)
    cases v:fr.any (Nat.beq q)with
    |true=>rfl
    |false=>
     have:=Yu.1 o q (TV A)
     rw[v,Kh]at this
     obtain⟨j,S,e⟩:=YR.1 this
     have:=Yd e
     subst this
     exact G q S
   exact⟨fq hs _ (he y),by rw[F1.ren hs _ _ (by rw[hl];omega) (x y)]⟩⟩
def gB(r:Ren)(fr:List Nat)(δ:Nat→Nat):Nat→List (Ad×Blk)→Ad→Nat
 |_,[],k=>r.γ k
 |i,(q,_)::t,k=>match fr.any (Nat.beq i),Bz k q with|true,true=>δ i|_,_=>gB r fr δ (i+1) t k
def Hx(fr:List Nat):Nat→List (Ad×Blk)→List Ad
 |_,[]=>[]
 |i,(q,_)::t=>match fr.any (Nat.beq i)with|true=>q::Hx fr (i+1) t|false=>Hx fr (i+1) t
theorem fC{r:Ren}{fr:List Nat}{δ:Nat→Nat}{k:Ad}:∀(a:List (Ad×Blk)) (i:Nat),k∉Hx fr i a→gB r fr δ i a k=r.γ k
 |[],i,_=>rfl
 |(q,b)::t,i,h=>by
  simp only[Hx]at h
  simp only[gB]
  cases c:fr.any (Nat.beq i)with
  |false=>rw[c]at h;exact fC t (i+1) h
  |true=>
   rw[c]at h
   simp only[Yx,not_or]at h
   have:Bz k q=false:=by
    cases d:Bz k q with
    |false=>rfl
    |true=>exact absurd (Cp.1 d) h.1
   rw[this]
   exact fC t (i+1) h.2
def rB(r:Ren)(fr:List Nat)(δ:Nat→Nat)(a:List (Ad×Blk)):Ren:=⟨r.κ,gB r fr δ 0 a,r.θ,r.H0,r.no⟩
section
variable {P:Program} {f:FuncId} {os os':Nat} {fr fx:List Nat} {lv:List (Nat×Nat)} {ys:List AV} {bi:List Blk} {γ:Type} {M:Option γ} {e:γ→AV} {bs:γ→List Blk} {C:Cx} {r:Ren} {xs:List AV} {x:AV} {y:γ}
theorem ZxH(K:KG P f os fr lv ys bi M e bs)(hy:M=some y)(co:COx C os' fx)(g:Gd C r)(a u c:List (Ad×Blk))(o:IW (DZ (C.l+1) ((a.map (·.1)).map r.κ)) lv)
  (n:∀H,BE (rC C r a (fun _=>.top) H) r 0 bi a) (i:∀H δ,BE (rF (C.l+1) ((a.map (·.1)).map r.κ) (Fj r a) fr δ H) (rB r fr δ a) 0 (bs y) c) (l:(bs y).all Blk.live=true:=by kernel_rfl) (hx:∀H,Ao (rC C r a (fun _=>.top) H) ys=Ao r xs:=by intro H;kernel_rfl)
  (t:∀H δ,ren (rF (C.l+1) ((a.map (·.1)).map r.κ) (Fj r a) fr δ H) (e y)=ren (rB r fr δ a) x:=by intro H δ;kernel_rfl)
  (d:((a.map (·.1)).all (BA os')&&G9 (a.map (·.1))&&Nat.beq a.length os)=true:=by kernel_rfl) (he:a.map (·.1)=c.map (·.1):=by rfl):H5 P C.l r f xs (a++u) x c (Hx fr 0 a):=by
 have q:∀b∈bs y,b.live=true:=fun b B=>Yu.1 l b B
 have m:∀p∈a,p∈a++u:=fun p s=>HD _ s
 intro h D E
 simp only[Yc]at d
 have:=K.k (C.l+1) h ((a.map (fun p:Ad×Blk=>p.1)).map r.κ) (Fj r a) (by rw[YG,YG];exact Yd d.2) (MT co g _ d.1.1) (Pg (Ut co g) _ d.1.2 d.1.1)
  (PZ bi a 0 bi (fun j=>by have:=PB bi 0 j;rwa [YN]at this⊢) (n h) fun p s=>D p (m p s)) o y hy
 rw[←hx h]
 refine this.mono fun z v ⟨δ,w,A⟩=>⟨gB r fr δ 0 a,fun k d=>fC a 0 d,w.trans (t h δ),A.trans ?_⟩
 exact eG (r:=rB r fr δ a) (bs y) a c 0 h (i h δ) q he
end
section
variable {P:Program} {T:Nat→Option TI} {n:Nat} {C:Cx} {τ:St} {Q:Exit→St→Prop} {os k:Nat} {c:Code} {β:Type} {L:β→Prop} {y:β} {fx:List Nat}
theorem ZI4{r:Ren}(co:COx C os fx)(g:Gd C r)(a b:Nat):(r.κ (1,a)).1≤(r.κ (1,b)).1:=by rw[g.κ,co.ok.own,co.ok.own];exact Yf _
theorem Zzl{r:Ren}{a b:Nat}(g:Gd C r)(h:(C.κ (0,a)).1≤(C.κ (0,b)).1):(r.κ (0,a)).1≤(r.κ (0,b)).1:=by rw[g.κ];exact h
theorem ZUC{r:Ren}{a b:Nat}(g:Gd C r)(h:IW C.κ [(a,b)]):(r.κ (0,a)).1≤(r.κ (0,b)).1∧True:=⟨Zzl g h.1,trivial⟩
theorem ZJG{r:Ren}{a b:Nat}{t:List (Nat×Nat)}(g:Gd C r)(h:IW C.κ ((a,b)::t)){c off m:Nat}:F9 r (0,b) [.ref (0,a) c off m]:=by
 unfold F9
 simp only[Ao,ren,IY,List.all_nil,NW,AV.low]
 have:=Zzl g h.1
 simpa using this
@[reducible] def vwl(q:Nat)(vs:List AV)(k:PT os β)(c:Nat.ble (q+1) os=true:=by kernel_rfl):PT os β:=
 ⟨k.a,fun E=>LJ E.r (0,q)∧F9 E.r (0,q) vs∧k.q E,k.m,fun E=>F9 E.E.r (0,q) vs∧k.n E,fun E a y hm b=>⟨⟨rfl,by rw[E.g.no,E.g.κ];exact E.co.W q (Yh c)⟩,a.1,k.ok E a.2 y hm b⟩⟩
theorem Bl{γ:Type}{M:Option γ}{kk:γ→Option β}{ss:List (Nat×AV)}{hs:List (Ad×Blk)}{f:FuncId}{os':Nat}{fr:List Nat}{lv:List (Nat×Nat)}{ys:List AV}{bi:List Blk}{e0:γ→AV}{bs:γ→List Blk}(co:COx C os fx)(hm:M.bind kk=some y)(K:KG P f os' fr lv ys bi M e0 bs)
  (a b:List (Ad×Blk)) (e:γ→AV) (Au:γ→List (Ad×Blk)) (fl:List Ad)
  (h:∀z,kk z=some y→LO P n C c (k+1) (Ac (Hv (FU c k) (e z) (Ea (Hx fr 0 a) ss)) (Au z++C2 ((Au z).map (·.1)) (Hx fr 0 a) fl hs)) Q)
  (m:∀r,Gd C r→IW (DZ (C.l+1) ((a.map (·.1)).map r.κ)) lv:=by
   intro r g
   first
   |exact⟨ZI4 ‹_› g _ _,trivial⟩
   |exact ZUC g (by assumption)
   |exact trivial)
  (xs:List AV:=[]++(Hf c k).map (ev (AB ss))++[])
  (s:∀z,Fv C (Au z):=by intro z;repeat(first|exact trivial|refine⟨COx.W ‹_› _ (by decide),?_⟩))
  (j:JW (AC hs) fl:=by repeat(first|exact trivial|refine⟨EZ _ _,?_⟩))
  (i:∀r H,BE (rC C r a (fun _=>.top) H) r 0 bi a:=by
   intro r H
   repeat(first|exact trivial|refine⟨fun _=>⟨rfl,Gu (EZ _ _) (by kernel_rfl)⟩,by kernel_rfl,?_⟩|refine⟨fun _=>⟨rfl,Gu JH (by kernel_rfl)⟩,by kernel_rfl,?_⟩|refine⟨fun _=>⟨rfl,by kernel_rfl⟩,by kernel_rfl,?_⟩))
  (d:∀z r H δ,BE (rF (C.l+1) ((a.map (·.1)).map r.κ) (Fj r a) fr δ H) (rB r fr δ a) 0 (bs z) (Au z):=by
   intro z r H δ
   repeat(first|exact trivial|refine⟨fun _=>⟨rfl,Gu (EZ _ _) (by kernel_rfl)⟩,by kernel_rfl,?_⟩|refine⟨fun _=>⟨rfl,Gu JH (by kernel_rfl)⟩,by kernel_rfl,?_⟩|refine⟨fun _=>⟨rfl,by kernel_rfl⟩,by kernel_rfl,?_⟩))
  (hx:∀r H,Ao (rC C r a (fun _=>.top) H) ys=Ao r xs:=by intro r H;kernel_rfl) (t:[]++(Hf c k).map (ev (AB ss))++[]=xs:=by kernel_rfl) (u:∀z r H δ,ren (rF (C.l+1) ((a.map (·.1)).map r.κ) (Fj r a) fr δ H) (e0 z)=ren (rB r fr δ a) (e z):=by intro z r H δ;kernel_rfl)
  (q:Ha c k=some (FU c k,callF c k,Hf c k):=by kernel_rfl) (E:ev (AB ss) (callF c k)=.fn (.func f) [] []:=by kernel_rfl)
  (l:(((a++b).map (·.1)).map fun k=>(k,AC hs k))=a++b:=by kernel_rfl) (o:∀z,(bs z).all Blk.live=true:=by intro z;kernel_rfl) (he:∀z,a.map (·.1)=(Au z).map (·.1):=by intro z;rfl)
  (F:((a.map (·.1)).all (BA os)&&G9 (a.map (·.1))&&Nat.beq a.length os')=true:=by kernel_rfl)
  (p:∀z,(DF os (Au z)&&Mi (Hx fr 0 a) (Au z)&&M0 (Hx fr 0 a) fx&&Ib hs&&M5 n (FU c k)&&((a++b).map (·.1)).all (BA os))=true:=by intro z;kernel_rfl):LO P n C c k (Ac ss hs) Q:=by
 obtain⟨z,B,D⟩:=bind_some hm
 exact Zon co.ok co.O co.F f [] [] xs q E t _ (a++b) l (e z) (Au z) (Hx fr 0 a) fl (p z) (s z) j (fun r v w x A=>ZxH K B co ⟨v,w,x,A⟩ a b (Au z) (m r ⟨v,w,x,A⟩) (fun H=>i r H) (fun H δ=>d z r H δ) (o z) (fun H=>hx r H) (fun H δ=>u z r H δ) F (he z)) (h z D)
def xL(m:Nat):Code→Bool
 |.region _ ops true=>Nat.beq ops.toList.length (m+1)&&Wy ops.toList&&(H7 m ops.toList).all (fun o=>CY o||BY o)&&Lz ops.toList 0 ops.toList&&(I3 m).all (fun i=>PO ops.toList i ops.toList.length m)
 |_=>false
theorem Fm(co:COx C os fx)(hT:A8 P T)(A:P.follows .mixedOrders=true)(m:Nat)(v:PT os β)(lf:Lf)(hv:v.m=some y)(Z:HL L y)(hn:∀r (g:Gd C r),v.n ⟨⟨C.l,r,fun _ τ'=>LO P n C c m τ' Q,fun _ _=>False⟩,L,C,_,co,g,rfl⟩)
  (hq:∀l r Q h,A7 r os v.a τ (fun τ a=>Hc P T l n r ((BZ c).toList.map (·.dst)) (H7 m (BZ c).toList) [] a (fun τ' env f=>A7 r os f (DG env τ') (fun τ _=>Eb fx lf τ (Q .normal))) τ)=v.q ⟨l,r,Q,h⟩:=by intro l r Q P;kernel_rfl)
  (t:xL m c=true:=by kernel_rfl):LW P n C c τ Q:=by
 cases c with
 |region id ops N=>
  cases N with
  |false=>cases t
  |true=>
   obtain⟨Lf,rfl⟩:∃l:List Oper,ops=l.toArray:=⟨ops.toList,by simp⟩
   simp only[xL,Yc,TH]at t
   obtain⟨⟨⟨⟨G,H⟩,E⟩,I⟩,J⟩:=t
   have G:=Yd G
   have s:∃o,Lf.drop m=[o]:=List.length_eq_one_iff.1 (by rw[YX];omega)
   obtain⟨o,s⟩:=s
   have b:Lf=Lf.take m++[o]:=by rw[←s,G0]
   have z:(Lf.take m).length=m:=by rw[Yy];omega
   intro γ σ hg Y a w hR
   have q:=v.ok _ (hn (C.r γ) ⟨rfl,rfl,rfl,rfl⟩) y hv Z
   rw[←hq]at q
   generalize v.a=va at q
   have ok:=co.ok
   rw[←co.O,←co.F]at q
   obtain⟨τ₁,M,K,F,u,D⟩:=Cd (n:=n) ok va q Y
   simp only[BZ,TH,List.toList_toArray]at F H E I J
   have k:=ZqJ (P:=P) (n:=n) (B:=C.B) (id:=id) (L:=Lf.take m) (o:=o) (σ:=K) (a:=a) (w:=w) (QQ:=fun e f w'=>∃p,Is n C (Q e) p∧R C.l n C.B p f w')
    (X:=fun p=>∃τ' d f,A7 (C.r γ) C.outs f (DG d τ') (fun τ _=>Eb C.fx lf τ (fun τ'=>LO P n C (.region id Lf.toArray true) m τ' Q))∧RG (C.r γ) C.l C.outs d τ' p) A (y6 (by rw[←b];exact H)) E (by rw[←b];exact I)
    (fun i hi=>by rw[←b,z];exact dw _ _ (Yu.1 J i (TV (by omega)))) (by rw[←b];exact MK (ok.ren γ) hT _ [] M τ₁ K E F u) (fun p j w' x ⟨τ',d,f,f1,f2⟩=>?_) (D _ _ hR)
   ·rw[←b]at k;exact k
   ·obtain⟨σ₂,V,W⟩:=Pf (n:=n) f2
    obtain⟨τ₃,a₃,σ₃,O,S,U⟩:=Cd (n:=n) ok f f1 V
    obtain⟨γ',τ₄,σ₄,j0,j1,j2,j3⟩:=HP (n:=n) ok O hg S
    have:=j1 γ' σ₄ j w' j0 j2 (j3 _ _ (U _ _ (W _ _ x)))
    simp only[BZ,List.toList_toArray,s]at this
    rw[←b]
    exact this
 |_=>cases t
end
section
variable {P:Program} {l l':Nat} {H:Hp} {m:Mu} {S:Nat→Prop} {w:World}
inductive Vw (H:Hp) (l:Nat):AV→D→Prop
 |d (x:D):Vw H l (.d x) x
 |e0:Vw H l .e0 (.list [])
 |ref (k:Ad) (g n:Nat) (es:List (List D)) (hk:k.1≤l) (hg:(H k).g=g) (hn:es.length=n) (hl:(H k).live=true) (hz:∀e∈es,e.length=(H k).sz) (hp:(H k).sz≠0) (hc:(H k).cells.length=n*(H k).sz)
   (hr:∀(i:Nat) (x:AV) (d:D),(H k).cells[i]?=some x→es.flatten[i]?=some d→Vw H l x d):Vw H l (.ref k g 0 n) (.list es)
 |mp (k:Ad) (g:Nat) (a:Bool) (es:List (List D)) (hk:k.1≤l) (hg:(H k).g=g) (hl:(H k).live=true) (he:(H k).e=.m a es):Vw H l (.mp k g) (.map a es)
inductive Vx (H:Hp) (l:Nat):AV→AV→Prop
 |d (x:AV) (d:D) (h:Vw H l x d):Vx H l x (.d d)
 |ptr (k:Ad) (g:Nat) (ds:List D) (hk:k.1≤l) (hg:(H k).g=g) (hl:(H k).live=true) (hne:ds≠[]) (hc:(H k).cells.length=ds.length) (hr:∀(i:Nat) (x:AV) (d:D),(H k).cells[i]?=some x→ds[i]?=some d→Vw H l x d):Vx H l (.ptr k g 0) (.iptr ds 0)
 |fn (f:Fn) (xs ys:List AV) (hn:xs.length=ys.length) (h:∀(i:Nat) (x y:AV),xs[i]?=some x→ys[i]?=some y→Vx H l x y):Vx H l (.fn f [] xs) (.fn f [] ys)
def NR(H:Hp)(l:Nat):List AV→List AV→Prop
 |[],[]=>True
 |x::xs,y::ys=>Vx H l x y∧NR H l xs ys
 |_,_=>False
theorem NR.at{H:Hp}{l:Nat}:∀{xs ys:List AV},NR H l xs ys→xs.length=ys.length∧∀(i:Nat) (x y:AV),xs[i]?=some x→ys[i]?=some y→Vx H l x y
 |[],[],_=>⟨rfl,fun i x y h=>by simp at h⟩
 |x::xs,y::ys,⟨f,e⟩=>⟨by simp[(NR.at e).1],fun i a b c d=>by
  cases i with
  |zero=>simp at c d;subst c;subst d;exact f
  |succ i=>simp at c d;exact(NR.at e).2 i a b c d⟩
 |[],_::_,h=>h.elim
 |_::_,[],h=>h.elim
end
end Go.Eng
namespace Go.Proofs.YtbcmdieedjamgaaGreat
open Go Go.Eng
def tS(e n:Nat):TI:={kin:=4,elm:=some (e,n),zer:=some [.e0],byt:=some 256 }
def tI(k:IntKind):TI:={kin:=3,zer:=some [.d (.int k 0)],ik:=some k,byt:=some 256 }
def tF:TI:={zer:=some [.p .nilFunc] }
def tQ:TI:={zer:=some [.p (.pointer none)] }
def tT(n:Nat)(f:List (Nat×Nat×Bool))(z:List AV)(e:Option (List Nat)):TI:={agg:=true,siz:=n,fld:=f,zer:=some z,eqt:=e,str:=true,byt:=some 256 }
def tl:List (Nat×TI):=[(3,tI .i64),(4,{kin:=1,zer:=some [.d (.bool false)],byt:=some 256 }),(5,tI .u8),(9,{kin:=2,zer:=some [.d (.str ⟨#[]⟩)],byt:=some 256 }),(20,{zer:=some [.p .nilIface] }),(22,tS 56 5),(23,tS 86 5),(24,tS 90 3),(26,tT 3 [(0,1,false),(1,1,false),(2,1,false)] [.e0,.e0,.e0] none),(27,tS 35 7),(30,tI .u64),(31,tS 63 14),(32,tS 58 8),(33,tS 65 4),(35,tT 7 [(0,1,false),(1,1,false),(2,1,false),(3,1,false),(4,1,false),(5,1,false),(6,1,false)] [.d (.int .i64 0),.d (.int .u64 0),.d (.str ⟨#[]⟩),.e0,.e0,.e0,.e0] none),(40,tS 71 2),(41,tI .i64),(45,tS 114 3),(48,tT 2 [(0,1,false),(1,1,false)] [.d (.int .i64 0),.d (.str ⟨#[]⟩)] (some [3,2])),(49,tS 175 8),(51,tT 16 [(0,1,false),(1,1,false),(2,1,false),(3,1,false),(4,2,true),(6,1,false),(7,1,false),(8,7,true),(15,1,false)] [.d (.int .i64 0),.d (.str ⟨#[]⟩),.d (.int .i64 0),.d (.int .i64 0),.d (.int .i64 0),.d (.str ⟨#[]⟩),.d (.str ⟨#[]⟩),.d (.bool false),.d (.int .i64 0),.d (.int .u64 0),.d (.str ⟨#[]⟩),.e0,.e0,.e0,.e0,.e0] none),(52,tS 51 16),(53,tS 151 2),(54,tS 9 1),(56,tT 5 [(0,1,false),(1,1,false),(2,1,false),(3,1,false),(4,1,false)] [.d (.str ⟨#[]⟩),.e0,.e0,.e0,.e0] none),(58,tT 8 [(0,1,false),(1,7,true)] [.d (.int .i64 0),.d (.int .i64 0),.d (.int .u64 0),.d (.str ⟨#[]⟩),.e0,.e0,.e0,.e0] none),(63,tT 14 [(0,7,true),(7,7,true)] [.d (.int .i64 0),.d (.int .u64 0),.d (.str ⟨#[]⟩),.e0,.e0,.e0,.e0,.d (.int .i64 0),.d (.int .u64 0),.d (.str ⟨#[]⟩),.e0,.e0,.e0,.e0] none),(65,tT 4 [(0,1,false),(1,1,false),(2,1,false),(3,1,false)] [.d (.int .i64 0),.d (.int .i64 0),.d (.int .u64 0),.d (.str ⟨#[]⟩)] (some [3,3,3,2])),(71,tT 2 [(0,1,false),(1,1,false)] [.d (.int .i64 0),.e0] none),(72,tF),(75,tT 2 [(0,1,false),(1,1,false)] [.d (.str ⟨#[]⟩),.e0] none),(80,tS 4 1),(84,tS 124 3),(86,tT 5 [(0,1,false),(1,1,false),(2,1,false),(3,1,false),(4,1,false)] [.d (.str ⟨#[]⟩),.d (.bool false),.e0,.e0,.e0] none),(88,tS 126 5),(90,tT 3 [(0,1,false),(1,1,false),(2,1,false)] [.d (.str ⟨#[]⟩),.e0,.e0] none),(95,tF),(100,tF),(109,tF),(112,tQ),(114,tT 3 [(0,1,false),(1,1,false),(2,1,false)] [.d (.str ⟨#[]⟩),.d (.int .i64 0),.d (.int .i64 0)] (some [2,3,3])),(124,tT 3 [(0,1,false),(1,1,false),(2,1,false)] [.d (.str ⟨#[]⟩),.d (.int .i64 0),.e0] none),(126,tT 5 [(0,1,false),(1,1,false),(2,1,false),(3,1,false),(4,1,false)] [.d (.str ⟨#[]⟩),.d (.str ⟨#[]⟩),.d (.str ⟨#[]⟩),.d (.int .i64 0),.e0] none),(129,tF),(142,tF),(151,tT 2 [(0,1,false),(1,1,false)] [.d (.int .i64 0),.d (.int .i64 0)] (some [3,3])),(158,tS 27 1),(161,tF),(162,tF),(163,tS 31 1),(167,tS 33 1),(175,tT 8 [(0,1,false),(1,7,true)] [.d (.str ⟨#[]⟩),.d (.int .i64 0),.d (.int .u64 0),.d (.str ⟨#[]⟩),.e0,.e0,.e0,.e0] none),(181,tT 7 [(0,1,false),(1,1,false),(2,1,false),(3,1,false),(4,1,false),(5,1,false),(6,1,false)] [.d (.int .i64 0),.d (.int .u64 0),.d (.str ⟨#[]⟩),.e0,.e0,.e0,.e0] none),(182,tS 35 7),(184,tS 63 14),(187,tT 2 [(0,1,false),(1,1,false)] [.e0,.e0] none),(191,tI .u64),(209,tS 3 1)]
theorem tkk{t:TypeId}{i:TI}(e:DD Tryz.prog t=some i.agg:=by kernel_rfl)(f:Go.Eng.kin Tryz.prog t=i.kin:=by kernel_rfl)(g:(Tryz.prog).cellsOf t=i.siz:=by kernel_rfl)(h:i.elm=none∨Go.Eng.elm Tryz.prog t=i.elm:=by first|exact .inl rfl|exact .inr (by kernel_rfl))
  (k:((List.range i.fld.length).map fun j=>(Go.Eng.fld Tryz.prog t j,L2 Tryz.prog t j))=i.fld.map (fun x=>(some (x.1,x.2.1),some x)):=by kernel_rfl) (l:i.zer=none∨Go.Eng.zer Tryz.prog t=i.zer:=by first|exact .inl rfl|exact .inr (by kernel_rfl)) (m:i.eqt=none∨Nx Tryz.prog t=i.eqt:=by first|exact .inl rfl|exact .inr (by kernel_rfl)) (n:i.str=false∨Md Tryz.prog t=true:=by first|exact .inl rfl|exact .inr (by kernel_rfl))
  (o:i.ik=none∨(Tryz.prog).underlying t=i.ik.map .int:=by first|exact .inl rfl|exact .inr (by kernel_rfl)) (a:i.byt=none∨(∃b,(Tryz.prog).bytesOf t≤b∧(Tryz.prog).bytesOf t≠0∧i.byt=some b):=by first|exact .inl rfl|exact .inr ⟨256,by decide+kernel,by decide+kernel,rfl⟩|exact .inr ⟨4096,by decide+kernel,by decide+kernel,rfl⟩) (c:i.zer=none∨(i.zer.getD []).all AV.flat=true:=by first|exact .inl rfl|exact .inr rfl) (d:i.mp=none∨Me Tryz.prog t=i.mp:=by first|exact .inl rfl|exact .inr (by kernel_rfl)):TIok Tryz.prog t i:=.of e f g h k l m n o a c d
theorem AU:A8 Tryz.prog (Ar tl):=kW tl (by
 intro p a
 simp only[tl,Yx,Xn,or_false]at a
 rcases a with rfl|rfl|rfl|rfl|rfl|rfl|rfl|rfl|rfl|rfl|rfl|rfl|rfl|rfl|rfl|rfl|rfl|rfl|rfl|rfl|rfl|rfl|rfl|rfl|rfl|rfl|rfl|rfl|rfl|rfl|rfl|rfl|rfl|rfl|rfl|rfl|rfl|rfl|rfl|rfl|rfl|rfl|rfl|rfl|rfl|rfl|rfl|rfl|rfl|rfl|rfl|rfl|rfl|rfl|rfl|rfl|rfl|rfl<;>exact tkk)
theorem BN:Tryz.prog.follows .mixedOrders=true:=by kernel_rfl
end Go.Proofs.YtbcmdieedjamgaaGreat
