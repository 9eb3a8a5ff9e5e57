import Derived.Test.YtalafnjhcecdpaaGreatDoorZc11
import Derived.OrdersHeld
import Derived.Test.YtalafnjhcecdpaaGreatDoorZc00
namespace Go.Eng
set_option linter.all false
open Go Go.RowKit
section
variable {V:Type} [Mv V]
def Lz(s:ByteArray):List (ByteArray×V)→Option V
 |[]=>none
 |p::r=>match decide (p.1=s)with|true=>some p.2|false=>Lz s r
def Oc(s:ByteArray)(v:V):List (ByteArray×V)→List (ByteArray×V)
 |[]=>[(s,v)]
 |p::r=>match decide (p.1=s)with|true=>(s,v)::r|false=>p::Oc s v r
def N2(s:ByteArray):List (ByteArray×V)→List (ByteArray×V)
 |[]=>[]
 |p::r=>match decide (p.1=s)with|true=>r|false=>p::N2 s r
theorem mB(s:ByteArray):∀xs:List (ByteArray×V),Fs s (xs.map Dz)=(Lz s xs).map Mv.e
 |[]=>rfl
 |p::r=>by
  simp only[YR,Fs,Dz,Gc,Lz]
  cases decide (p.1=s)with
  |true=>rfl
  |false=>exact mB s r
theorem mU(s:ByteArray)(v:V):∀xs:List (ByteArray×V),H1 s (Mv.e v) (xs.map Dz)=(Oc s v xs).map Dz
 |[]=>rfl
 |p::r=>by
  simp only[YR,H1,Dz,Gc,Oc]
  cases decide (p.1=s)with
  |true=>rfl
  |false=>exact congrArg _ (mU s v r)
theorem na(s:ByteArray):∀xs:List (ByteArray×V),HX s (xs.map Dz)=(N2 s xs).map Dz
 |[]=>rfl
 |p::r=>by
  simp only[YR,HX,Dz,Gc,N2]
  cases decide (p.1=s)with
  |true=>rfl
  |false=>exact congrArg _ (na s r)
def KT(s:ByteArray)(xs:List (ByteArray×V)):V:=(Lz s xs).getD Mv.z
def KN(s:ByteArray)(xs:List (ByteArray×V)):Bool:=(Lz s xs).isSome
theorem rJ(s:ByteArray)(xs:List (ByteArray×V)):Ph (xs.map Dz) s (Mv.e (Mv.z (V:=V))) (Mv.e (KT s xs)) (KN s xs):=by
 unfold Ph KT KN
 rw[mB]
 cases Lz s xs<;>exact⟨rfl,rfl⟩
variable {os:Nat} {β:Type}
@[reducible] def cV(xs:List (ByteArray×V))(s:ByteArray)(k:V→Bool→PT os β):PT os β:=
 ⟨.av (.d (.bool (KN s xs))) (.ds (Mv.e (KT s xs)) (k (KT s xs) (KN s xs)).a),fun E=>Ph (xs.map Dz) s (Mv.e (Mv.z (V:=V))) (Mv.e (KT s xs)) (KN s xs)∧(k (KT s xs) (KN s xs)).q E,(k (KT s xs) (KN s xs)).m,fun E=>∀v b,(k v b).n E,
 fun E c y hm a=>⟨rJ s xs,(k _ _).ok E (c _ _) y hm a⟩⟩
@[reducible] def cX(xs:List (ByteArray×V))(s:ByteArray)(v:V)(k:PT os β):PT os β:=
 ⟨.ents ((Oc s v xs).map Dz) k.a,fun E=>wI s (Mv.e v) (xs.map Dz) ((Oc s v xs).map Dz)∧k.q E,k.m,k.n,fun E b y hm a=>⟨mU s v xs,k.ok E b y hm a⟩⟩
@[reducible] def cU(xs:List (ByteArray×V))(s:ByteArray)(k:PT os β):PT os β:=
 ⟨.ents ((N2 s xs).map Dz) k.a,fun E=>xw s (xs.map Dz) ((N2 s xs).map Dz)∧k.q E,k.m,k.n,fun E b y hm a=>⟨na s xs,k.ok E b y hm a⟩⟩
end
@[reducible] def cY{os:Nat}{β:Type}(d q:Nat)(k:PT os β)(a:Nat.ble (q+1) os=true:=by kernel_rfl):PT os β:=
 ⟨.mv d q k.a,fun E=>Fq []∧(q<os∧E.r.no (E.r.κ (0,q)))∧k.q E,k.m,k.n,fun E c y hm b=>
  ⟨fun x hx=>(by cases hx),⟨Yg a,by rw[E.g.no,E.g.κ];exact E.co.W q (Yg a)⟩,k.ok E c y hm b⟩⟩
structure KCN (P:Program) (f:FuncId) (xs:List AV) {γ:Type} (M:Option (List γ)) (e:γ→AV):Prop where
 k:∀l H ys,M=some ys→Zcu P f l xs H (fun z H'=>(∃y∈ys,z=e y)∧H'=H)
 x:∀r,Al r xs=xs
 e:∀r y,ren r (e y)=e y
theorem KCN.one{P:Program}{f:FuncId}{xs:List AV}{γ:Type}{M:Option (List γ)}{e:γ→AV}(K:KCN P f xs M e)(N:Option γ)(h:∀y,N=some y→∃ys,M=some ys∧∀z∈ys,z=y):KC P f xs N e:=
 ⟨fun l H y hy=>by
  obtain⟨ys,a,b⟩:=h y hy
  exact(K.k l H ys a).mono fun z j ⟨⟨i,c,d⟩,g⟩=>⟨by rw[d,b i c],g⟩,K.x,K.e⟩
structure KON (P:Program) (f:FuncId) (os:Nat) (ys:List AV) (bi:List Blk) (Θ:Cl) {γ:Type} (M:Option (List γ)) (e:γ→AV) (bs:γ→List Blk):Prop where
 k:∀l H (ks:List Ad) (gs:List Nat) (θ:Nat→AV),ks.length=os→I6 l ks→ks.Nodup→Jy H (Cf l ks gs θ H) (Di 0 bi) 0 ks→Θ (fun k=>k∈ks) l H θ→∀zs,M=some zs→
  Zcu P f l (Al (Cf l ks gs θ H) ys) H (fun z H'=>∃y∈zs,z=ren (Cf l ks gs θ H) (e y)∧H'=Dr H ks (CH (Cf l ks gs θ H) 0 (bs y)))
end Go.Eng
namespace Go.Eng
set_option linter.all false
open Go Go.RowKit
inductive Pl where
 |nil
 |fst (i:Nat) (r:Pl)
 |two (i j:Nat) (a b:Pl)
 |opt (hs:List Nat) (i:Nat) (r s:Pl)
def Pl.len:Pl→Nat
 |.nil=>0
 |.fst _ r=>r.len+1
 |.two _ _ a _=>a.len+1
 |.opt _ _ r _=>r.len+1
def TQ:Pl→Bool
 |.opt _ _ _ _=>true
 |_=>false
def Ro:Pl→List Nat
 |.opt _ i _ s=>i::Ro s
 |_=>[]
def Lp:Pl→Bool
 |.opt hs i r s=>hs.all fun k=>(Ro (.opt hs i r s)).any (Nat.beq k)
 |_=>true
def Cj(P:Program)(ops:Array Oper)(Q:Exit→Act→World→Prop)(o:Oper)(a:Act)(w:World)(N:Act→World→Prop):Prop:=if Region.wanted o (yielded ops a.tmps)=true then o.wp P a w N Q else N (a.put o.dst Go.undef) w
def DX(P:Program)(L:List Oper)(Q:Exit→Act→World→Prop)(S:World→Prop):Pl→Act→World→Prop
 |.nil,a,w=>Q .normal a w
 |.fst i r,a,w=>match Bg L i with
  |some o=>Cj P L.toArray Q o a w (fun b w'=>S w'∧DX P L Q S r b w')
  |none=>False
 |.two i j x y,a,w=>match Bg L i,Bg L j with
  |some o,some c=>Cj P L.toArray Q o a w (fun b w'=>S w'∧DX P L Q S x b w')∧Cj P L.toArray Q c a w (fun b w'=>S w'∧DX P L Q S y b w')
  |_,_=>False
 |.opt _ i x y,a,w=>match Bg L i with
  |some o=>Cj P L.toArray Q o a w (fun b w'=>S w'∧DX P L Q S x b w')∧(TQ y=true→DX P L Q S y a w)
  |none=>False
def Ps(listed hs:List Nat):Nat→List Oper→Bool
 |_,[]=>true
 |k,ok::r=>(listed.any (Nat.beq k)||hs.any (Nat.beq k)||ok.after.toList.any (fun e=>Region.binds .any e&&!listed.any (Nat.beq e.on)))&&Ps listed hs (k+1) r
theorem ao{listed hs:List Nat}:∀{r:List Oper} {b k:Nat} {ok:Oper},Ps listed hs b r=true→r[k]?=some ok→
  (b+k)∈listed∨b+k∈hs∨∃e∈ok.after,Region.binds .any e=true∧e.on∉listed
 |[],b,k,ok,_,h=>by simp at h
 |q::r,b,k,ok,d,h=>by
  unfold Ps at d
  rw[Yc]at d
  cases k with
  |zero=>
   simp only[FO,Yh]at h
   subst h
   have a:=d.1
   simp only[YF]at a
   rcases a with(a|a)|a
   ·exact .inl (FZ.1 a)
   ·exact .inr (.inl (FZ.1 a))
   ·obtain⟨e,he,c⟩:=YL.1 a
    rw[Yc]at c
    exact .inr (.inr ⟨e,by simpa using he,c.1,fun hm=>by have:=FZ.2 hm;rw[this]at c;cases c.2⟩)
  |succ k=>
   have:=ao (k:=k) d.2 (by simpa using h)
   grind
def QO(listed:List Nat)(i j:Nat):Nat→List Oper→Bool
 |_,[]=>true
 |k,ok::r=>(listed.any (Nat.beq k)||Nat.beq k i||Nat.beq k j||ok.after.toList.any (fun e=>Region.binds .any e&&!listed.any (Nat.beq e.on)))&&QO listed i j (k+1) r
theorem nO{listed:List Nat}{i j:Nat}:∀{r:List Oper} {b k:Nat} {ok:Oper},QO listed i j b r=true→r[k]?=some ok→
  (b+k)∈listed∨b+k=i∨b+k=j∨∃e∈ok.after,Region.binds .any e=true∧e.on∉listed
 |[],b,k,ok,_,h=>by simp at h
 |q::r,b,k,ok,d,h=>by
  unfold QO at d
  rw[Yc]at d
  cases k with
  |zero=>
   simp only[FO,Yh]at h
   subst h
   have a:=d.1
   simp only[YF]at a
   rcases a with((a|a)|a)|a
   ·exact .inl (FZ.1 a)
   ·exact .inr (.inl (Yb a))
   ·exact .inr (.inr (.inl (Yb a)))
   ·obtain⟨e,he,c⟩:=YL.1 a
    rw[Yc]at c
    exact .inr (.inr (.inr ⟨e,by simpa using he,c.1,fun hm=>by have:=FZ.2 hm;rw[this]at c;cases c.2⟩))
  |succ k=>
   have:=nO (k:=k) d.2 (by simpa using h)
   grind
def PA(env:List (Nat×Nat))(o:Oper):Bool:=match o.op with
 |.load _ x=>(match Ki x with|some y=>(IS y env).isSome|none=>false)
 |_=>false
def E1(o:Oper):Bool:=match o.guard with
 |none=>true
 |some _=>false
def M0(P:Program)(o:Oper):Bool:=E1 o||(IU P o).isNone
def Ge(P:Program)(L:List Oper):List (Nat×Nat)→List Nat→Pl→Bool
 |_,listed,.nil=>(List.range L.length).all fun j=>listed.any (Nat.beq j)
 |env,listed,.fst i b=>(match Bg L i with
  |some a=>!(listed.any (Nat.beq i))&&a.after.toList.all (fun e=>!Region.binds .any e||listed.any (Nat.beq e.on))&&(match E1 a&&(Dk P a||PA env a)with|true=>Pt.chkV P L listed i a 0 L|false=>(match L.all E1 with|true=>Od P L listed i a 0 L|false=>Ps listed [i] 0 L))&&M0 P a&&Ge P L (C4 P env a) (i::listed) b&&Lp b
  |none=>false)
 |env,listed,.two i j x y=>(match Bg L i,Bg L j with
  |some a,some c=>a.after.toList.all (fun e=>!Region.binds .any e||listed.any (Nat.beq e.on))&&!(listed.any (Nat.beq i))&&!(listed.any (Nat.beq j))&&QO listed i j 0 L&&(M0 P a&&M0 P c)&&Nat.beq x.len y.len&&Ge P L (C4 P env a) (i::listed) x&&Ge P L (C4 P env c) (j::listed) y&&Lp x&&Lp y
  |_,_=>false)
 |env,listed,.opt hs i x y=>(match Bg L i with
  |some a=>a.after.toList.all (fun e=>!Region.binds .any e||listed.any (Nat.beq e.on))&&!(listed.any (Nat.beq i))&&Ps listed hs 0 L&&M0 P a&&Ge P L (C4 P env a) (i::listed) x&&Lp x&&(!TQ y||(Nat.beq y.len (x.len+1)&&Ge P L env listed y))
  |none=>false)
def Kt(o:Oper)(a b:Act):Prop:=∃u,∀x,b.eval x=(a.put o.dst u).eval x
theorem oS{P:Program}{o:Oper}{a:Act}{w:World}{N:Act→World→Prop}{Q:Exit→Act→World→Prop}(h:o.wp P a w N Q):o.wp P a w (fun g w'=>N g w'∧Kt o a g∧∀v b,(execOp a.eval o).run P w=.ok (.value v) b→g=a.put o.dst v) Q:=by
 unfold Oper.wp at*
 cases j:(execOp a.eval o).run P w with
 |ok n w'=>
  rw[j]at h
  cases n<;>simp only[Oper.upon]at h⊢
  case value u=>exact⟨h,⟨u,fun _=>rfl⟩,fun v b e=>by cases e;rfl⟩
  case skip=>exact⟨h,⟨_,fun _=>rfl⟩,fun v b e=>by cases e⟩
  case defer d=>exact⟨h,⟨Go.undef,fun x=>by cases o.dst<;>rfl⟩,fun v b e=>by cases e⟩
  case enter f args=>
   refine Calls.mono h fun e i he=>?_
   cases e with
   |returned u=>exact⟨he,⟨u,fun _=>rfl⟩,fun v b e=>by cases e⟩
   |panicked c=>exact he
   |outgrown=>exact he
  case row row args=>exact Rows.mono h fun u i he=>⟨he,⟨u,fun _=>rfl⟩,fun v b e=>by cases e⟩
 |halt x w'=>
  rw[j]at h
  cases x<;>simp only[Oper.upon]at h⊢
  grind
theorem Cj.mono{P:Program}{ops:Array Oper}{Q:Exit→Act→World→Prop}{o:Oper}{a:Act}{w:World}{N b:Act→World→Prop}(h:∀d w',N d w'→b d w')(s:Cj P ops Q o a w N):Cj P ops Q o a w b:=by
 unfold Cj at*
 split
 ·rename_i c
  rw[Yk c]at s
  exact Oper.wp_mono h s
 ·rename_i c
  rw[Yi c]at s
  exact h _ _ s
theorem Cj.un{P:Program}{ops:Array Oper}{Q:Exit→Act→World→Prop}{o:Oper}{a:Act}{w:World}{N:Act→World→Prop}(g:o.guard=none)(s:Cj P ops Q o a w N):o.wp P a w N Q:=by
 unfold Cj at s
 rw[Yk (by simp[Region.wanted,g])]at s
 exact s
theorem Cj.put{P:Program}{ops:Array Oper}{Q:Exit→Act→World→Prop}{o:Oper}{a:Act}{w:World}{N:Act→World→Prop}(s:Cj P ops Q o a w N):Cj P ops Q o a w (fun b w'=>N b w'∧Kt o a b∧(o.guard=none→∀v d,(execOp a.eval o).run P w=.ok (.value v) d→b=a.put o.dst v)):=by
 unfold Cj at*
 split
 ·rename_i c
  rw[Yk c]at s
  exact Oper.wp_mono (fun b w' h=>⟨h.1,h.2.1,fun _=>h.2.2⟩) (oS s)
 ·rename_i c
  rw[Yi c]at s
  exact⟨s,⟨_,fun _=>rfl⟩,fun g=>absurd (by simp[Region.wanted,g]) c⟩
theorem Cj.op{P:Program}{ops:Array Oper}{Q:Exit→Act→World→Prop}{o:Oper}{a:Act}{w:World}{N:Act→World→Prop}{k:Nat}(b:ops[k]?=some o)(s:Cj P ops Q o a w N):wpOp P ops Q k N a w:=by
 unfold wpOp
 simp only[b]
 unfold Cj at s
 split
 ·rename_i c
  rw[Yk c]at s
  exact .inl s
 ·rename_i c
  rw[Yi c]at s
  exact s
theorem Sq{o:Oper}(h:E1 o=true):o.guard=none:=by
 unfold E1 at h
 cases a:o.guard with
 |none=>rfl
 |some _=>rw[a]at h;cases h
def JF(β:Nat→Nat)(env:List (Nat×Nat))(a:Act):Prop:=∀p∈env,∀b,pb (a.eval (.tmp p.1))=some b→b=β p.2
theorem eval_put(a:Act)(d j:Nat)(u:Value)(h:j≠d):(a.put (some d) u).eval (.tmp j)=a.eval (.tmp j):=by
 simp only[Act.put,Act.eval,Yw,Nl]
 grind
theorem xU(a:Act)(d:Nat)(u:Value):(a.put (some d) u).eval (.tmp d)=u∨(a.put (some d) u).eval (.tmp d)=Go.undef:=by
 simp only[Act.put,Act.eval,Yw,Nl]
 grind
theorem JF.put{P:Program}{β:Nat→Nat}{env:List (Nat×Nat)}{a i:Act}{o:Oper}{w:World}(j:JF β env a)(h:Kt o a i)(x:∀z,IU P o=some z→∃v n,(execOp a.eval o).run P w=.ok (.value v) n∧i=a.put o.dst v):JF β (C4 P env o) i:=by
 intro p c b f
 unfold C4 at c
 cases g:o.dst with
 |none=>
  rw[g]at c
  obtain⟨u,l⟩:=h
  rw[l,g]at f
  exact j p c b f
 |some d=>
  rw[g]at c
  rcases Iz.1 c with c|c
  ·cases hs:IU P o with
   |none=>rw[hs]at c;cases c
   |some z=>
    rw[hs]at c
    dsimp only at c
    cases he:IS z env with
    |none=>rw[he]at c;cases c
    |some r=>
     rw[he]at c
     rcases Hq.1 c with rfl
     obtain⟨v,n,q,s⟩:=x z hs
     rw[s,g]at f
     have Aq:pb v=some b:=by
      rcases xU a d v with e|e
      ·grind
      ·rw[e]at f;cases f
     exact j _ (JX he) b (qp hs q Aq)
  ·obtain⟨t,m⟩:=GC.1 c
   obtain⟨u,l⟩:=h
   have k:p.1≠d:=fun e=>by rw[e]at m;simp at m
   rw[l,g,eval_put a d p.1 u k]at f
   exact j p t b f
section
variable {P:Program} {Q:Exit→Act→World→Prop} {L:List Oper} {S:World→Prop}
theorem yk{ops:Array Oper}{i:Nat}{l:Oper}{v:Value}(hi:ops[i]?=some l)(F:Dd P l=true)(N:∀(j:Nat) (o:Oper),ops[j]?=some o→o.guard=none)(p:∀(j:Nat) (o:Oper) cs b,ops[j]?=some o→o.op≠.select cs b)
  (hQ:∀c a w,¬Q (.panic c) a w) (R:¬LetsOut Q):∀(fuel:Nat) (listed:Array Bool) (a:Act) (w:World),DC ops listed→
   (∀j g,ops[j]?=some g→j≠i→listed.getD j true=false→¬Waits ops j i→l.apart ops g=true∧(Dd P g||Jo g)=true)→
   i∈Region.ready .any ops listed→(execOp a.eval l).run P w=.ok (.value v) w→S w→
   wpAnyH P .any ops Q S fuel (listed.setIfInBounds i true) (a.put l.dst v) w→wpAnyH P .any ops Q S (fuel+1) listed a w:=by
 have O:∀{a:Act} {w:World} {K:Act→World→Prop},(execOp a.eval l).run P w=.ok (.value v) w→K (a.put l.dst v) w→wpOp P ops Q i K a w:=fun hy h=>by
  unfold wpOp
  simp only[hi]
  rw[Yk (by simp[Region.wanted,N i l hi])]
  left
  unfold Oper.wp
  rw[hy]
  exact h
 intro fuel
 induction fuel with
 |zero=>
  intro listed a w _ _ q hy T H
  refine⟨fun h=>(by rw[h]at q;cases q),fun j r=>?_⟩
  by_cases f:j=i
  ·grind
  ·have:=ready_mono r f
   rw[H.1]at this
   cases this
 |succ fuel V=>
  intro listed a w J L q hy T H
  refine⟨fun h=>(by rw[h]at q;cases q),fun j r=>?_⟩
  by_cases f:j=i
  ·grind
  ·have d:=H.2 j (ready_mono r f)
   obtain⟨t,g,m,M⟩:=mem_ready.1 r
   have s:=(mem_ready.1 q).1
   obtain⟨A,E⟩:=L j g m f t (J.nowait r s)
   obtain⟨W,X,Y⟩:=Oper.apart_spec A
   obtain⟨Z,q2⟩:=n3 (P:=P) (ρ:=a.eval) E
   unfold wpOp at d⊢
   simp only[m]at d⊢
   have I:∀y,Region.wanted g y=true:=fun y=>by simp[Region.wanted,N j g m]
   rw[Yk (I _)]at d⊢
   rcases d with d|⟨_,d⟩
   case inr=>exact absurd d R
   left
   unfold Oper.wp at d⊢
   rw[execOp_put g (fun cs b=>p j g cs b m) a l.dst v W]at d
   cases e:(execOp a.eval g).run P w with
   |halt x w'=>
    rw[e]at d
    cases x<;>simp only[Oper.upon]at d
    grind
   |ok n w'=>
    have G:=Z _ _ _ e
    obtain⟨u,rfl⟩:=q2 _ _ _ e
    rw[e]at d
    simp only[Oper.upon]at d⊢
    refine⟨d.1,V (listed.setIfInBounds j true) (a.put g.dst u) w' (J.ready r) (fun k ok U C z D=>?_) (ready_mono q (Ne.symm f)) ?_ d.1 ?_⟩
    ·refine L k ok U C ?_ D
     by_cases B:j=k
     ·grind
     ·rw[getD_set_ne true B]at z;exact z
    ·rw[execOp_put l (fun cs b=>p i l cs b hi) a g.dst u Y];exact Zuy F _ _ _ _ hy G
    ·rw[ee _ _ f,←Act.put_comm a v u X];exact d.2
theorem zQ{β:Nat→Nat}{F:Nat→Prop}{w0:World}(hS0:∀b w,F b→S w→w.heap[b]?=w0.heap[b]?)(hC:∀b,F b→Ez w0 b)(hsel:∀(j:Nat) (o:Oper) cs b,L.toArray[j]?=some o→o.op≠.select cs b)(hQ:∀c a w,¬Q (.panic c) a w)(hO:¬LetsOut Q):
  ∀(π:Pl) (env:List (Nat×Nat)) (listed:List Nat) (g:Array Bool) (a:Act) (w:World),g.size=L.length→(∀j,j<L.length→(g.getD j true=true↔j∈listed))→(∀x∈listed,x<L.length)→DC L.toArray g→Ge P L env listed π=true→(∀p∈env,F (β p.2))→JF β env a→S w→
   DX P L Q S π a w→(Lp π=true→wpAnyH P .any L.toArray Q S π.len g a w)∧
    ∀k∈Ro π,wpOp P L.toArray Q k (fun l w'=>S w'∧wpAnyH P .any L.toArray Q S (π.len-1) (g.setIfInBounds k true) l w') a w:=by
 have un:∀(g:Array Bool) (listed:List Nat) (i:Nat),(∀j,j<L.length→(g.getD j true=true↔j∈listed))→i<L.length→listed.any (Nat.beq i)=false→g.getD i true=false:=fun g listed i hl Y c1=>by
  cases hb:g.getD i true with
  |false=>rfl
  |true=>have:=FZ.2 ((hl i Y).1 hb);rw[c1]at this;cases this
 have next:∀(g:Array Bool) (listed:List Nat) (i:Nat),g.size=L.length→(∀j,j<L.length→(g.getD j true=true↔j∈listed))→∀j,j<L.length→((g.setIfInBounds i true).getD j true=true↔j∈i::listed):=fun g listed i hs hl j hj=>by
  by_cases D:i=j
  ·subst D
   simp only[Yu,true_or,iff_true]
   simp[hs,hj]
  ·rw[getD_set_ne true D,hl j hj,Yu]
   exact⟨.inr,fun h=>h.resolve_left (Ne.symm D)⟩
 have rdy:∀(g:Array Bool) (listed:List Nat) (i:Nat) (f:Oper),g.size=L.length→(∀j,j<L.length→(g.getD j true=true↔j∈listed))→(∀x∈listed,x<L.length)→L[i]?=some f→listed.any (Nat.beq i)=false→
   f.after.toList.all (fun e=>!Region.binds .any e||listed.any (Nat.beq e.on))=true→i∈Region.ready .any L.toArray g:=fun g listed i f hs hl B hi c1 c2=>
  mem_ready.2 ⟨un g listed i hl (Yf.1 hi).1 c1,f,by simpa using hi,fun e he hb=>by
   have V:=Ys.1 c2 e (by simpa using he)
   rw[hb]at V
   simp only[Y3,Hm]at V
   have hm:=FZ.1 V
   have X:=B _ hm
   have A:=(hl _ X).2 hm
   simp only[Yw]at A⊢
   rw[Yq (by omega)]at A⊢
   simpa using A⟩
 have envF:∀(env:List (Nat×Nat)) (o:Oper),(∀p∈env,F (β p.2))→∀p∈C4 P env o,F (β p.2):=fun env o hF p hp=>by
  unfold C4 at hp
  split at hp
  ·exact hF p hp
  ·rcases Iz.1 hp with hp|hp
   ·split at hp
    ·split at hp
     ·rename_i r R
      have e:=Hq.1 hp
      rw[e]
      have:=hF _ (JX R)
      exact this
     ·cases hp
    ·cases hp
   ·exact hF p (GC.1 hp).1
 have m:∀(env:List (Nat×Nat)) (o:Oper) (a l:Act) (w:World) (N:Act→World→Prop),Cj P L.toArray Q o a w N→M0 P o=true→JF β env a→Kt o a l→(o.guard=none→∀v w1,(execOp a.eval o).run P w=.ok (.value v) w1→l=a.put o.dst v)→JF β (C4 P env o) l:=fun env o a l w N hw hgk M V X=>by
  refine M.put (P:=P) (w:=w) V fun z hz=>?_
  have E:o.guard=none:=by
   unfold M0 at hgk
   rw[hz]at hgk
   exact Sq (by simpa using hgk)
  have hw:=hw.un E
  have X:=X E
  have hv:Dk P o=true:=by unfold IU at hz;cases hv:Dk P o with|true=>rfl|false=>rw[hv]at hz;cases hz
  obtain⟨v1,v2⟩:=SH (P:=P) (ρ:=a.eval) hv
  unfold Oper.wp at hw
  cases d:(execOp a.eval o).run P w with
  |halt x w'=>
   rw[d]at hw
   cases x<;>simp only[Oper.upon]at hw
   exact absurd hw (hQ _ _ _)
  |ok n w'=>
   obtain⟨u,rfl⟩:=v2 _ _ _ d
   exact⟨u,w',rfl,X u w' d⟩
 intro π
 induction π with
 |nil=>
  intro env listed g a w hs hl B hD G hF M hS h
  unfold Ge at G
  rw[Ys]at G
  refine⟨fun _=>⟨?_,h⟩,fun k K=>by cases K⟩
  cases R:Region.ready .any L.toArray g with
  |nil=>rfl
  |cons x xs=>
   have hx:x∈Region.ready .any L.toArray g:=by rw[R];exact Yz ..
   obtain⟨h0,o,ho,_⟩:=mem_ready.1 hx
   have B:x<L.length:=by have:=(YY.1 ho).1;simpa using this
   have:=(hl x B).2 (FZ.1 (G x (Qa.2 B)))
   rw[h0]at this
   cases this
 |two i j x y ihx ihy=>
  intro env listed g a w hs hl B hD G hF M hS h
  unfold Ge at G
  unfold DX at h
  cases hi:L[i]? with
  |none=>rw[Cb,hi]at G;simp at G
  |some f=>
   cases hj:L[j]? with
   |none=>rw[Cb,Cb,hi,hj]at G;simp at G
   |some U=>
    rw[Cb,Cb,hi,hj]at G h
    dsimp only at h
    simp only[Yc,YU]at G
    obtain⟨⟨⟨⟨⟨⟨⟨⟨⟨c0,c1⟩,c2⟩,c5⟩,W,cgj⟩,c6⟩,c7⟩,c8⟩,cx⟩,cy⟩:=G
    refine⟨fun _=>?_,fun k K=>by cases K⟩
    have Y:i<L.length:=(Yf.1 hi).1
    have hjL:j<L.length:=(Yf.1 hj).1
    obtain⟨V,X⟩:=h
    have lt':∀k,k<L.length→∀z∈k::listed,z<L.length:=fun k K z hz=>by
     rcases Yu.1 hz with rfl|hz
     ·exact K
     ·exact B z hz
    show wpAnyH P .any L.toArray Q S (x.len+1) g a w
    have hready:∀k∈Region.ready .any L.toArray g,k=i∨k=j:=fun k K=>by
     obtain⟨k0,ok,Z,s⟩:=mem_ready.1 K
     have hkl:k<L.length:=by have:=(YY.1 Z).1;simpa using this
     have:=nO (k:=k) c5 (by simpa using Z)
     rw[YP]at this
     rcases this with A|A|A|⟨e,he,hb,J⟩
     ·have:=(hl k hkl).2 A;rw[k0]at this;cases this
     ·exact .inl A
     ·exact .inr A
     ·have T:=s e he hb
      have h5:e.on<L.length:=by
       rcases YD e.on g.size with h|h
       ·omega
       ·simp[Y9 h,Yw]at T
      refine absurd ((hl e.on h5).1 ?_) J
      simp only[Yw]at T⊢
      rw[Yq (by omega)]at T⊢
      simpa using T
    have R:=rdy g listed i f hs hl B hi c1 c0
    refine⟨fun h0=>(by rw[h0]at R;cases R),fun k K=>?_⟩
    rcases hready k K with rfl|rfl
    ·have hkA:L.toArray[k]?=some f:=by simpa using hi
     exact(V.put.mono fun l w' q=>⟨q.1.1,(ihx (C4 P env f) (k::listed) _ l w' (by simp[hs]) (next g listed k hs hl) (lt' k Y) (hD.ready K) c7 (envF env f hF) (m env f a l w _ V W M q.2.1 q.2.2) q.1.1 q.1.2).1 cx⟩).op hkA
    ·have hkA:L.toArray[k]?=some U:=by simpa using hj
     rw[Yb c6]
     exact(X.put.mono fun l w' q=>⟨q.1.1,(ihy (C4 P env U) (k::listed) _ l w' (by simp[hs]) (next g listed k hs hl) (lt' k hjL) (hD.ready K) c8 (envF env U hF) (m env U a l w _ X cgj M q.2.1 q.2.2) q.1.1 q.1.2).1 cy⟩).op hkA
 |opt hh0 i x y ihx ihy=>
  intro env listed g a w hs hl B hD G hF M hS h
  unfold Ge at G
  unfold DX at h
  cases hi:L[i]? with
  |none=>rw[Cb,hi]at G;simp at G
  |some f=>
   rw[Cb,hi]at G h
   dsimp only at h
   simp only[Yc,YU,YF]at G
   obtain⟨⟨⟨⟨⟨⟨c0,c1⟩,c5⟩,W⟩,c7⟩,cx⟩,cy⟩:=G
   have Y:i<L.length:=(Yf.1 hi).1
   obtain⟨V,X⟩:=h
   have lt':∀k,k<L.length→∀z∈k::listed,z<L.length:=fun k K z hz=>by
    rcases Yu.1 hz with rfl|hz
    ·exact K
    ·exact B z hz
   have R:=rdy g listed i f hs hl B hi c1 c0
   have hB:∀k∈Ro (.opt hh0 i x y),wpOp P L.toArray Q k (fun l w'=>S w'∧wpAnyH P .any L.toArray Q S x.len (g.setIfInBounds k true) l w') a w:=fun k K=>by
    rcases Yu.1 K with rfl|K
    ·have hkA:L.toArray[k]?=some f:=by simpa using hi
     exact(V.put.mono fun l w' q=>⟨q.1.1,(ihx (C4 P env f) (k::listed) _ l w' (by simp[hs]) (next g listed k hs hl) (lt' k Y) (hD.ready R) c7 (envF env f hF) (m env f a l w _ V W M q.2.1 q.2.2) q.1.1 q.1.2).1 cx⟩).op hkA
    ·have hy:TQ y=true:=by cases y with|opt _ _ _ _=>rfl|_=>cases K
     rcases cy with cy|⟨cy,cz⟩
     ·rw[hy]at cy;cases cy
     ·have:=(ihy env listed g a w hs hl B hD cz hF M hS (X hy)).2 k K
      rw[Yb cy,Nat.add_sub_cancel]at this
      exact this
   refine⟨fun hcov=>?_,hB⟩
   show wpAnyH P .any L.toArray Q S (x.len+1) g a w
   refine⟨fun h0=>(by rw[h0]at R;cases R),fun k K=>hB k ?_⟩
   obtain⟨k0,ok,Z,s⟩:=mem_ready.1 K
   have hkl:k<L.length:=by have:=(YY.1 Z).1;simpa using this
   have:=ao (k:=k) c5 (by simpa using Z)
   rw[YP]at this
   rcases this with A|A|⟨e,he,hb,J⟩
   ·have:=(hl k hkl).2 A;rw[k0]at this;cases this
   ·exact FZ.1 (Ys.1 hcov k A)
   ·have T:=s e he hb
    have h5:e.on<L.length:=by
     rcases YD e.on g.size with h|h
     ·omega
     ·simp[Y9 h,Yw]at T
    refine absurd ((hl e.on h5).1 ?_) J
    simp only[Yw]at T⊢
    rw[Yq (by omega)]at T⊢
    simpa using T
 |fst i rest ih=>
  intro env listed g a w hs hl B hD G hF M hS h
  unfold Ge at G
  unfold DX at h
  cases hi:L[i]? with
  |none=>rw[Cb,hi]at G;simp at G
  |some f=>
   rw[Cb,hi]at G h
   dsimp only at h
   simp only[Yc,YU]at G
   obtain⟨⟨⟨⟨⟨c1,c2⟩,c3⟩,W⟩,c4⟩,c9⟩:=G
   refine⟨fun _=>?_,fun k K=>by cases K⟩
   have Y:i<L.length:=(Yf.1 hi).1
   have hiA:L.toArray[i]?=some f:=by simpa using hi
   have hun:=un g listed i hl Y c1
   have R:=rdy g listed i f hs hl B hi c1 c2
   have hlt':∀x∈i::listed,x<L.length:=fun x hx=>by
    rcases Yu.1 hx with rfl|hx
    ·exact Y
    ·exact B x hx
   have ih:∀l w',S w'→JF β (C4 P env f) l→DX P L Q S rest l w'→wpAnyH P .any L.toArray Q S rest.len (g.setIfInBounds i true) l w':=fun l w' hS' hJ' h=>
    (ih (C4 P env f) (i::listed) _ l w' (by simp[hs]) (next g listed i hs hl) hlt' (hD.ready R) c4 (envF env f hF) hJ' hS' h).1 c9
   have hli:∀j,j<L.length→g.getD j true=false→j∉listed:=fun j hj hun hm=>by
    have:=(hl j hj).2 hm
    rw[hun]at this
    cases this
   have free:Pt.chkV P L listed i f 0 L=true→∀j U,L.toArray[j]?=some U→j≠i→g.getD j true=false→(∀e∈U.after,Region.binds .any e=true→e.on≠i)→f.apart L.toArray U=true:=fun c3 j U O D H J=>by
    have hjl:j<L.length:=by have:=(YY.1 O).1;simpa using this
    have:=oF (k:=j) c3 (by simpa using O)
    rw[YP]at this
    rcases this with A|A|⟨e,he,hb,he2⟩|A
    ·exact absurd A (hli j hjl H)
    ·exact absurd A D
    ·exact absurd he2 (J e he hb)
    ·exact A
   show wpAnyH P .any L.toArray Q S (rest.len+1) g a w
   by_cases hv:(E1 f&&Dk P f)=true
   ·rw[Yc]at hv
    obtain⟨I,hv⟩:=hv
    have E:=Sq I
    rw[I,hv]at c3
    simp only[Iw,Jz]at c3
    have h:=h.un E
    have m:∀(env:List (Nat×Nat)) (o:Oper) (a l:Act) (w:World) (N:Act→World→Prop),o=f→o.wp P a w N Q→JF β env a→Kt o a l→(∀v w1,(execOp a.eval o).run P w=.ok (.value v) w1→l=a.put o.dst v)→JF β (C4 P env o) l:=fun env o a l w N he hw M V X=>by
     subst he
     exact m env o a l w N (by unfold Cj;rw[Yk (by simp[Region.wanted,E])];exact hw) W M V fun _=>X
    obtain⟨v1,v2⟩:=SH (P:=P) (ρ:=a.eval) hv
    have h0:=h
    unfold Oper.wp at h
    cases d:(execOp a.eval f).run P w with
    |halt x w'=>
     rw[d]at h
     cases x<;>simp only[Oper.upon]at h
     exact absurd h (hQ _ _ _)
    |ok n w'=>
     obtain⟨rfl,v3⟩:=v1 _ _ _ d
     obtain⟨u,rfl⟩:=v2 _ _ _ d
     rw[d]at h
     simp only[Oper.upon]at h
     exact wpAnyH_first hiA hsel (fun c a w hq=>absurd hq (hQ _ _ _)) rest.len g a w' (free c3) R (.inl ⟨by simp[Region.wanted,E],fun w2 _=>v3 w2⟩) hS (ih _ _ h.1 (m env f a _ w' _ rfl h0 M ⟨u,fun _=>rfl⟩ fun v w1 e=>by rw[d]at e;cases e;rfl) h.2)
   ·by_cases q:(E1 f&&PA env f)=true
    ·rw[Yc]at q
     obtain⟨I,q⟩:=q
     have E:=Sq I
     rw[I,q]at c3
     simp only[Ns,Jz]at c3
     rw[I,DQ]at hv
     have hv':Dk P f=false:=by cases hq:Dk P f with|false=>rfl|true=>exact absurd hq hv
     have h:=h.un E
     have m:∀(env:List (Nat×Nat)) (o:Oper) (a l:Act) (w:World) (N:Act→World→Prop),o=f→o.wp P a w N Q→JF β env a→Kt o a l→(∀v w1,(execOp a.eval o).run P w=.ok (.value v) w1→l=a.put o.dst v)→JF β (C4 P env o) l:=fun env o a l w N he hw M V X=>by
      subst he
      exact m env o a l w N (by unfold Cj;rw[Yk (by simp[Region.wanted,E])];exact hw) W M V fun _=>X
     obtain⟨t,x,y,r,ho,hy,he⟩:∃t x y r,f.op=.load t x∧Ki x=some y∧IS y env=some r:=by
      unfold PA at q
      split at q
      ·rename_i t x ho
       split at q
       ·rename_i y hy
        obtain⟨r,R⟩:=Y6.1 q
        exact⟨t,x,y,r,ho,hy,R⟩
       ·cases q
      ·cases q
     have hrd:Dd P f=true:=by unfold Dd;rw[hv',ho];rfl
     obtain⟨v1,v2⟩:=OR (P:=P) (ρ:=a.eval) hrd
     have h0:=h
     unfold Oper.wp at h
     cases d:(execOp a.eval f).run P w with
     |halt x w'=>
      rw[d]at h
      cases x<;>simp only[Oper.upon]at h
      exact absurd h (hQ _ _ _)
     |ok n w'=>
      have e:=v1 _ _ _ d
      subst e
      obtain⟨u,rfl⟩:=v2 _ _ _ d
      rw[d]at h
      simp only[Oper.upon]at h
      have hyl:YieldsIf P L.toArray S f u a:=.inl ⟨by simp[Region.wanted,E],fun w2 hS2=>by
       obtain⟨b,hb,hlo⟩:=ZzT (w2:=w2) ho d
       have hb':b=β r:=M _ (JX he) b (by rw[←Si hy];exact hb)
       have hFb:F b:=by rw[hb'];exact hF _ (JX he)
       have e1:=hS0 b w' hFb hS
       have e2:=hS0 b w2 hFb hS2
       obtain⟨C,q1,q2,q3⟩:=hC b hFb
       exact hlo ⟨C,q1,q2,by rw[e1];exact q3⟩ (by rw[e1,e2])⟩
      exact wpAnyH_first hiA hsel (fun c a w hq=>absurd hq (hQ _ _ _)) rest.len g a w' (free c3) R hyl hS (ih _ _ h.1 (m env f a _ w' _ rfl h0 M ⟨u,fun _=>rfl⟩ fun v w1 e=>by rw[d]at e;cases e;rfl) h.2)
    ·have hq0:(E1 f&&(Dk P f||PA env f))=false:=by
      cases V:E1 f<;>cases X:Dk P f<;>cases A:PA env f<;>simp_all
     rw[hq0]at c3
     dsimp only at c3
     by_cases s:L.all E1=true
     case neg=>
      have s:L.all E1=false:=by cases hq:L.all E1 with|false=>rfl|true=>exact absurd hq s
      rw[s]at c3
      dsimp only at c3
      refine⟨fun h0=>(by rw[h0]at R;cases R),fun k K=>?_⟩
      have hki:k=i:=by
       obtain⟨k0,ok,Z,s⟩:=mem_ready.1 K
       have hkl:k<L.length:=by have:=(YY.1 Z).1;simpa using this
       have:=ao (k:=k) c3 (by simpa using Z)
       rw[YP]at this
       rcases this with A|A|⟨e,he,hb,J⟩
       ·have:=(hl k hkl).2 A;rw[k0]at this;cases this
       ·exact Hq.1 A
       ·have T:=s e he hb
        have h5:e.on<L.length:=by
         rcases YD e.on g.size with h|h
         ·omega
         ·simp[Y9 h,Yw]at T
        refine absurd ((hl e.on h5).1 ?_) J
        simp only[Yw]at T⊢
        rw[Yq (by omega)]at T⊢
        simpa using T
      subst hki
      exact(h.put.mono fun l w' q=>⟨q.1.1,ih l w' q.1.1 (m env f a l w _ h W M q.2.1 q.2.2) q.1.2⟩).op hiA
     rw[s]at c3
     dsimp only at c3
     have hu:∀(j:Nat) (o:Oper),L.toArray[j]?=some o→o.guard=none:=fun j o ho=>Sq (Ys.1 s o (Yn (by simpa using ho)))
     have E:=hu i f hiA
     have I:E1 f=true:=Ys.1 s f (Yn hi)
     rw[I,DQ]at hv
     have h:=h.un E
     have h':=oS h
     have m:∀(env:List (Nat×Nat)) (o:Oper) (a l:Act) (w:World) (N:Act→World→Prop),o=f→o.wp P a w N Q→JF β env a→Kt o a l→(∀v w1,(execOp a.eval o).run P w=.ok (.value v) w1→l=a.put o.dst v)→JF β (C4 P env o) l:=fun env o a l w N he hw M V X=>by
      subst he
      exact m env o a l w N (by unfold Cj;rw[Yk (by simp[Region.wanted,E])];exact hw) W M V fun _=>X
     have at_:∀j U,L.toArray[j]?=some U→j≠i→g.getD j true=false→¬Waits L.toArray j i→f.apart L.toArray U=true∧Dd P f=true∧(Dd P U||Jo U)=true:=fun j U O D H J=>by
      have hjl:j<L.length:=by have:=(YY.1 O).1;simpa using this
      have:=oE (k:=j) c3 (by simpa using O)
      rw[YP]at this
      rcases this with A|A|A|⟨A,T⟩
      ·exact absurd A (hli j hjl H)
      ·exact absurd A D
      ·exact absurd A J
      ·rcases T with T|T
       ·exact absurd T hv
       ·exact⟨A,T⟩
     by_cases hrd:Dd P f=true
     ·obtain⟨v1,v2⟩:=OR (P:=P) (ρ:=a.eval) hrd
      have h0:=h
      unfold Oper.wp at h
      cases d:(execOp a.eval f).run P w with
      |halt x w'=>
       rw[d]at h
       cases x<;>simp only[Oper.upon]at h
       exact absurd h (hQ _ _ _)
      |ok n w'=>
       have e:=v1 _ _ _ d
       subst e
       obtain⟨u,rfl⟩:=v2 _ _ _ d
       rw[d]at h
       simp only[Oper.upon]at h
       exact yk hiA hrd hu hsel hQ hO rest.len g a w' hD (fun j U O D H J=>⟨(at_ j U O D H J).1,(at_ j U O D H J).2.2⟩) R d hS (ih _ _ h.1 (m env f a _ w' _ rfl h0 M ⟨u,fun _=>rfl⟩ fun v w1 e=>by rw[d]at e;cases e;rfl) h.2)
     ·refine⟨fun h0=>(by rw[h0]at R;cases R),fun j hj=>?_⟩
      have D:j=i:=by
       apply Nm
       intro D
       obtain⟨H,U,O,_⟩:=mem_ready.1 hj
       exact hrd (at_ j U O D H (hD.nowait hj hun)).2.1
      subst D
      unfold wpOp
      simp only[hiA]
      rw[Yk (by simp[Region.wanted,hu j f hiA])]
      exact .inl (Oper.wp_mono (fun l w' q=>⟨q.1.1,ih l w' q.1.1 (m env f a l w _ rfl h M q.2.1 q.2.2) q.1.2⟩) h')
end
def In(r:Ren):List (Ad×Blk)→Prop
 |[]=>True
 |(k,_)::t=>match Nat.beq k.1 1 with|true=>In r t|false=>K4 r k∧In r t
def QN:List (Ad×Blk)→Hp→Hp
 |[],H=>H
 |(k,b)::t,H=>QN t (updH H k b)
def q9(P:Program)(l n os:Nat)(r:Ren)(c:Option Nat)(d:AV)(xs:List AV)(a:AT)(K:St→AT→Prop)(τ:St):Prop:=
 match d,a with
 |.fn (.func f) [] [],.hard x ks Aq [] b=>(match ks.all (Bv os),Dv os Aq with
  |true,true=>HQ P l r f xs (ks.map fun k=>(k,τ.H k)) x Aq []∧In r Aq∧QE n K τ.s (QN Aq τ.H) x b c
  |_,_=>False)
 |_,_=>False
def tH:AT→Bool
 |.hard _ _ _ _ _=>true
 |_=>false
def V6(P:Program)(T:Nat→Option TI)(l n os:Nat)(r:Ren)(o:Oper)(a:AT)(K:St→AT→Prop)(τ:St):Prop:=
 match tH a,o.op with
 |true,.call c=>(match c.callee with
  |.value b=>q9 P l n os r o.dst (ev τ.s b) (c.args.toList.map (ev τ.s)) a K τ
  |_=>False)
 |_,_=>H2 P T l n r o a K τ
section
variable {P:Program} {T:Nat→Option TI} {r:Ren} {l n outs:Nat} {B:Base} {env:Bx} {τ σ:St} {a:AT} {o:Oper} {K:St→AT→Prop}
theorem m6(f:RenOk r l outs):∀(Aq:List (Ad×Blk)) {τ σ:St},Dv outs Aq=true→In r Aq→RG r l outs env τ σ→RG r l outs env ⟨τ.s,QN Aq τ.H⟩ ⟨σ.s,C5 r Aq σ.H⟩
 |[],τ,σ,_,_,h=>h
 |(k,b)::t,τ,σ,e,a,h=>by
  simp only[Dv,Yc]at e
  obtain⟨⟨⟨i,j⟩,n⟩,m⟩:=e
  have d:Ku r outs k∧In r t:=by
   unfold In at a
   rcases F5 i with c|⟨c,g⟩
   ·rw[c]at a;exact⟨.inl c,a⟩
   ·rw[c]at a;exact⟨.inr ⟨c,g,a.1.2⟩,a.2⟩
  exact m6 f t (τ:=⟨τ.s,updH τ.H k b⟩) (σ:=⟨σ.s,updH σ.H (r.κ k) (AE r k b)⟩) m d.2 (RG.updH f h k b j d.1)
theorem ZuJ(E:RenOk r l outs)(N:A5 P T)(h:RG r l outs env τ σ)(t:Cd env [] o.op=true)(G:HB env o.dst=true)(d:V6 P T l n outs r o a K τ):Cm P l n B o (KA r l n outs B (EO env o.dst) K) σ:=by
 unfold V6 at d
 split at d
 case h_2=>exact nc E N h t G d
 rename_i c S H
 split at d
 case h_2=>exact d.elim
 rename_i s e
 unfold q9 at d
 split at d
 case h_2=>exact d.elim
 rename_i f x ks Aq b C
 split at d
 case h_2=>exact d.elim
 rename_i D j
 obtain⟨L,z,M⟩:=d
 have ops:∀x∈o.op.operands,ev σ.s x=ren r (ev τ.s x):=by
  unfold Cd at t
  split at t
  ·grind
  ·exact FY h A3 t
 rw[H]at ops
 have g:∀x,x=s∨x∈c.args.toList→x∈(Op.call c).operands:=fun x hx=>by
  simp only[Op.operands,Call.operands,e]
  grind
 have A:ev σ.s s=.fn (.func f) [] []:=by rw[ops s (g s (.inl rfl)),C];simp[ren,Al]
 have F:=L σ.H (fun p d=>by
  obtain⟨q,O,rfl⟩:=YT.1 d
  have m:=F5 (Ys.1 D q O)
  refine⟨?_,fun hl=>h.h q hl⟩
  obtain⟨U,I⟩:=q
  simp only at m
  rcases m with rfl|⟨rfl,z⟩
  ·have:=h.g I
   rw[←E.own]at this
   exact this
  ·exact h.go I z) h.o
 have i:Al r (c.args.toList.map (ev τ.s))=c.args.toList.map (ev σ.s):=by
  rw[Fl,Hj]
  exact Y8 fun y hy=>(ops y (g y (.inr hy))).symm
 refine JW ?_
 unfold Bs
 rw[H]
 simp only[e,A,GB,NC]
 rw[i]at F
 refine F.mono fun y u ⟨R,J,v,w⟩=>?_
 have Q:R=r.γ:=funext fun k=>J k (by simp)
 subst Q
 have v:y=ren r x:=v
 have w:u=C5 r Aq σ.H:=w
 subst w
 exact ol (τ':=⟨τ.s,QN Aq τ.H⟩) G (m6 E Aq j z h) v M
end
def Kk(P:Program)(T:Nat→Option TI)(l n os:Nat)(r:Ren)(ds:List (Option Nat))(o:Oper)(env:Bx)(a:AT)(K:St→Bx→AT→Prop)(τ:St):Prop:=
 match o.guard with
 |none=>(match Cd env [] o.op,HB env o.dst with
  |true,true=>V6 P T l n os r o a (fun τ' c=>K τ' (EO env o.dst) c) τ
  |_,_=>False)
 |some (i,b)=>(match Bg ds i,o.dst with
  |some (some d),some e=>(match F3 τ.s ((d,b)::lk env d),Cd env ((d,b)::lk env d) o.op,fresh e env&&Ko e ((d,b)::lk env d),Nat.ble (e+1) n with
   |some g,true,true,true=>pV P T l r τ o.op (some g) a (fun v c=>K ⟨upd τ.s e v,τ.H⟩ ((e,(d,b)::lk env d)::env) c)
   |_,_,_,_=>False)
  |_,_=>False)
def Gu(P:Program)(T:Nat→Option TI)(l n os:Nat)(r:Ren)(L:List Oper):Pl→Bx→AT→(St→Bx→AT→Prop)→St→Prop
 |.nil,env,a,K,τ=>K τ env a
 |.fst i x,env,a,K,τ=>match Bg L i with
  |some o=>Kk P T l n os r (L.map (·.dst)) o env a (fun τ' b c=>Gu P T l n os r L x b c K τ') τ
  |none=>False
 |.two i j x y,env,a,K,τ=>match Bg L i,Bg L j,a with
  |some o,some e,.br a1 d=>Kk P T l n os r (L.map (·.dst)) o env a1 (fun τ' b c=>Gu P T l n os r L x b c K τ') τ∧Kk P T l n os r (L.map (·.dst)) e env d (fun τ' b c=>Gu P T l n os r L y b c K τ') τ
  |_,_,_=>False
 |.opt _ i x y,env,a,K,τ=>match Bg L i with
  |some o=>(match TQ y with
   |true=>(match a with
    |.br a1 d=>Kk P T l n os r (L.map (·.dst)) o env a1 (fun τ' b c=>Gu P T l n os r L x b c K τ') τ∧Gu P T l n os r L y env d K τ
    |_=>False)
   |false=>Kk P T l n os r (L.map (·.dst)) o env a (fun τ' b c=>Gu P T l n os r L x b c K τ') τ)
  |none=>False
section
variable {P:Program} {T:Nat→Option TI} {r:Ren} {l n outs:Nat} {B:Base}
theorem Om(Z:RenOk r l outs)(G:A5 P T){L:List Oper}{K:St→Bx→AT→Prop}{QQ:Exit→Act→World→Prop}{o:Oper}{env:Bx}{a:AT}{τ σ:St}{act:Act}{w:World}(h:Kk P T l n outs r (L.map (·.dst)) o env a K τ)(t:RG r l outs env τ σ)(x:R l n B σ act w):
  Cj P L.toArray QQ o act w (fun c w'=>∃τ' k j A,K τ' k j∧RG r l outs k τ' A∧R l n B A c w'):=by
 unfold Kk at h
 unfold Cj
 split at h
 ·rename_i z
  rw[Yk (by simp[Region.wanted,z])]
  split at h
  case h_2=>exact h.elim
  rename_i U Y
  refine Oper.wp_mono (fun c w' E=>?_) (ZuJ (B:=B) Z G t U Y h act w x QQ)
  obtain⟨A,⟨F,⟨τ',j,q,C⟩,M⟩,N⟩:=E
  exact⟨τ',_,j,F,q,C,M _ _ N⟩
 ·rename_i i b z
  split at h
  case h_2=>exact h.elim
  rename_i d e V he
  split at h
  case h_2=>exact h.elim
  rename_i g p hx f u
  simp only[Yc]at f
  have u:=Yg u
  have D:=ZR t V p
  have hy:(yielded L.toArray act.tmps i==some b)=g:=by
   obtain⟨s,H⟩:=σ
   obtain⟨m,S,hO,I,W,Q,X⟩:=x.un
   exact ZJ Q (by simpa using D)
  cases g with
  |true=>
   have hs:=(ID p).1 rfl
   rw[Yk (by simp only[Region.wanted,z];exact hy)]
   have O:Cm P l n B o (Yl r e (fun v j=>K ⟨upd τ.s e v,τ.H⟩ ((e,(d,b)::lk env d)::env) j) σ) σ:=JW (by
    obtain⟨J,op,ty,ps,af,gd⟩:=o
    simp only at he
    subst he
    exact b5 G t hs (fun b' e'=>by cases e';rfl) hx (by omega) h)
   refine Oper.wp_mono (fun c w' E=>?_) (O act w x QQ)
   obtain⟨A,⟨v,j,rfl,q⟩,C⟩:=E
   exact⟨_,_,j,_,q,t.put f.1 f.2 (fun _=>rfl) (fun I=>absurd hs I),C⟩
  |false=>
   have hs:¬CJ τ.s ((d,b)::lk env d):=fun hs=>by have:=(ID p).2 hs;cases this
   obtain⟨v,j,q⟩:=T0 h
   rw[Yi (by simp only[Region.wanted,z,hy];decide),he]
   exact⟨_,_,j,_,q,t.put f.1 f.2 (y:=.tup []) (fun h=>absurd h hs) (fun _=>rfl),R.undef x (by omega)⟩
theorem Zsy(A:RenOk r l outs)(v:A5 P T){L:List Oper}{K:St→Bx→AT→Prop}{QQ:Exit→Act→World→Prop}{S:World→Prop}(u:∀σ a w,R l n B σ a w→S w)
  (E:∀τ' c t s b w',K τ' c t→RG r l outs c τ' s→R l n B s b w'→QQ .normal b w'):
  ∀(π:Pl) (env:Bx) (a:AT) (τ σ:St) (e:Act) (w:World),Gu P T l n outs r L π env a K τ→RG r l outs env τ σ→R l n B σ e w→DX P L QQ S π e w:=by
 intro π
 induction π with
 |nil=>intro env a τ σ e w h f g;exact E _ _ _ _ _ _ h f g
 |fst i x F=>
  intro env a τ σ e w h f g
  unfold Gu at h
  split at h
  ·rename_i o z
   unfold DX
   rw[z]
   exact(Om A v h f g).mono fun b w' ⟨τ',c,t,s,k,m,d⟩=>⟨u _ _ _ d,F _ _ _ _ _ _ k m d⟩
  ·exact h.elim
 |two i j x y p q=>
  intro env a τ σ e w h f g
  unfold Gu at h
  split at h
  ·rename_i o H a1 G z C
   unfold DX
   rw[z,C]
   exact⟨(Om A v h.1 f g).mono fun b w' ⟨τ',c,t,s,k,m,d⟩=>⟨u _ _ _ d,p _ _ _ _ _ _ k m d⟩,(Om A v h.2 f g).mono fun b w' ⟨τ',c,t,s,k,m,d⟩=>⟨u _ _ _ d,q _ _ _ _ _ _ k m d⟩⟩
  ·exact h.elim
 |opt hs i x y p q=>
  intro env a τ σ e w h f g
  unfold Gu at h
  split at h
  ·rename_i o z
   unfold DX
   rw[z]
   split at h
   ·split at h
    ·exact⟨(Om A v h.1 f g).mono fun b w' ⟨τ',c,t,s,k,m,d⟩=>⟨u _ _ _ d,p _ _ _ _ _ _ k m d⟩,fun _=>q _ _ _ _ _ _ h.2 f g⟩
    ·exact h.elim
   ·rename_i hy
    exact⟨(Om A v h f g).mono fun b w' ⟨τ',c,t,s,k,m,d⟩=>⟨u _ _ _ d,p _ _ _ _ _ _ k m d⟩,fun D=>by rw[hy]at D;cases D⟩
  ·exact h.elim
end
def zB(s:Nat→AV):List Nat→Bool
 |[]=>true
 |z::r=>(match s z with|.iptr (_::_) _=>true|_=>false)&&zB s r
theorem eA{s:Nat→AV}:∀{Z:List Nat},zB s Z=true→∀z∈Z,∃x ds off,s z=.iptr (x::ds) off
 |[],_,z,a=>by cases a
 |y::r,h,z,a=>by
  simp only[zB,Yc]at h
  rcases Yu.1 a with rfl|a
  ·grind
  ·exact eA h.2 z a
def db(o:Oper):Bool:=match o.op with
 |.select _ _=>false
 |_=>true
def ff(P:Program)(π:Pl)(Z:List Nat):Code→Bool
 |.region _ ops true=>ops.toList.all db&&Nat.beq π.len ops.toList.length&&Ge P ops.toList (Z.map fun z=>(z,z)) [] π&&Lp π
 |_=>false
section
variable {P:Program} {T:Nat→Option TI} {n:Nat} {C:Cx} {τ:St} {Q:Exit→St→Prop} {os:Nat} {c:Code} {β:Type} {L:β→Prop} {y:β}
theorem GX{fx:List Nat}(co:COx C os fx)(hT:A5 P T)(hm':P.follows .mixedOrders=true)(π:Pl)(Z:List Nat)(v:PT os β)(lf:Lf)(hv:v.m=some y)(hL:HL L y)(hn:∀r (g:Gd C r),v.n ⟨⟨C.l,r,Q,fun _ _=>False⟩,L,C,_,co,g,rfl⟩)
  (hq:∀l r Q A,A4 r os v.a τ (fun τ a=>match zB τ.s Z with|true=>Gu P T l n os r (BU c).toList π [] a (fun τ' env f=>A4 r os f (Dx env τ') (fun τ _=>DV fx lf τ (Q .normal))) τ|false=>False)=v.q ⟨l,r,Q,A⟩:=by intro l r Q P;kernel_rfl)
  (W:ff P π Z c=true:=by kernel_rfl):LW P n C c τ Q:=by
 cases c with
 |region id ops dr=>
  cases dr with
  |false=>cases W
  |true=>
   obtain⟨t,rfl⟩:∃l:List Oper,ops=l.toArray:=⟨ops.toList,by simp⟩
   simp only[ff,Yc]at W
   obtain⟨⟨⟨k1,k2⟩,k3⟩,k4⟩:=W
   intro γ σ hg hG a w hR
   have hR':R C.l n C.B σ a {w with drawn:=w.drawn+1 }:=by
    obtain⟨s,H⟩:=σ
    obtain⟨m,S,hO,hn,hdf,hS,hex⟩:=hR.un
    obtain⟨k,u⟩:=hO.drew (w':={w with drawn:=w.drawn+1 }) rfl rfl rfl rfl
    exact R.keep k hn hdf hS hex u
   have k:=v.ok _ (hn (C.r γ) ⟨rfl,rfl,rfl,rfl⟩) y hv hL
   rw[←hq]at k
   generalize v.a=va at k
   have ok:=co.ok
   rw[←co.O,←co.F]at k
   obtain⟨τ₁,a₁,σ₁,u,G,hw1⟩:=B8 (n:=n) ok va k hG
   split at u
   case h_2=>exact u.elim
   rename_i hz
   have hR1:=hw1 _ _ hR'
   obtain⟨s1,X⟩:=σ₁
   obtain⟨m1,D,hO1,hn1,hd1,q,I⟩:=hR1.un
   let N:Base:=⟨X,m1,D,{w with drawn:=w.drawn+1 }⟩
   have hRB:R C.l n N ⟨s1,X⟩ a {w with drawn:=w.drawn+1 }:=⟨m1,D,hO1,hn1,hd1,q,Ext.refl _ _ _ _ _⟩
   have E:∀d f w',R C.l n N d f w'→R C.l n C.B d f w':=fun d f w' h=>by
    obtain⟨m2,S2,O,U,g3,g4,g5⟩:=h
    exact⟨m2,S2,O,U,g3,g4,I.trans g5⟩
   let S:World→Prop:=fun w'=>∀b,D b→w'.heap[b]?=({w with drawn:=w.drawn+1 }:World).heap[b]?
   have hS1:∀d f w',R C.l n N d f w'→S w':=fun d f w' h b i=>by
    obtain⟨m2,S2,O,U,g3,g4,g5⟩:=h
    exact g5.blk b i
   have Y:∀(j:Nat) (o:Oper),t.toArray[j]?=some o→db o=true:=fun j o ho=>Ys.1 k1 o (Yn (by simpa using ho))
   have K:∀(j:Nat) (o:Oper) cs b,t.toArray[j]?=some o→o.op≠.select cs b:=fun j o cs b ho he=>by
    have:=Y j o ho
    unfold db at this
    rw[he]at this
    cases this
   let Q2:Exit→Act→World→Prop:=fun e f w'=>∃d,Is n C (match e with|.normal=>Q .normal|_=>fun _=>False) d∧R C.l n C.B d f w'
   have hpl:DX P t Q2 S π a {w with drawn:=w.drawn+1 }:=by
    refine Zsy (ok.ren γ) hT (B:=N) hS1 (fun τ' env' f d act' w' k1 k2 k3=>?_) π [] a₁ τ₁ ⟨s1,X⟩ a _ u G hRB
    obtain⟨σ₂,O,U⟩:=Ox (n:=n) k2
    obtain⟨τ₃,a₃,σ₃,f1,f2,f3⟩:=B8 (n:=n) ok f k1 O
    obtain⟨γ',τ₄,σ₄,j0,j1,j2,j3⟩:=Hv (n:=n) ok f1 hg f2
    exact⟨σ₄,⟨γ',τ₄,σ₄,j0,j1,j2,Wk.refl _⟩,j3 _ _ (f3 _ _ (U _ _ (E _ _ _ k3)))⟩
   have hF:∀z∈Z,∃b,pb (a.eval (.tmp z))=some b∧D b∧Ez {w with drawn:=w.drawn+1 } b:=fun z hz'=>by
    obtain⟨x,ds,off,e⟩:=eA hz z hz'
    have hsz:s1 z=.iptr (x::ds) off:=by
     have:=(G.s z).1 A3
     simp only at this
     rw[this,e];simp[ren]
    have hx:=q z
    rw[hsz]at hx
    show∃b,pb (a.tmps.getD z Go.undef)=some b∧_
    generalize a.tmps.getD z Go.undef=vv at hx
    cases hx with
    |iptr _ _ ad c i hc hr=>
     refine⟨(ad.add off).block,rfl,by rw[block_add];exact i,?_⟩
     rw[block_add]
     have V:=hc 0 x rfl
     simp only[World.cell?]at V
     have hbk:(ad.add 0).block=ad.block:=block_add _ _
     rw[hbk]at V
     split at V
     ·rename_i C0 e0 f0 hh;exact⟨C0,e0,f0,hh⟩
     ·cases V
   have hw:=zQ (P:=P) (L:=t) (Q:=Q2) (S:=S) (β:=fun z=>(pb (a.eval (.tmp z))).getD 0) (F:=fun b=>D b∧Ez {w with drawn:=w.drawn+1 } b) (w0:={w with drawn:=w.drawn+1 }) (fun b w' i hS=>hS b i.1) (fun b i=>i.2) K
    (fun c a w ⟨d,⟨_,_,_,_,J,_⟩,_⟩=>J) (fun⟨a,w,d,⟨_,_,_,_,J,_⟩,_⟩=>J) π (Z.map fun z=>(z,z)) [] (Array.replicate t.toArray.size false) a {w with drawn:=w.drawn+1 } (by simp) (fun j hj=>by simp[hj]) (fun x hx=>by cases hx)
    (fun m om hm hl=>by
     have:(Array.replicate t.toArray.size false).getD m false=false:=by
      simp only[Yw,Array.getElem?_replicate]
      split<;>rfl
     rw[this]at hl
     cases hl) (by simpa using k3)
    (fun p hp=>by
     obtain⟨z,M,rfl⟩:=YT.1 hp
     obtain⟨b,b1,b2⟩:=hF z M
     simp only[b1,YS];exact b2)
    (fun p hp b i=>by
     obtain⟨z,M,rfl⟩:=YT.1 hp
     simp only at i
     simp only[i,YS]) (fun b i=>rfl) hpl
   have hs:π.len=t.toArray.size:=by simpa using Yb k2
   rw[hs]at hw
   refine wp_mono (wp_region_held hm' (hw.1 k4)) fun e f w' ⟨d,k,u⟩=>⟨d,?_,u⟩
   cases e with
   |normal=>exact k
   |_=>obtain⟨_,_,_,_,J,_⟩:=k;exact J.elim
 |_=>cases W
@[reducible] def tw(a b:PT os β):PT os β:=⟨.br a.a b.a,fun E=>a.q E∧b.q E,a.m,fun E=>a.n E∧b.n E∧(∀y,a.m=some y→b.m=some y),fun E c y hm d=>⟨a.ok E c.1 y hm d,b.ok E c.2.1 y (c.2.2 y hm) d⟩⟩
@[reducible] def du(k:PT os β):PT os β:=⟨.br k.a k.a,fun E=>k.q E∧k.q E,k.m,k.n,fun E b y hm a=>⟨k.ok E b y hm a,k.ok E b y hm a⟩⟩
theorem bN{C:Cx}{r:Ren}(g:Gd C r):∀{Aq:List (Ad×Blk)},Dv os Aq=true→E2 C Aq→In r Aq
 |[],_,_=>trivial
 |(k,b)::t,c,h=>by
  simp only[Dv,Yc]at c
  obtain⟨⟨⟨e,i⟩,j⟩,d⟩:=c
  unfold In
  unfold E2 at h
  rcases F5 e with a|⟨a,f⟩
  ·rw[a]at h⊢;exact bN g d h
  ·rw[a]at h⊢;exact⟨⟨a,by rw[g.no,g.κ];exact h.1⟩,bN g d h.2⟩
@[reducible] def ch{γ:Type}[Inhabited γ](P:Program)(f:FuncId)(xs:List AV)(ks:List Ad)(d:List (Ad×Blk))(M:Option γ)(e:γ→AV)(Aq:γ→List (Ad×Blk))(k:γ→PT os β)(b:∀z,Dv os (Aq z)=true:=by intro z;kernel_rfl):PT os β:=
 ⟨.hard (e (M.getD default)) ks (Aq (M.getD default)) [] (k (M.getD default)).a,fun E=>HQ P E.l E.r f xs d (e (M.getD default)) (Aq (M.getD default)) []∧In E.r (Aq (M.getD default))∧(k (M.getD default)).q E,M.bind fun y=>(k y).m,
 fun E=>(∀y,M=some y→HQ P E.C.l E.E.r f xs d (e y) (Aq y) [])∧(∀y,E2 E.C (Aq y))∧∀y,(k y).n E,fun E a y hm i=>by
  obtain⟨x,c,g⟩:=bind_some hm
  have h:M.getD default=x:=by rw[c];rfl
  rw[h]
  exact⟨by rw[E.hl];exact a.1 x c,bN E.g (b x) (a.2.1 x),(k x).ok E (a.2.2 x) y g i⟩⟩
end
section
variable {os:Nat} {β α:Type} [Rw α]
abbrev We(xs:List α)(off cn:Nat)(z:List AV):List AV:=(Aa Rw.e xs).take (off*Rw.s α)++(List.replicate cn z).flatten++(Aa Rw.e xs).drop ((off+cn)*Rw.s α)
@[reducible] def cr(xs:List α)(off cn:Nat)(z:List AV)(k:PT os β):PT os β:=⟨.cs (We xs off cn z) k.a,fun E=>WR (Aa Rw.e xs) off cn (Rw.s α) z (We xs off cn z)∧k.q E,
 if off+cn≤xs.length then k.m else none,k.n,fun E c y hm b=>by
  obtain⟨a,hm⟩:=BC hm
  exact⟨Zv6 Rw.len a,k.ok E c y hm b⟩⟩
@[reducible] def UB(q:Nat)(xs:List α)(off cn:Nat)(z:List AV)(k:PT os β)(d:Nat.ble (q+1) os=true:=by kernel_rfl):PT os β:=⟨.trim (0,q) (Aa Rw.e (xs.take off)) k.a,fun E=>(∃m,(We xs off cn z).take m=Aa Rw.e (xs.take off))∧K4 E.r (0,q)∧k.q E,
 if off≤xs.length then k.m else none,k.n,fun E c y hm b=>by
  obtain⟨a,hm⟩:=BC hm
  exact⟨Ztz Rw.len a,⟨rfl,by rw[E.g.no,E.g.κ];exact E.co.W q (Yg d)⟩,k.ok E c y hm b⟩⟩
end
theorem lfx{P:AV→List Blk→Prop}{v a:AV}{B:List Blk}(e:v=a)(h:P a B):P v B:=e▸h
theorem PJ{A B:Prop}(b:A→B)(a:A):B:=b a
def gF(a fr:List Nat)(δ:Nat→Nat):Ad→Nat
 |(0,i)=>match fr.any (Nat.beq i)with|true=>δ i|false=>Hb a (0,i)
 |(_+1,_)=>0
def rF(l:Nat)(ks:List Ad)(a fr:List Nat)(δ:Nat→Nat)(H:Hp):Ren:=⟨DM l ks,gF a fr δ,fun _=>.top,H,fun k=>k∈ks⟩
def Ir(κ:Ad→Ad):List (Nat×Nat)→Prop
 |[]=>True
 |(a,b)::t=>(κ (0,a)).1≤(κ (0,b)).1∧Ir κ t
structure KG (P:Program) (f:FuncId) (os:Nat) (fr:List Nat) (lv:List (Nat×Nat)) (ys:List AV) (bi:List Blk) {γ:Type} (M:Option γ) (e:γ→AV) (bs:γ→List Blk):Prop where
 k:∀l H (ks:List Ad) (gs:List Nat),ks.length=os→I6 l ks→ks.Nodup→Jy H (Cf l ks gs (fun _=>.top) H) (Di 0 bi) 0 ks→Ir (DM l ks) lv→∀y,M=some y→
  Zcu P f l (Al (Cf l ks gs (fun _=>.top) H) ys) H (fun z H'=>∃δ,z=ren (rF l ks gs fr δ H) (e y)∧H'=Dr H ks (CH (rF l ks gs fr δ H) 0 (bs y)))
theorem cR{P:Program}{T:Nat→Option TI}{n:Nat}{f:FuncId}{fn:Func}{ys:List AV}{bi:List Blk}{γ:Type}{M:Option γ}{e:γ→AV}{bs:γ→List Blk}(R:P.funcs[f]?=some fn)(W:fn.ntmps=n)(O:A5 P T)(w:List ResultVar)(os:Nat)(fr fx:List Nat)(lv:List (Nat×Nat))
  (h:∀C:Cx,COx C os fx→Ir C.κ lv→∀y,M=some y→∀a:AV→List Blk→Prop,HL (fun y=>a (e y) (bs y)) y→LW P n C (pa [] (As fn)) (Ac (Ds 0 ys) (Di 0 bi)) (FQ T w os a))
  (o:(Jf os).all (fun i=>fr.any (Nat.beq i)||fx.any (Nat.beq i))=true:=by kernel_rfl)
  (he:∀y,Jr os (e y)=true:=by intro y;kernel_rfl) (x:∀y,FA os (bs y):=by intro y;repeat(first|exact trivial|refine⟨.inl (EI _ _),rfl,?_⟩|refine⟨.inl IW,rfl,?_⟩|refine⟨.inr (by kernel_rfl),rfl,?_⟩)) (hl:∀y,(bs y).length=os:=by intro y;rfl) (d:H3 os (Di 0 bi)=true:=by kernel_rfl)
  (Q:fn.body=some (As fn):=by kernel_rfl) (c:(fn.name== "runtime.NumGoroutine")=false:=by kernel_rfl) (X:fn.results.toList=w:=by kernel_rfl) (hx:Nat.ble ys.length n=true:=by kernel_rfl):KG P f os fr lv ys bi M e bs:=
 ⟨fun l H ks m p g t K s y hy=>by
  subst p
  refine lM w (As fn) ks m fx (fun _=>.top) ys (Di 0 bi) (fun z b=>z=e y∧b=bs y) R Q c W X (by rw[Cu];exact Yg hx) O (SE g) t (ZL d) (aO d) (fun i k U=>by have:=bS K i k U;rw[YP]at this;exact this) rfl (fun C I N J V L hθ B u=>?_) fun z b ⟨D,E⟩=>?_
  ·refine h C ⟨I,N,J,fun q A=>?_⟩ (by rw[B];exact s) y hy _ ⟨rfl,rfl⟩
   rw[u,B]
   show(match Bg ks q with|some k=>k|none=>(0,0))∈ks
   rw[Cb,Ya (by omega)]
   exact Ix _
  ·subst D;subst E
   refine⟨hl y,(x y).live,fun r F Y Z h4 G=>⟨fun i=>r.γ (0,i),?_⟩⟩
   have hs:MP ks.length r (rF l ks m fr (fun i=>r.γ (0,i)) H):=fun q A=>by
    refine⟨by rw[F];rfl,?_⟩
    show r.γ (0,q)=match fr.any (Nat.beq q)with|true=>r.γ (0,q)|false=>Hb m (0,q)
    cases v:fr.any (Nat.beq q)with
    |true=>rfl
    |false=>
     have:=Ys.1 o q (Sk A)
     rw[v,Hm]at this
     obtain⟨j,S,e⟩:=YL.1 this
     have:=Yb e
     subst this
     exact G q S
   exact⟨aG hs _ (he y),by rw[FA.ren hs _ _ (by rw[hl];omega) (x y)]⟩⟩
def gB(r:Ren)(fr:List Nat)(δ:Nat→Nat):Nat→List (Ad×Blk)→Ad→Nat
 |_,[],k=>r.γ k
 |i,(q,_)::t,k=>match fr.any (Nat.beq i),Bu k q with|true,true=>δ i|_,_=>gB r fr δ (i+1) t k
def G9(fr:List Nat):Nat→List (Ad×Blk)→List Ad
 |_,[]=>[]
 |i,(q,_)::t=>match fr.any (Nat.beq i)with|true=>q::G9 fr (i+1) t|false=>G9 fr (i+1) t
theorem b7{r:Ren}{fr:List Nat}{δ:Nat→Nat}{k:Ad}:∀(a:List (Ad×Blk)) (i:Nat),k∉G9 fr i a→gB r fr δ i a k=r.γ k
 |[],i,_=>rfl
 |(q,b)::t,i,h=>by
  simp only[G9]at h
  simp only[gB]
  cases c:fr.any (Nat.beq i)with
  |false=>rw[c]at h;exact b7 t (i+1) h
  |true=>
   rw[c]at h
   simp only[Yu,not_or]at h
   have:Bu k q=false:=by
    cases d:Bu k q with
    |false=>rfl
    |true=>exact absurd (Cg.1 d) h.1
   rw[this]
   exact b7 t (i+1) h.2
def rB(r:Ren)(fr:List Nat)(δ:Nat→Nat)(a:List (Ad×Blk)):Ren:=⟨r.κ,gB r fr δ 0 a,r.θ,r.H0,r.no⟩
section
variable {P:Program} {f:FuncId} {os os':Nat} {fr fx:List Nat} {lv:List (Nat×Nat)} {ys:List AV} {bi:List Blk} {γ:Type} {M:Option γ} {e:γ→AV} {bs:γ→List Blk} {C:Cx} {r:Ren} {xs:List AV} {x:AV} {y:γ}
theorem Zt2(K:KG P f os fr lv ys bi M e bs)(hy:M=some y)(co:COx C os' fx)(g:Gd C r)(a u c:List (Ad×Blk))(o:Ir (DM (C.l+1) ((a.map (·.1)).map r.κ)) lv)
  (n:∀H,BE (rC C r a (fun _=>.top) H) r 0 bi a) (i:∀H δ,BE (rF (C.l+1) ((a.map (·.1)).map r.κ) (EV r a) fr δ H) (rB r fr δ a) 0 (bs y) c) (l:(bs y).all Blk.live=true:=by kernel_rfl) (hx:∀H,Al (rC C r a (fun _=>.top) H) ys=Al r xs:=by intro H;kernel_rfl)
  (t:∀H δ,ren (rF (C.l+1) ((a.map (·.1)).map r.κ) (EV r a) fr δ H) (e y)=ren (rB r fr δ a) x:=by intro H δ;kernel_rfl)
  (d:((a.map (·.1)).all (Bv os')&&GI (a.map (·.1))&&Nat.beq a.length os)=true:=by kernel_rfl) (he:a.map (·.1)=c.map (·.1):=by rfl):HQ P C.l r f xs (a++u) x c (G9 fr 0 a):=by
 have q:∀b∈bs y,b.live=true:=fun b B=>Ys.1 l b B
 have m:∀p∈a,p∈a++u:=fun p s=>Ho _ s
 intro h D E
 simp only[Yc]at d
 have:=K.k (C.l+1) h ((a.map (fun p:Ad×Blk=>p.1)).map r.κ) (EV r a) (by rw[YE,YE];exact Yb d.2) (Mo co g _ d.1.1) (Ow (Tw co g) _ d.1.2 d.1.1)
  (Pa bi a 0 bi (fun j=>by have:=OQ bi 0 j;rwa [YP]at this⊢) (n h) fun p s=>D p (m p s)) o y hy
 rw[←hx h]
 refine this.mono fun z v ⟨δ,w,A⟩=>⟨gB r fr δ 0 a,fun k d=>b7 a 0 d,w.trans (t h δ),A.trans ?_⟩
 exact Z8 (r:=rB r fr δ a) (bs y) a c 0 h (i h δ) q he
end
section
variable {P:Program} {T:Nat→Option TI} {n:Nat} {C:Cx} {τ:St} {Q:Exit→St→Prop} {os k:Nat} {c:Code} {β:Type} {L:β→Prop} {y:β} {fx:List Nat}
theorem ts{r:Ren}(co:COx C os fx)(g:Gd C r)(a b:Nat):(r.κ (1,a)).1≤(r.κ (1,b)).1:=by rw[g.κ,co.ok.own,co.ok.own];exact Ye _
theorem pd{r:Ren}{a b:Nat}(g:Gd C r)(h:(C.κ (0,a)).1≤(C.κ (0,b)).1):(r.κ (0,a)).1≤(r.κ (0,b)).1:=by rw[g.κ];exact h
theorem uQ{r:Ren}{a b:Nat}(g:Gd C r)(h:Ir C.κ [(a,b)]):(r.κ (0,a)).1≤(r.κ (0,b)).1∧True:=⟨pd g h.1,trivial⟩
theorem sj{r:Ren}{a b:Nat}{t:List (Nat×Nat)}(g:Gd C r)(h:Ir C.κ ((a,b)::t)){c off m:Nat}:FC r (0,b) [.ref (0,a) c off m]:=by
 unfold FC
 simp only[Al,ren,Iv,List.all_nil,NE,AV.low]
 have:=pd g h.1
 simpa using this
@[reducible] def vwl(q:Nat)(vs:List AV)(k:PT os β)(c:Nat.ble (q+1) os=true:=by kernel_rfl):PT os β:=
 ⟨k.a,fun E=>K4 E.r (0,q)∧FC E.r (0,q) vs∧k.q E,k.m,fun E=>FC E.E.r (0,q) vs∧k.n E,fun E a y hm b=>⟨⟨rfl,by rw[E.g.no,E.g.κ];exact E.co.W q (Yg c)⟩,a.1,k.ok E a.2 y hm b⟩⟩
theorem Bi{γ:Type}{M:Option γ}{kk:γ→Option β}{ss:List (Nat×AV)}{hs:List (Ad×Blk)}{f:FuncId}{os':Nat}{fr:List Nat}{lv:List (Nat×Nat)}{ys:List AV}{bi:List Blk}{e0:γ→AV}{bs:γ→List Blk}(co:COx C os fx)(hm:M.bind kk=some y)(K:KG P f os' fr lv ys bi M e0 bs)
  (a b:List (Ad×Blk)) (e:γ→AV) (Aq:γ→List (Ad×Blk)) (fl:List Ad)
  (h:∀z,kk z=some y→LO P n C c (k+1) (Ac (GV (Fr c k) (e z) (DU (G9 fr 0 a) ss)) (Aq z++CR ((Aq z).map (·.1)) (G9 fr 0 a) fl hs)) Q)
  (m:∀r,Gd C r→Ir (DM (C.l+1) ((a.map (·.1)).map r.κ)) lv:=by
   intro r g
   first
   |exact⟨ts ‹_› g _ _,trivial⟩
   |exact uQ g (by assumption)
   |exact trivial)
  (xs:List AV:=[]++(GP c k).map (ev (Av ss))++[])
  (s:∀z,E2 C (Aq z):=by intro z;repeat(first|exact trivial|refine⟨COx.W ‹_› _ (by decide),?_⟩))
  (j:Jn (Ax hs) fl:=by repeat(first|exact trivial|refine⟨EI _ _,?_⟩))
  (i:∀r H,BE (rC C r a (fun _=>.top) H) r 0 bi a:=by
   intro r H
   repeat(first|exact trivial|refine⟨fun _=>⟨rfl,F0 (EI _ _) (by kernel_rfl)⟩,by kernel_rfl,?_⟩|refine⟨fun _=>⟨rfl,F0 IW (by kernel_rfl)⟩,by kernel_rfl,?_⟩|refine⟨fun _=>⟨rfl,by kernel_rfl⟩,by kernel_rfl,?_⟩))
  (d:∀z r H δ,BE (rF (C.l+1) ((a.map (·.1)).map r.κ) (EV r a) fr δ H) (rB r fr δ a) 0 (bs z) (Aq z):=by
   intro z r H δ
   repeat(first|exact trivial|refine⟨fun _=>⟨rfl,F0 (EI _ _) (by kernel_rfl)⟩,by kernel_rfl,?_⟩|refine⟨fun _=>⟨rfl,F0 IW (by kernel_rfl)⟩,by kernel_rfl,?_⟩|refine⟨fun _=>⟨rfl,by kernel_rfl⟩,by kernel_rfl,?_⟩))
  (hx:∀r H,Al (rC C r a (fun _=>.top) H) ys=Al r xs:=by intro r H;kernel_rfl) (t:[]++(GP c k).map (ev (Av ss))++[]=xs:=by kernel_rfl) (u:∀z r H δ,ren (rF (C.l+1) ((a.map (·.1)).map r.κ) (EV r a) fr δ H) (e0 z)=ren (rB r fr δ a) (e z):=by intro z r H δ;kernel_rfl)
  (q:GK c k=some (Fr c k,callF c k,GP c k):=by kernel_rfl) (E:ev (Av ss) (callF c k)=.fn (.func f) [] []:=by kernel_rfl)
  (l:(((a++b).map (·.1)).map fun k=>(k,Ax hs k))=a++b:=by kernel_rfl) (o:∀z,(bs z).all Blk.live=true:=by intro z;kernel_rfl) (he:∀z,a.map (·.1)=(Aq z).map (·.1):=by intro z;rfl)
  (F:((a.map (·.1)).all (Bv os)&&GI (a.map (·.1))&&Nat.beq a.length os')=true:=by kernel_rfl)
  (p:∀z,(Dv os (Aq z)&&Lq (G9 fr 0 a) (Aq z)&&Mn (G9 fr 0 a) fx&&HS hs&&MO n (Fr c k)&&((a++b).map (·.1)).all (Bv os))=true:=by intro z;kernel_rfl):LO P n C c k (Ac ss hs) Q:=by
 obtain⟨z,B,D⟩:=bind_some hm
 exact nB co.ok co.O co.F f [] [] xs q E t _ (a++b) l (e z) (Aq z) (G9 fr 0 a) fl (p z) (s z) j (fun r v w x A=>Zt2 K B co ⟨v,w,x,A⟩ a b (Aq z) (m r ⟨v,w,x,A⟩) (fun H=>i r H) (fun H δ=>d z r H δ) (o z) (fun H=>hx r H) (fun H δ=>u z r H δ) F (he z)) (h z D)
def ka(m:Nat):Code→Bool
 |.region _ ops true=>Nat.beq ops.toList.length (m+1)&&TT ops.toList&&(HP m ops.toList).all (fun o=>CQ o||BT o)&&KV ops.toList 0 ops.toList&&(Jf m).all (fun i=>O8 ops.toList i ops.toList.length m)
 |_=>false
theorem EQ(co:COx C os fx)(hT:A5 P T)(A:P.follows .mixedOrders=true)(m:Nat)(v:PT os β)(lf:Lf)(hv:v.m=some y)(Z:HL L y)(hn:∀r (g:Gd C r),v.n ⟨⟨C.l,r,fun _ τ'=>LO P n C c m τ' Q,fun _ _=>False⟩,L,C,_,co,g,rfl⟩)
  (hq:∀l r Q h,A4 r os v.a τ (fun τ a=>GQ P T l n r ((BU c).toList.map (·.dst)) (HP m (BU c).toList) [] a (fun τ' env f=>A4 r os f (Dx env τ') (fun τ _=>DV fx lf τ (Q .normal))) τ)=v.q ⟨l,r,Q,h⟩:=by intro l r Q P;kernel_rfl)
  (t:ka m c=true:=by kernel_rfl):LW P n C c τ Q:=by
 cases c with
 |region id ops N=>
  cases N with
  |false=>cases t
  |true=>
   obtain⟨Lf,rfl⟩:∃l:List Oper,ops=l.toArray:=⟨ops.toList,by simp⟩
   simp only[ka,Yc,Se]at t
   obtain⟨⟨⟨⟨G,H⟩,E⟩,I⟩,J⟩:=t
   have G:=Yb G
   have s:∃o,Lf.drop m=[o]:=List.length_eq_one_iff.1 (by rw[EC];omega)
   obtain⟨o,s⟩:=s
   have b:Lf=Lf.take m++[o]:=by rw[←s,JH]
   have z:(Lf.take m).length=m:=by rw[YQ];omega
   intro γ σ hg Y a w hR
   have q:=v.ok _ (hn (C.r γ) ⟨rfl,rfl,rfl,rfl⟩) y hv Z
   rw[←hq]at q
   generalize v.a=va at q
   have ok:=co.ok
   rw[←co.O,←co.F]at q
   obtain⟨τ₁,M,K,F,u,D⟩:=B8 (n:=n) ok va q Y
   simp only[BU,Se,List.toList_toArray]at F H E I J
   have k:=zr (P:=P) (n:=n) (B:=C.B) (id:=id) (L:=Lf.take m) (o:=o) (σ:=K) (a:=a) (w:=w) (QQ:=fun e f w'=>∃p,Is n C (Q e) p∧R C.l n C.B p f w')
    (X:=fun p=>∃τ' d f,A4 (C.r γ) C.outs f (Dx d τ') (fun τ _=>DV C.fx lf τ (fun τ'=>LO P n C (.region id Lf.toArray true) m τ' Q))∧RG (C.r γ) C.l C.outs d τ' p) A (l5 (by rw[←b];exact H)) E (by rw[←b];exact I)
    (fun i hi=>by rw[←b,z];exact Zy _ _ (Ys.1 J i (Sk (by omega)))) (by rw[←b];exact Mb (ok.ren γ) hT _ [] M τ₁ K E F u) (fun p j w' x ⟨τ',d,f,f1,f2⟩=>?_) (D _ _ hR)
   ·rw[←b]at k;exact k
   ·obtain⟨σ₂,V,W⟩:=Ox (n:=n) f2
    obtain⟨τ₃,a₃,σ₃,O,S,U⟩:=B8 (n:=n) ok f f1 V
    obtain⟨γ',τ₄,σ₄,j0,j1,j2,j3⟩:=Hv (n:=n) ok O hg S
    have:=j1 γ' σ₄ j w' j0 j2 (j3 _ _ (U _ _ (W _ _ x)))
    simp only[BU,List.toList_toArray,s]at this
    rw[←b]
    exact this
 |_=>cases t
end
end Go.Eng
