import Derived.Test.YtalafnjhcecdpaaGreatDoorZa11
import Derived.OrdersHeld
import Derived.Test.YtalafnjhcecdpaaGreatDoorZa00
namespace Go.Eng
set_option linter.all false
open Go Go.RowKit
section
variable {V:Type} [Mv V]
def MC(s:ByteArray):List (ByteArray×V)->Option V
 |[]=>none
 |p::r=>match decide (p.1=s)with|true=>some p.2|false=>MC s r
def Pa(s:ByteArray)(v:V):List (ByteArray×V)->List (ByteArray×V)
 |[]=>[(s,v)]
 |p::r=>match decide (p.1=s)with|true=>(s,v)::r|false=>p::Pa s v r
def Py(s:ByteArray):List (ByteArray×V)->List (ByteArray×V)
 |[]=>[]
 |p::r=>match decide (p.1=s)with|true=>r|false=>p::Py s r
theorem rv(s:ByteArray):∀xs:List (ByteArray×V),F0 s (xs.map DW)=(MC s xs).map Mv.e
 |[]=>rfl
 |p::r=>by
  simp only[YZ,F0,DW,GT,MC];cases decide (p.1=s)with
  |true=>rfl
  |false=>exact rv s r
theorem r9(s:ByteArray)(v:V):∀xs:List (ByteArray×V),IT s (Mv.e v) (xs.map DW)=(Pa s v xs).map DW
 |[]=>rfl
 |p::r=>by
  simp only[YZ,IT,DW,GT,Pa];cases decide (p.1=s)with
  |true=>rfl
  |false=>exact congrArg _ (r9 s v r)
theorem rW(s:ByteArray):∀xs:List (ByteArray×V),IZ s (xs.map DW)=(Py s xs).map DW
 |[]=>rfl
 |p::r=>by
  simp only[YZ,IZ,DW,GT,Py];cases decide (p.1=s)with
  |true=>rfl
  |false=>exact congrArg _ (rW s r)
def L8(s:ByteArray)(xs:List (ByteArray×V)):V:=(MC s xs).getD Mv.z
def L5(s:ByteArray)(xs:List (ByteArray×V)):Bool:=(MC s xs).isSome
theorem yZ(s:ByteArray)(xs:List (ByteArray×V)):Q6 (xs.map DW) s (Mv.e (Mv.z (V:=V))) (Mv.e (L8 s xs)) (L5 s xs):=by unfold Q6 L8 L5;rw[rv];cases MC s xs<;>exact⟨rfl,rfl⟩
variable {os:Nat} {β:Type}
@[reducible] def gR(xs:List (ByteArray×V))(s:ByteArray)(k:V->Bool->PT os β):PT os β:=
 ⟨.av (.d (.bool (L5 s xs))) (.ds (Mv.e (L8 s xs)) (k (L8 s xs) (L5 s xs)).a),λE=>Q6 (xs.map DW) s (Mv.e (Mv.z (V:=V))) (Mv.e (L8 s xs)) (L5 s xs)/\(k (L8 s xs) (L5 s xs)).q E,(k (L8 s xs) (L5 s xs)).m,λE=>∀v b,(k v b).n E,
 λE c y hm a=>⟨yZ s xs,(k _ _).ok E (c _ _) y hm a⟩⟩
@[reducible] def gT(xs:List (ByteArray×V))(s:ByteArray)(v:V)(k:PT os β):PT os β:=
 ⟨.ents ((Pa s v xs).map DW) k.a,λE=>ZRd s (Mv.e v) (xs.map DW) ((Pa s v xs).map DW)/\k.q E,k.m,k.n,λE b y hm a=>⟨r9 s v xs,k.ok E b y hm a⟩⟩
@[reducible] def gQ(xs:List (ByteArray×V))(s:ByteArray)(k:PT os β):PT os β:=
 ⟨.ents ((Py s xs).map DW) k.a,λE=>ZRm s (xs.map DW) ((Py s xs).map DW)/\k.q E,k.m,k.n,λE b y hm a=>⟨rW s xs,k.ok E b y hm a⟩⟩
end
@[reducible] def gU{os:Nat}{β:Type}(d q:Nat)(k:PT os β)(a:Nat.ble (q+1) os=true:=by kernel_rfl):PT os β:=
 ⟨.mv d q k.a,λE=>FW []/\(q<os/\E.r.no (E.r.κ (0,q)))/\k.q E,k.m,k.n,λE c y hm b=>
  ⟨λx hx=>(by cases hx),⟨Yj a,by rw[E.g.no,E.g.κ];exact E.co.W q (Yj a)⟩,k.ok E c y hm b⟩⟩
structure KCN (P:Program) (f:FuncId) (xs:List AV) {γ:Type} (M:Option (List γ)) (e:γ->AV):Prop where
 k:∀l H ys,M=some ys->Zc0 P f l xs H (λz H'=>(∃y∈ys,z=e y)/\H'=H)
 x:∀r,Ao r xs=xs
 e:∀r y,ren r (e y)=e y
theorem KCN.one{P:Program}{f:FuncId}{xs:List AV}{γ:Type}{M:Option (List γ)}{e:γ->AV}(K:KCN P f xs M e)(N:Option γ)(h:∀y,N=some y->∃ys,M=some ys/\∀z∈ys,z=y):KC P f xs N e:=
 ⟨λl H y hy=>by obtain⟨ys,a,b⟩:=h y hy;exact(K.k l H ys a).mono λz j ⟨⟨i,c,d⟩,g⟩=>⟨by rw[d,b i c],g⟩,K.x,K.e⟩
structure KON (P:Program) (f:FuncId) (os:Nat) (ys:List AV) (bi:List Blk) (Θ:Cl) {γ:Type} (M:Option (List γ)) (e:γ->AV) (bs:γ->List Blk):Prop where
 k:∀l H (ks:List Ad) (gs:List Nat) (θ:Nat->AV),ks.length=os->Ko l ks->ks.Nodup->KH H (Cv l ks gs θ H) (DF 0 bi) 0 ks->Θ (λk=>k∈ks) l H θ->∀zs,M=some zs->
  Zc0 P f l (Ao (Cv l ks gs θ H) ys) H (λz H'=>∃y∈zs,z=ren (Cv l ks gs θ H) (e y)/\H'=DU H ks (C4 (Cv l ks gs θ H) 0 (bs y)))
end Go.Eng
namespace Go.Eng
set_option linter.all false
open Go Go.RowKit
inductive Pl where
 |nil
 |fst (i:Nat) (r:Pl)
 |two (i j:Nat) (a b:Pl)
 |opt (hs:List Nat) (i:Nat) (r s:Pl)
def Pl.len:Pl->Nat
 |.nil=>0
 |.fst _ r=>r.len+1
 |.two _ _ a _=>a.len+1
 |.opt _ _ r _=>r.len+1
def V4:Pl->Bool
 |.opt _ _ _ _=>true
 |_=>false
def Tb:Pl->List Nat
 |.opt _ i _ s=>i::Tb s
 |_=>[]
def MT:Pl->Bool
 |.opt hs i r s=>hs.all λk=>(Tb (.opt hs i r s)).any (Nat.beq k)
 |_=>true
def Cy(P:Program)(ops:Array Oper)(Q:Exit->Act->World->Prop)(o:Oper)(a:Act)(w:World)(N:Act->World->Prop):Prop:=if Region.wanted o (yielded ops a.tmps)=true then o.wp P a w N Q else N (a.put o.dst Go.undef) w
def El(P:Program)(L:List Oper)(Q:Exit->Act->World->Prop)(S:World->Prop):Pl->Act->World->Prop
 |.nil,a,w=>Q .normal a w
 |.fst i r,a,w=>match Bl L i with
  |some o=>Cy P L.toArray Q o a w (λb w'=>S w'/\El P L Q S r b w')
  |none=>False
 |.two i j x y,a,w=>match Bl L i,Bl L j with
  |some o,some c=>Cy P L.toArray Q o a w (λb w'=>S w'/\El P L Q S x b w')/\Cy P L.toArray Q c a w (λb w'=>S w'/\El P L Q S y b w')
  |_,_=>False
 |.opt _ i x y,a,w=>match Bl L i with
  |some o=>Cy P L.toArray Q o a w (λb w'=>S w'/\El P L Q S x b w')/\(V4 y=true->El P L Q S y a w)
  |none=>False
def Q3(listed hs:List Nat):Nat->List Oper->Bool
 |_,[]=>true
 |k,ok::r=>(listed.any (Nat.beq k)||hs.any (Nat.beq k)||ok.after.toList.any (λe=>Region.binds .any e&&!listed.any (Nat.beq e.on)))&&Q3 listed hs (k+1) r
theorem ew{listed hs:List Nat}:∀{r:List Oper} {b k:Nat} {ok:Oper},Q3 listed hs b r=true->r[k]?=some ok->
  (b+k)∈listed\/b+k∈hs\/∃e∈ok.after,Region.binds .any e=true/\e.on∉listed
 |[],b,k,ok,_,h=>by simp at h
 |q::r,b,k,ok,d,h=>by
  unfold Q3 at d;rw[Yb]at d;cases k with
  |zero=>
   simp only[Gs,Yn]at h;subst h;have a:=d.1;simp only[YB]at a;rcases a with(a|a)|a
   ·exact .inl (GC.1 a)
   ·exact .inr (.inl (GC.1 a))
   ·obtain⟨e,he,c⟩:=YU.1 a;rw[Yb]at c;exact .inr (.inr ⟨e,by simpa using he,c.1,λhm=>by have:=GC.2 hm;rw[this]at c;cases c.2⟩)
  |succ k=>
   have:=ew (k:=k) d.2 (by simpa using h);grind
def Ty(listed:List Nat)(i j:Nat):Nat->List Oper->Bool
 |_,[]=>true
 |k,ok::r=>(listed.any (Nat.beq k)||Nat.beq k i||Nat.beq k j||ok.after.toList.any (λe=>Region.binds .any e&&!listed.any (Nat.beq e.on)))&&Ty listed i j (k+1) r
theorem tZ{listed:List Nat}{i j:Nat}:∀{r:List Oper} {b k:Nat} {ok:Oper},Ty listed i j b r=true->r[k]?=some ok->
  (b+k)∈listed\/b+k=i\/b+k=j\/∃e∈ok.after,Region.binds .any e=true/\e.on∉listed
 |[],b,k,ok,_,h=>by simp at h
 |q::r,b,k,ok,d,h=>by
  unfold Ty at d;rw[Yb]at d;cases k with
  |zero=>
   simp only[Gs,Yn]at h;subst h;have a:=d.1;simp only[YB]at a;rcases a with((a|a)|a)|a
   ·exact .inl (GC.1 a)
   ·exact .inr (.inl (Ye a))
   ·exact .inr (.inr (.inl (Ye a)))
   ·obtain⟨e,he,c⟩:=YU.1 a;rw[Yb]at c;exact .inr (.inr (.inr ⟨e,by simpa using he,c.1,λhm=>by have:=GC.2 hm;rw[this]at c;cases c.2⟩))
  |succ k=>
   have:=tZ (k:=k) d.2 (by simpa using h);grind
def Rf(env:List (Nat×Nat))(o:Oper):Bool:=match o.op with
 |.load _ x=>(match LX x with|some y=>(J9 y env).isSome|none=>false)
 |_=>false
def FE(o:Oper):Bool:=match o.guard with
 |none=>true
 |some _=>false
def On(P:Program)(o:Oper):Bool:=FE o||(J5 P o).isNone
def GS(P:Program)(L:List Oper):List (Nat×Nat)->List Nat->Pl->Bool
 |_,listed,.nil=>(List.range L.length).all λj=>listed.any (Nat.beq j)
 |env,listed,.fst i b=>(match Bl L i with
  |some a=>!(listed.any (Nat.beq i))&&a.after.toList.all (λe=>!Region.binds .any e||listed.any (Nat.beq e.on))&&(match FE a&&(DH P a||Rf env a)with|true=>Rh.chkV P L listed i a 0 L|false=>(match L.all FE with|true=>Pm P L listed i a 0 L|false=>Q3 listed [i] 0 L))&&On P a&&GS P L (Dp P env a) (i::listed) b&&MT b
  |none=>false)
 |env,listed,.two i j x y=>(match Bl L i,Bl L j with
  |some a,some c=>a.after.toList.all (λe=>!Region.binds .any e||listed.any (Nat.beq e.on))&&!(listed.any (Nat.beq i))&&!(listed.any (Nat.beq j))&&Ty listed i j 0 L&&(On P a&&On P c)&&Nat.beq x.len y.len&&GS P L (Dp P env a) (i::listed) x&&GS P L (Dp P env c) (j::listed) y&&MT x&&MT y
  |_,_=>false)
 |env,listed,.opt hs i x y=>(match Bl L i with
  |some a=>a.after.toList.all (λe=>!Region.binds .any e||listed.any (Nat.beq e.on))&&!(listed.any (Nat.beq i))&&Q3 listed hs 0 L&&On P a&&GS P L (Dp P env a) (i::listed) x&&MT x&&(!V4 y||(Nat.beq y.len (x.len+1)&&GS P L env listed y))
  |none=>false)
def KZ(o:Oper)(a b:Act):Prop:=∃u,∀x,b.eval x=(a.put o.dst u).eval x
theorem vA{P:Program}{o:Oper}{a:Act}{w:World}{N:Act->World->Prop}{Q:Exit->Act->World->Prop}(h:o.wp P a w N Q):o.wp P a w (λg w'=>N g w'/\KZ o a g/\∀v b,(execOp a.eval o).run P w=.ok (.value v) b->g=a.put o.dst v) Q:=by
 unfold Oper.wp at*;cases j:(execOp a.eval o).run P w with
 |ok n w'=>
  rw[j]at h;cases n<;>simp only[Oper.upon]at h⊢
  case value u=>exact⟨h,⟨u,λ_=>rfl⟩,λv b e=>by cases e;rfl⟩
  case skip=>exact⟨h,⟨_,λ_=>rfl⟩,λv b e=>by cases e⟩
  case defer d=>exact⟨h,⟨Go.undef,λx=>by cases o.dst<;>rfl⟩,λv b e=>by cases e⟩
  case enter f args=>
   refine Calls.mono h λe i he=>?_;cases e with
   |returned u=>exact⟨he,⟨u,λ_=>rfl⟩,λv b e=>by cases e⟩
   |panicked c=>exact he
   |outgrown=>exact he
  case row row args=>exact Rows.mono h λu i he=>⟨he,⟨u,λ_=>rfl⟩,λv b e=>by cases e⟩
 |halt x w'=>
  rw[j]at h;cases x<;>simp only[Oper.upon]at h⊢;grind
theorem Cy.mono{P:Program}{ops:Array Oper}{Q:Exit->Act->World->Prop}{o:Oper}{a:Act}{w:World}{N b:Act->World->Prop}(h:∀d w',N d w'->b d w')(s:Cy P ops Q o a w N):Cy P ops Q o a w b:=by
 unfold Cy at*;split
 ·rename_i c;rw[Ym c]at s;exact Oper.wp_mono h s
 ·rename_i c;rw[Yk c]at s;exact h _ _ s
theorem Cy.un{P:Program}{ops:Array Oper}{Q:Exit->Act->World->Prop}{o:Oper}{a:Act}{w:World}{N:Act->World->Prop}(g:o.guard=none)(s:Cy P ops Q o a w N):o.wp P a w N Q:=by unfold Cy at s;rw[Ym (by simp[Region.wanted,g])]at s;exact s
theorem Cy.put{P:Program}{ops:Array Oper}{Q:Exit->Act->World->Prop}{o:Oper}{a:Act}{w:World}{N:Act->World->Prop}(s:Cy P ops Q o a w N):Cy P ops Q o a w (λb w'=>N b w'/\KZ o a b/\(o.guard=none->∀v d,(execOp a.eval o).run P w=.ok (.value v) d->b=a.put o.dst v)):=by
 unfold Cy at*;split
 ·rename_i c;rw[Ym c]at s;exact Oper.wp_mono (λb w' h=>⟨h.1,h.2.1,λ_=>h.2.2⟩) (vA s)
 ·rename_i c;rw[Yk c]at s;exact⟨s,⟨_,λ_=>rfl⟩,λg=>absurd (by simp[Region.wanted,g]) c⟩
theorem Cy.op{P:Program}{ops:Array Oper}{Q:Exit->Act->World->Prop}{o:Oper}{a:Act}{w:World}{N:Act->World->Prop}{k:Nat}(b:ops[k]?=some o)(s:Cy P ops Q o a w N):wpOp P ops Q k N a w:=by
 unfold wpOp;simp only[b];unfold Cy at s;split
 ·rename_i c;rw[Ym c]at s;exact .inl s
 ·rename_i c;rw[Yk c]at s;exact s
theorem UD{o:Oper}(h:FE o=true):o.guard=none:=by
 unfold FE at h;cases a:o.guard with
 |none=>rfl
 |some _=>rw[a]at h;cases h
def JF(β:Nat->Nat)(env:List (Nat×Nat))(a:Act):Prop:=∀p∈env,∀b,pb (a.eval (.tmp p.1))=some b->b=β p.2
theorem eval_put(a:Act)(d j:Nat)(u:Value)(h:j≠d):(a.put (some d) u).eval (.tmp j)=a.eval (.tmp j):=by simp only[Act.put,Act.eval,Yz,OL];grind
theorem ZkM(a:Act)(d:Nat)(u:Value):(a.put (some d) u).eval (.tmp d)=u\/(a.put (some d) u).eval (.tmp d)=Go.undef:=by simp only[Act.put,Act.eval,Yz,OL];grind
theorem JF.put{P:Program}{β:Nat->Nat}{env:List (Nat×Nat)}{a i:Act}{o:Oper}{w:World}(j:JF β env a)(h:KZ o a i)(x:∀z,J5 P o=some z->∃v n,(execOp a.eval o).run P w=.ok (.value v) n/\i=a.put o.dst v):JF β (Dp P env o) i:=by
 intro p c b f;unfold Dp at c;cases g:o.dst with
 |none=>
  rw[g]at c;obtain⟨u,l⟩:=h;rw[l,g]at f;exact j p c b f
 |some d=>
  rw[g]at c;rcases Hg.1 c with c|c
  ·cases hs:J5 P o with
   |none=>rw[hs]at c;cases c
   |some z=>
    rw[hs]at c;dsimp only at c;cases he:J9 z env with
    |none=>rw[he]at c;cases c
    |some r=>
     rw[he]at c;rcases Hb.1 c with rfl;obtain⟨v,n,q,s⟩:=x z hs;rw[s,g]at f;have Av:pb v=some b:=by
      rcases ZkM a d v with e|e
      ·grind
      ·rw[e]at f;cases f
     exact j _ (Lw he) b (vK hs q Av)
  ·obtain⟨t,m⟩:=Hf.1 c;obtain⟨u,l⟩:=h;have k:p.1≠d:=λe=>by rw[e]at m;simp at m
   rw[l,g,eval_put a d p.1 u k]at f;exact j p t b f
section
variable {P:Program} {Q:Exit->Act->World->Prop} {L:List Oper} {S:World->Prop}
theorem ZnL{ops:Array Oper}{i:Nat}{l:Oper}{v:Value}(hi:ops[i]?=some l)(F:Dy P l=true)(N:∀(j:Nat) (o:Oper),ops[j]?=some o->o.guard=none)(p:∀(j:Nat) (o:Oper) cs b,ops[j]?=some o->o.op≠.select cs b)
  (hQ:∀c a w,¬Q (.panic c) a w) (R:¬LetsOut Q):∀(fuel:Nat) (listed:Array Bool) (a:Act) (w:World),DC ops listed->
   (∀j g,ops[j]?=some g->j≠i->listed.getD j true=false->¬Waits ops j i->l.apart ops g=true/\(Dy P g||Ks g)=true)->
   i∈Region.ready .any ops listed->(execOp a.eval l).run P w=.ok (.value v) w->S w->
   wpAnyH P .any ops Q S fuel (listed.setIfInBounds i true) (a.put l.dst v) w->wpAnyH P .any ops Q S (fuel+1) listed a w:=by
 have O:∀{a:Act} {w:World} {K:Act->World->Prop},(execOp a.eval l).run P w=.ok (.value v) w->K (a.put l.dst v) w->wpOp P ops Q i K a w:=λhy h=>by unfold wpOp;simp only[hi];rw[Ym (by simp[Region.wanted,N i l hi])];left;unfold Oper.wp;rw[hy];exact h
 intro fuel
 induction fuel with
 |zero=>
  intro listed a w _ _ q hy T H;refine⟨λh=>(by rw[h]at q;cases q),λj r=>?_⟩;by_cases f:j=i
  ·grind
  ·have:=ready_mono r f;rw[H.1]at this;cases this
 |succ fuel V=>
  intro listed a w J L q hy T H;refine⟨λh=>(by rw[h]at q;cases q),λj r=>?_⟩;by_cases f:j=i
  ·grind
  ·have d:=H.2 j (ready_mono r f);obtain⟨t,g,m,M⟩:=mem_ready.1 r;have s:=(mem_ready.1 q).1;obtain⟨A,E⟩:=L j g m f t (J.nowait r s);obtain⟨W,X,Y⟩:=Oper.apart_spec A;obtain⟨Z,q2⟩:=tv (P:=P) (ρ:=a.eval) E;unfold wpOp at d⊢;simp only[m]at d⊢;have I:∀y,Region.wanted g y=true:=λy=>by simp[Region.wanted,N j g m]
   rw[Ym (I _)]at d⊢;rcases d with d|⟨_,d⟩
   case inr=>exact absurd d R
   left;unfold Oper.wp at d⊢;rw[execOp_put g (λcs b=>p j g cs b m) a l.dst v W]at d;cases e:(execOp a.eval g).run P w with
   |halt x w'=>
    rw[e]at d;cases x<;>simp only[Oper.upon]at d;grind
   |ok n w'=>
    have G:=Z _ _ _ e;obtain⟨u,rfl⟩:=q2 _ _ _ e;rw[e]at d;simp only[Oper.upon]at d⊢;refine⟨d.1,V (listed.setIfInBounds j true) (a.put g.dst u) w' (J.ready r) (λk ok U C z D=>?_) (ready_mono q (Ne.symm f)) ?_ d.1 ?_⟩
    ·refine L k ok U C ?_ D;by_cases B:j=k
     ·grind
     ·rw[getD_set_ne true B]at z;exact z
    ·rw[execOp_put l (λcs b=>p i l cs b hi) a g.dst u Y];exact Zv6 F _ _ _ _ hy G
    ·rw[iQ _ _ f,<-Act.put_comm a v u X];exact d.2
theorem Zus{β:Nat->Nat}{F:Nat->Prop}{w0:World}(hS0:∀b w,F b->S w->w.heap[b]?=w0.heap[b]?)(hC:∀b,F b->EZ w0 b)(hsel:∀(j:Nat) (o:Oper) cs b,L.toArray[j]?=some o->o.op≠.select cs b)(hQ:∀c a w,¬Q (.panic c) a w)(hO:¬LetsOut Q):
  ∀(π:Pl) (env:List (Nat×Nat)) (listed:List Nat) (g:Array Bool) (a:Act) (w:World),g.size=L.length->(∀j,j<L.length->(g.getD j true=true↔j∈listed))->(∀x∈listed,x<L.length)->DC L.toArray g->GS P L env listed π=true->(∀p∈env,F (β p.2))->JF β env a->S w->
   El P L Q S π a w->(MT π=true->wpAnyH P .any L.toArray Q S π.len g a w)/\
    ∀k∈Tb π,wpOp P L.toArray Q k (λl w'=>S w'/\wpAnyH P .any L.toArray Q S (π.len-1) (g.setIfInBounds k true) l w') a w:=by
 have un:∀(g:Array Bool) (listed:List Nat) (i:Nat),(∀j,j<L.length->(g.getD j true=true↔j∈listed))->i<L.length->listed.any (Nat.beq i)=false->g.getD i true=false:=λg listed i hl Y c1=>by
  cases hb:g.getD i true with
  |false=>rfl
  |true=>have:=GC.2 ((hl i Y).1 hb);rw[c1]at this;cases this
 have next:∀(g:Array Bool) (listed:List Nat) (i:Nat),g.size=L.length->(∀j,j<L.length->(g.getD j true=true↔j∈listed))->∀j,j<L.length->((g.setIfInBounds i true).getD j true=true↔j∈i::listed):=λg listed i hs hl j hj=>by
  by_cases D:i=j
  ·subst D;simp only[Yy,true_or,iff_true];simp[hs,hj]
  ·rw[getD_set_ne true D,hl j hj,Yy];exact⟨.inr,λh=>h.resolve_left (Ne.symm D)⟩
 have rdy:∀(g:Array Bool) (listed:List Nat) (i:Nat) (f:Oper),g.size=L.length->(∀j,j<L.length->(g.getD j true=true↔j∈listed))->(∀x∈listed,x<L.length)->L[i]?=some f->listed.any (Nat.beq i)=false->
   f.after.toList.all (λe=>!Region.binds .any e||listed.any (Nat.beq e.on))=true->i∈Region.ready .any L.toArray g:=λg listed i f hs hl B hi c1 c2=>
  mem_ready.2 ⟨un g listed i hl (Yc.1 hi).1 c1,f,by simpa using hi,λe he hb=>by have V:=Yu.1 c2 e (by simpa using he);rw[hb]at V;simp only[YN,Gq]at V;have hm:=GC.1 V;have X:=B _ hm;have A:=(hl _ X).2 hm;simp only[Yz]at A⊢;rw[Yv ae]at A⊢;simpa using A⟩
 have envF:∀(env:List (Nat×Nat)) (o:Oper),(∀p∈env,F (β p.2))->∀p∈Dp P env o,F (β p.2):=λenv o hF p hp=>by
  unfold Dp at hp;split at hp
  ·exact hF p hp
  ·rcases Hg.1 hp with hp|hp
   ·split at hp
    ·split at hp
     ·rename_i r R;have e:=Hb.1 hp;rw[e];have:=hF _ (Lw R);exact this
     ·cases hp
    ·cases hp
   ·exact hF p (Hf.1 hp).1
 have m:∀(env:List (Nat×Nat)) (o:Oper) (a l:Act) (w:World) (N:Act->World->Prop),Cy P L.toArray Q o a w N->On P o=true->JF β env a->KZ o a l->(o.guard=none->∀v w1,(execOp a.eval o).run P w=.ok (.value v) w1->l=a.put o.dst v)->JF β (Dp P env o) l:=λenv o a l w N hw hgk M V X=>by
  refine M.put (P:=P) (w:=w) V λz hz=>?_;have E:o.guard=none:=by unfold On at hgk;rw[hz]at hgk;exact UD (by simpa using hgk)
  have hw:=hw.un E;have X:=X E;have hv:DH P o=true:=by unfold J5 at hz;cases hv:DH P o with|true=>rfl|false=>rw[hv]at hz;cases hz
  obtain⟨v1,v2⟩:=UN (P:=P) (ρ:=a.eval) hv;unfold Oper.wp at hw;cases d:(execOp a.eval o).run P w with
  |halt x w'=>
   rw[d]at hw;cases x<;>simp only[Oper.upon]at hw;exact absurd hw (hQ _ _ _)
  |ok n w'=>
   obtain⟨u,rfl⟩:=v2 _ _ _ d;exact⟨u,w',rfl,X u w' d⟩
 intro π
 induction π with
 |nil=>
  intro env listed g a w hs hl B hD G hF M hS h;unfold GS at G;rw[Yu]at G;refine⟨λ_=>⟨?_,h⟩,λk K=>by cases K⟩;cases R:Region.ready .any L.toArray g with
  |nil=>rfl
  |cons x xs=>
   have hx:x∈Region.ready .any L.toArray g:=(by rw[R];exact YJ ..);obtain⟨h0,o,ho,_⟩:=mem_ready.1 hx;have B:x<L.length:=(by have:=(Y3.1 ho).1;simpa using this);have:=(hl x B).2 (GC.1 (G x (R1.2 B)));rw[h0]at this;cases this
 |two i j x y ihx ihy=>
  intro env listed g a w hs hl B hD G hF M hS h;unfold GS at G;unfold El at h;cases hi:L[i]? with
  |none=>rw[Cp,hi]at G;simp at G
  |some f=>
   cases hj:L[j]? with
   |none=>rw[Cp,Cp,hi,hj]at G;simp at G
   |some U=>
    rw[Cp,Cp,hi,hj]at G h;dsimp only at h;simp only[Yb,YO]at G;obtain⟨⟨⟨⟨⟨⟨⟨⟨⟨c0,c1⟩,c2⟩,c5⟩,W,cgj⟩,c6⟩,c7⟩,c8⟩,cx⟩,cy⟩:=G;refine⟨λ_=>?_,λk K=>by cases K⟩;have Y:i<L.length:=(Yc.1 hi).1;have hjL:j<L.length:=(Yc.1 hj).1;obtain⟨V,X⟩:=h;have lt':∀k,k<L.length->∀z∈k::listed,z<L.length:=λk K z hz=>by
     rcases Yy.1 hz with rfl|hz
     ·exact K
     ·exact B z hz
    show wpAnyH P .any L.toArray Q S (x.len+1) g a w;have hready:∀k∈Region.ready .any L.toArray g,k=i\/k=j:=λk K=>by
     obtain⟨k0,ok,Z,s⟩:=mem_ready.1 K;have hkl:k<L.length:=(by have:=(Y3.1 Z).1;simpa using this);have:=tZ (k:=k) c5 (by simpa using Z);rw[YX]at this;rcases this with A|A|A|⟨e,he,hb,J⟩
     ·have:=(hl k hkl).2 A;rw[k0]at this;cases this
     ·exact .inl A
     ·exact .inr A
     ·have T:=s e he hb;have h5:e.on<L.length:=by
       rcases YL e.on g.size with h|h
       ·omega
       ·simp[FI h,Yz]at T
      refine absurd ((hl e.on h5).1 ?_) J;simp only[Yz]at T⊢;rw[Yv ae]at T⊢;simpa using T
    have R:=rdy g listed i f hs hl B hi c1 c0;refine⟨λh0=>(by rw[h0]at R;cases R),λk K=>?_⟩;rcases hready k K with rfl|rfl
    ·have hkA:L.toArray[k]?=some f:=(by simpa using hi);exact(V.put.mono λl w' q=>⟨q.1.1,(ihx (Dp P env f) (k::listed) _ l w' (by simp[hs]) (next g listed k hs hl) (lt' k Y) (hD.ready K) c7 (envF env f hF) (m env f a l w _ V W M q.2.1 q.2.2) q.1.1 q.1.2).1 cx⟩).op hkA
    ·have hkA:L.toArray[k]?=some U:=(by simpa using hj);rw[Ye c6];exact(X.put.mono λl w' q=>⟨q.1.1,(ihy (Dp P env U) (k::listed) _ l w' (by simp[hs]) (next g listed k hs hl) (lt' k hjL) (hD.ready K) c8 (envF env U hF) (m env U a l w _ X cgj M q.2.1 q.2.2) q.1.1 q.1.2).1 cy⟩).op hkA
 |opt hh0 i x y ihx ihy=>
  intro env listed g a w hs hl B hD G hF M hS h;unfold GS at G;unfold El at h;cases hi:L[i]? with
  |none=>rw[Cp,hi]at G;simp at G
  |some f=>
   rw[Cp,hi]at G h;dsimp only at h;simp only[Yb,YO,YB]at G;obtain⟨⟨⟨⟨⟨⟨c0,c1⟩,c5⟩,W⟩,c7⟩,cx⟩,cy⟩:=G;have Y:i<L.length:=(Yc.1 hi).1;obtain⟨V,X⟩:=h;have lt':∀k,k<L.length->∀z∈k::listed,z<L.length:=λk K z hz=>by
    rcases Yy.1 hz with rfl|hz
    ·exact K
    ·exact B z hz
   have R:=rdy g listed i f hs hl B hi c1 c0;have hB:∀k∈Tb (.opt hh0 i x y),wpOp P L.toArray Q k (λl w'=>S w'/\wpAnyH P .any L.toArray Q S x.len (g.setIfInBounds k true) l w') a w:=λk K=>by
    rcases Yy.1 K with rfl|K
    ·have hkA:L.toArray[k]?=some f:=(by simpa using hi);exact(V.put.mono λl w' q=>⟨q.1.1,(ihx (Dp P env f) (k::listed) _ l w' (by simp[hs]) (next g listed k hs hl) (lt' k Y) (hD.ready R) c7 (envF env f hF) (m env f a l w _ V W M q.2.1 q.2.2) q.1.1 q.1.2).1 cx⟩).op hkA
    ·have hy:V4 y=true:=(by cases y with|opt _ _ _ _=>rfl|_=>cases K);rcases cy with cy|⟨cy,cz⟩
     ·rw[hy]at cy;cases cy
     ·have:=(ihy env listed g a w hs hl B hD cz hF M hS (X hy)).2 k K;rw[Ye cy,Nat.add_sub_cancel]at this;exact this
   refine⟨λhcov=>?_,hB⟩;show wpAnyH P .any L.toArray Q S (x.len+1) g a w;refine⟨λh0=>(by rw[h0]at R;cases R),λk K=>hB k ?_⟩;obtain⟨k0,ok,Z,s⟩:=mem_ready.1 K;have hkl:k<L.length:=(by have:=(Y3.1 Z).1;simpa using this);have:=ew (k:=k) c5 (by simpa using Z);rw[YX]at this;rcases this with A|A|⟨e,he,hb,J⟩
   ·have:=(hl k hkl).2 A;rw[k0]at this;cases this
   ·exact GC.1 (Yu.1 hcov k A)
   ·have T:=s e he hb;have h5:e.on<L.length:=by
     rcases YL e.on g.size with h|h
     ·omega
     ·simp[FI h,Yz]at T
    refine absurd ((hl e.on h5).1 ?_) J;simp only[Yz]at T⊢;rw[Yv ae]at T⊢;simpa using T
 |fst i rest ih=>
  intro env listed g a w hs hl B hD G hF M hS h;unfold GS at G;unfold El at h;cases hi:L[i]? with
  |none=>rw[Cp,hi]at G;simp at G
  |some f=>
   rw[Cp,hi]at G h;dsimp only at h;simp only[Yb,YO]at G;obtain⟨⟨⟨⟨⟨c1,c2⟩,c3⟩,W⟩,c4⟩,c9⟩:=G;refine⟨λ_=>?_,λk K=>by cases K⟩;have Y:i<L.length:=(Yc.1 hi).1;have hiA:L.toArray[i]?=some f:=(by simpa using hi);have hun:=un g listed i hl Y c1;have R:=rdy g listed i f hs hl B hi c1 c2;have hlt':∀x∈i::listed,x<L.length:=λx hx=>by
    rcases Yy.1 hx with rfl|hx
    ·exact Y
    ·exact B x hx
   have ih:∀l w',S w'->JF β (Dp P env f) l->El P L Q S rest l w'->wpAnyH P .any L.toArray Q S rest.len (g.setIfInBounds i true) l w':=λl w' hS' hJ' h=>
    (ih (Dp P env f) (i::listed) _ l w' (by simp[hs]) (next g listed i hs hl) hlt' (hD.ready R) c4 (envF env f hF) hJ' hS' h).1 c9
   have hli:∀j,j<L.length->g.getD j true=false->j∉listed:=λj hj hun hm=>by have:=(hl j hj).2 hm;rw[hun]at this;cases this
   have free:Rh.chkV P L listed i f 0 L=true->∀j U,L.toArray[j]?=some U->j≠i->g.getD j true=false->(∀e∈U.after,Region.binds .any e=true->e.on≠i)->f.apart L.toArray U=true:=λc3 j U O D H J=>by
    have hjl:j<L.length:=(by have:=(Y3.1 O).1;simpa using this);have:=tJ (k:=j) c3 (by simpa using O);rw[YX]at this;rcases this with A|A|⟨e,he,hb,he2⟩|A
    ·exact absurd A (hli j hjl H)
    ·exact absurd A D
    ·exact absurd he2 (J e he hb)
    ·exact A
   show wpAnyH P .any L.toArray Q S (rest.len+1) g a w;by_cases hv:(FE f&&DH P f)=true
   ·rw[Yb]at hv;obtain⟨I,hv⟩:=hv;have E:=UD I;rw[I,hv]at c3;simp only[Ha,H1]at c3;have h:=h.un E;have m:∀(env:List (Nat×Nat)) (o:Oper) (a l:Act) (w:World) (N:Act->World->Prop),o=f->o.wp P a w N Q->JF β env a->KZ o a l->(∀v w1,(execOp a.eval o).run P w=.ok (.value v) w1->l=a.put o.dst v)->JF β (Dp P env o) l:=λenv o a l w N he hw M V X=>by subst he;exact m env o a l w N (by unfold Cy;rw[Ym (by simp[Region.wanted,E])];exact hw) W M V λ_=>X
    obtain⟨v1,v2⟩:=UN (P:=P) (ρ:=a.eval) hv;have h0:=h;unfold Oper.wp at h;cases d:(execOp a.eval f).run P w with
    |halt x w'=>
     rw[d]at h;cases x<;>simp only[Oper.upon]at h;exact absurd h (hQ _ _ _)
    |ok n w'=>
     obtain⟨rfl,v3⟩:=v1 _ _ _ d;obtain⟨u,rfl⟩:=v2 _ _ _ d;rw[d]at h;simp only[Oper.upon]at h;exact wpAnyH_first hiA hsel (λc a w hq=>absurd hq (hQ _ _ _)) rest.len g a w' (free c3) R (.inl ⟨by simp[Region.wanted,E],λw2 _=>v3 w2⟩) hS (ih _ _ h.1 (m env f a _ w' _ rfl h0 M ⟨u,λ_=>rfl⟩ λv w1 e=>by rw[d]at e;cases e;rfl) h.2)
   ·by_cases q:(FE f&&Rf env f)=true
    ·rw[Yb]at q;obtain⟨I,q⟩:=q;have E:=UD I;rw[I,q]at c3;simp only[OP,H1]at c3;rw[I,Y4]at hv;have hv':DH P f=false:=(by cases hq:DH P f with|false=>rfl|true=>exact absurd hq hv);have h:=h.un E;have m:∀(env:List (Nat×Nat)) (o:Oper) (a l:Act) (w:World) (N:Act->World->Prop),o=f->o.wp P a w N Q->JF β env a->KZ o a l->(∀v w1,(execOp a.eval o).run P w=.ok (.value v) w1->l=a.put o.dst v)->JF β (Dp P env o) l:=λenv o a l w N he hw M V X=>by subst he;exact m env o a l w N (by unfold Cy;rw[Ym (by simp[Region.wanted,E])];exact hw) W M V λ_=>X
     obtain⟨t,x,y,r,ho,hy,he⟩:∃t x y r,f.op=.load t x/\LX x=some y/\J9 y env=some r:=by
      unfold Rf at q;split at q
      ·rename_i t x ho;split at q
       ·rename_i y hy;obtain⟨r,R⟩:=FH.1 q;exact⟨t,x,y,r,ho,hy,R⟩
       ·cases q
      ·cases q
     have hrd:Dy P f=true:=(by unfold Dy;rw[hv',ho];rfl);obtain⟨v1,v2⟩:=Qi (P:=P) (ρ:=a.eval) hrd;have h0:=h;unfold Oper.wp at h;cases d:(execOp a.eval f).run P w with
     |halt x w'=>
      rw[d]at h;cases x<;>simp only[Oper.upon]at h;exact absurd h (hQ _ _ _)
     |ok n w'=>
      have e:=v1 _ _ _ d;subst e;obtain⟨u,rfl⟩:=v2 _ _ _ d;rw[d]at h;simp only[Oper.upon]at h;have hyl:YieldsIf P L.toArray S f u a:=.inl ⟨by simp[Region.wanted,E],λw2 hS2=>by obtain⟨b,hb,hlo⟩:=zo (w2:=w2) ho d;have hb':b=β r:=M _ (Lw he) b (by rw[<-Ut hy];exact hb);have hFb:F b:=(by rw[hb'];exact hF _ (Lw he));have e1:=hS0 b w' hFb hS;have e2:=hS0 b w2 hFb hS2;obtain⟨C,q1,q2,q3⟩:=hC b hFb;exact hlo ⟨C,q1,q2,by rw[e1];exact q3⟩ (by rw[e1,e2])⟩;exact wpAnyH_first hiA hsel (λc a w hq=>absurd hq (hQ _ _ _)) rest.len g a w' (free c3) R hyl hS (ih _ _ h.1 (m env f a _ w' _ rfl h0 M ⟨u,λ_=>rfl⟩ λv w1 e=>by rw[d]at e;cases e;rfl) h.2)
    ·have hq0:(FE f&&(DH P f||Rf env f))=false:=(by cases V:FE f<;>cases X:DH P f<;>cases A:Rf env f<;>simp_all);rw[hq0]at c3;dsimp only at c3;by_cases s:L.all FE=true
     case neg=>
      have s:L.all FE=false:=(by cases hq:L.all FE with|false=>rfl|true=>exact absurd hq s);rw[s]at c3;dsimp only at c3;refine⟨λh0=>(by rw[h0]at R;cases R),λk K=>?_⟩;have hki:k=i:=by
       obtain⟨k0,ok,Z,s⟩:=mem_ready.1 K;have hkl:k<L.length:=(by have:=(Y3.1 Z).1;simpa using this);have:=ew (k:=k) c3 (by simpa using Z);rw[YX]at this;rcases this with A|A|⟨e,he,hb,J⟩
       ·have:=(hl k hkl).2 A;rw[k0]at this;cases this
       ·exact Hb.1 A
       ·have T:=s e he hb;have h5:e.on<L.length:=by
         rcases YL e.on g.size with h|h
         ·omega
         ·simp[FI h,Yz]at T
        refine absurd ((hl e.on h5).1 ?_) J;simp only[Yz]at T⊢;rw[Yv ae]at T⊢;simpa using T
      subst hki;exact(h.put.mono λl w' q=>⟨q.1.1,ih l w' q.1.1 (m env f a l w _ h W M q.2.1 q.2.2) q.1.2⟩).op hiA
     rw[s]at c3;dsimp only at c3;have hu:∀(j:Nat) (o:Oper),L.toArray[j]?=some o->o.guard=none:=λj o ho=>UD (Yu.1 s o (Yh (by simpa using ho)));have E:=hu i f hiA;have I:FE f=true:=Yu.1 s f (Yh hi);rw[I,Y4]at hv;have h:=h.un E;have h':=vA h;have m:∀(env:List (Nat×Nat)) (o:Oper) (a l:Act) (w:World) (N:Act->World->Prop),o=f->o.wp P a w N Q->JF β env a->KZ o a l->(∀v w1,(execOp a.eval o).run P w=.ok (.value v) w1->l=a.put o.dst v)->JF β (Dp P env o) l:=λenv o a l w N he hw M V X=>by subst he;exact m env o a l w N (by unfold Cy;rw[Ym (by simp[Region.wanted,E])];exact hw) W M V λ_=>X
     have at_:∀j U,L.toArray[j]?=some U->j≠i->g.getD j true=false->¬Waits L.toArray j i->f.apart L.toArray U=true/\Dy P f=true/\(Dy P U||Ks U)=true:=λj U O D H J=>by
      have hjl:j<L.length:=(by have:=(Y3.1 O).1;simpa using this);have:=sZ (k:=j) c3 (by simpa using O);rw[YX]at this;rcases this with A|A|A|⟨A,T⟩
      ·exact absurd A (hli j hjl H)
      ·exact absurd A D
      ·exact absurd A J
      ·rcases T with T|T
       ·exact absurd T hv
       ·exact⟨A,T⟩
     by_cases hrd:Dy P f=true
     ·obtain⟨v1,v2⟩:=Qi (P:=P) (ρ:=a.eval) hrd;have h0:=h;unfold Oper.wp at h;cases d:(execOp a.eval f).run P w with
      |halt x w'=>
       rw[d]at h;cases x<;>simp only[Oper.upon]at h;exact absurd h (hQ _ _ _)
      |ok n w'=>
       have e:=v1 _ _ _ d;subst e;obtain⟨u,rfl⟩:=v2 _ _ _ d;rw[d]at h;simp only[Oper.upon]at h;exact ZnL hiA hrd hu hsel hQ hO rest.len g a w' hD (λj U O D H J=>⟨(at_ j U O D H J).1,(at_ j U O D H J).2.2⟩) R d hS (ih _ _ h.1 (m env f a _ w' _ rfl h0 M ⟨u,λ_=>rfl⟩ λv w1 e=>by rw[d]at e;cases e;rfl) h.2)
     ·refine⟨λh0=>(by rw[h0]at R;cases R),λj hj=>?_⟩;have D:j=i:=(by apply OM;intro D;obtain⟨H,U,O,_⟩:=mem_ready.1 hj;exact hrd (at_ j U O D H (hD.nowait hj hun)).2.1);subst D;unfold wpOp;simp only[hiA];rw[Ym (by simp[Region.wanted,hu j f hiA])];exact .inl (Oper.wp_mono (λl w' q=>⟨q.1.1,ih l w' q.1.1 (m env f a l w _ rfl h M q.2.1 q.2.2) q.1.2⟩) h')
end
def Jj(r:Ren):List (Ad×Blk)->Prop
 |[]=>True
 |(k,_)::t=>match Nat.beq k.1 1 with|true=>Jj r t|false=>Mj r k/\Jj r t
def Sy:List (Ad×Blk)->Hp->Hp
 |[],H=>H
 |(k,b)::t,H=>Sy t (updH H k b)
def wD(P:Program)(l n os:Nat)(r:Ren)(c:Option Nat)(d:AV)(xs:List AV)(a:AT)(K:St->AT->Prop)(τ:St):Prop:=
 match d,a with
 |.fn (.func f) [] [],.hard x ks Av [] b=>(match ks.all (BH os),DT os Av with
  |true,true=>IL P l r f xs (ks.map λk=>(k,τ.H k)) x Av []/\Jj r Av/\SM n K τ.s (Sy Av τ.H) x b c
  |_,_=>False)
 |_,_=>False
def ZIB:AT->Bool
 |.hard _ _ _ _ _=>true
 |_=>false
def a6(P:Program)(T:Nat->Option TI)(l n os:Nat)(r:Ren)(o:Oper)(a:AT)(K:St->AT->Prop)(τ:St):Prop:=
 match ZIB a,o.op with
 |true,.call c=>(match c.callee with
  |.value b=>wD P l n os r o.dst (ev τ.s b) (c.args.toList.map (ev τ.s)) a K τ
  |_=>False)
 |_,_=>IU P T l n r o a K τ
section
variable {P:Program} {T:Nat->Option TI} {r:Ren} {l n outs:Nat} {B:Base} {env:BI} {τ σ:St} {a:AT} {o:Oper} {K:St->AT->Prop}
theorem r6(f:RenOk r l outs):∀(Av:List (Ad×Blk)) {τ σ:St},DT outs Av=true->Jj r Av->RG r l outs env τ σ->RG r l outs env ⟨τ.s,Sy Av τ.H⟩ ⟨σ.s,Dq r Av σ.H⟩
 |[],τ,σ,_,_,h=>h
 |(k,b)::t,τ,σ,e,a,h=>by
  simp only[DT,Yb]at e;obtain⟨⟨⟨i,j⟩,n⟩,m⟩:=e;have d:K7 r outs k/\Jj r t:=by
   unfold Jj at a;rcases GG i with c|⟨c,g⟩
   ·rw[c]at a;exact⟨.inl c,a⟩
   ·rw[c]at a;exact⟨.inr ⟨c,g,a.1.2⟩,a.2⟩
  exact r6 f t (τ:=⟨τ.s,updH τ.H k b⟩) (σ:=⟨σ.s,updH σ.H (r.κ k) (AJ r k b)⟩) m d.2 (RG.updH f h k b j d.1)
theorem Zyu(E:RenOk r l outs)(N:Ba P T)(h:RG r l outs env τ σ)(t:Cr env [] o.op=true)(G:Ir env o.dst=true)(d:a6 P T l n outs r o a K τ):CG P l n B o (KA r l n outs B (Fm env o.dst) K) σ:=by
 unfold a6 at d;split at d
 case h_2=>exact sA E N h t G d
 rename_i c S H;split at d
 case h_2=>exact d.elim
 rename_i s e;unfold wD at d;split at d
 case h_2=>exact d.elim
 rename_i f x ks Av b C;split at d
 case h_2=>exact d.elim
 rename_i D j;obtain⟨L,z,M⟩:=d;have ops:∀x∈o.op.operands,ev σ.s x=ren r (ev τ.s x):=by
  unfold Cr at t;split at t
  ·grind
  ·exact GF h A8 t
 rw[H]at ops;have g:∀x,x=s\/x∈c.args.toList->x∈(Op.call c).operands:=λx hx=>by simp only[Op.operands,Call.operands,e];grind
 have A:ev σ.s s=.fn (.func f) [] []:=by rw[ops s (g s (.inl rfl)),C];simp[ren,Ao]
 have F:=L σ.H (λp d=>by
  obtain⟨q,O,rfl⟩:=YV.1 d;have m:=GG (Yu.1 D q O);refine⟨?_,λhl=>h.h q hl⟩;obtain⟨U,I⟩:=q;simp only at m;rcases m with rfl|⟨rfl,z⟩
  ·have:=h.g I;rw[<-E.own]at this;exact this
  ·exact h.go I z) h.o
 have i:Ao r (c.args.toList.map (ev τ.s))=c.args.toList.map (ev σ.s):=by rw[FS,Jv];exact Fa λy hy=>(ops y (g y (.inr hy))).symm
 refine Lu ?_;unfold BA;rw[H];simp only[e,A,He,KP];rw[i]at F;refine F.mono λy u ⟨R,J,v,w⟩=>?_;have Q:R=r.γ:=funext λk=>J k (by simp);subst Q;have v:y=ren r x:=v;have w:u=Dq r Av σ.H:=w;subst w;exact ua (τ':=⟨τ.s,Sy Av τ.H⟩) G (r6 E Av j z h) v M
end
def LS(P:Program)(T:Nat->Option TI)(l n os:Nat)(r:Ren)(ds:List (Option Nat))(o:Oper)(env:BI)(a:AT)(K:St->BI->AT->Prop)(τ:St):Prop:=
 match o.guard with
 |none=>(match Cr env [] o.op,Ir env o.dst with
  |true,true=>a6 P T l n os r o a (λτ' c=>K τ' (Fm env o.dst) c) τ
  |_,_=>False)
 |some (i,b)=>(match Bl ds i,o.dst with
  |some (some d),some e=>(match GI τ.s ((d,b)::lk env d),Cr env ((d,b)::lk env d) o.op,fresh e env&&L0 e ((d,b)::lk env d),Nat.ble (e+1) n with
   |some g,true,true,true=>pV P T l r τ o.op (some g) a (λv c=>K ⟨upd τ.s e v,τ.H⟩ ((e,(d,b)::lk env d)::env) c)
   |_,_,_,_=>False)
  |_,_=>False)
def G6(P:Program)(T:Nat->Option TI)(l n os:Nat)(r:Ren)(L:List Oper):Pl->BI->AT->(St->BI->AT->Prop)->St->Prop
 |.nil,env,a,K,τ=>K τ env a
 |.fst i x,env,a,K,τ=>match Bl L i with
  |some o=>LS P T l n os r (L.map (·.dst)) o env a (λτ' b c=>G6 P T l n os r L x b c K τ') τ
  |none=>False
 |.two i j x y,env,a,K,τ=>match Bl L i,Bl L j,a with
  |some o,some e,.br a1 d=>LS P T l n os r (L.map (·.dst)) o env a1 (λτ' b c=>G6 P T l n os r L x b c K τ') τ/\LS P T l n os r (L.map (·.dst)) e env d (λτ' b c=>G6 P T l n os r L y b c K τ') τ
  |_,_,_=>False
 |.opt _ i x y,env,a,K,τ=>match Bl L i with
  |some o=>(match V4 y with
   |true=>(match a with
    |.br a1 d=>LS P T l n os r (L.map (·.dst)) o env a1 (λτ' b c=>G6 P T l n os r L x b c K τ') τ/\G6 P T l n os r L y env d K τ
    |_=>False)
   |false=>LS P T l n os r (L.map (·.dst)) o env a (λτ' b c=>G6 P T l n os r L x b c K τ') τ)
  |none=>False
section
variable {P:Program} {T:Nat->Option TI} {r:Ren} {l n outs:Nat} {B:Base}
theorem P0(Z:RenOk r l outs)(G:Ba P T){L:List Oper}{K:St->BI->AT->Prop}{QQ:Exit->Act->World->Prop}{o:Oper}{env:BI}{a:AT}{τ σ:St}{act:Act}{w:World}(h:LS P T l n outs r (L.map (·.dst)) o env a K τ)(t:RG r l outs env τ σ)(x:R l n B σ act w):
  Cy P L.toArray QQ o act w (λc w'=>∃τ' k j A,K τ' k j/\RG r l outs k τ' A/\R l n B A c w'):=by
 unfold LS at h;unfold Cy;split at h
 ·rename_i z;rw[Ym (by simp[Region.wanted,z])];split at h
  case h_2=>exact h.elim
  rename_i U Y;refine Oper.wp_mono (λc w' E=>?_) (Zyu (B:=B) Z G t U Y h act w x QQ);obtain⟨A,⟨F,⟨τ',j,q,C⟩,M⟩,N⟩:=E;exact⟨τ',_,j,F,q,C,M _ _ N⟩
 ·rename_i i b z;split at h
  case h_2=>exact h.elim
  rename_i d e V he;split at h
  case h_2=>exact h.elim
  rename_i g p hx f u;simp only[Yb]at f;have u:=Yj u;have D:=dI t V p;have hy:(yielded L.toArray act.tmps i==some b)=g:=by obtain⟨s,H⟩:=σ;obtain⟨m,S,hO,I,W,Q,X⟩:=x.un;exact dQ Q (by simpa using D)
  cases g with
  |true=>
   have hs:=(JV p).1 rfl;rw[Ym (by simp only[Region.wanted,z];exact hy)];have O:CG P l n B o (Yl r e (λv j=>K ⟨upd τ.s e v,τ.H⟩ ((e,(d,b)::lk env d)::env) j) σ) σ:=Lu (by obtain⟨J,op,ty,ps,af,gd⟩:=o;simp only at he;subst he;exact fA G t hs (λb' e'=>by cases e';rfl) hx ae h);refine Oper.wp_mono (λc w' E=>?_) (O act w x QQ);obtain⟨A,⟨v,j,rfl,q⟩,C⟩:=E;exact⟨_,_,j,_,q,t.put f.1 f.2 (λ_=>rfl) (λI=>absurd hs I),C⟩
  |false=>
   have hs:¬C7 τ.s ((d,b)::lk env d):=λhs=>by have:=(JV p).2 hs;cases this
   obtain⟨v,j,q⟩:=Wv h;rw[Yk (by simp only[Region.wanted,z,hy];decide),he];exact⟨_,_,j,_,q,t.put f.1 f.2 (y:=.tup []) (λh=>absurd h hs) (λ_=>rfl),R.undef x ae⟩
theorem Zrl(A:RenOk r l outs)(v:Ba P T){L:List Oper}{K:St->BI->AT->Prop}{QQ:Exit->Act->World->Prop}{S:World->Prop}(u:∀σ a w,R l n B σ a w->S w)
  (E:∀τ' c t s b w',K τ' c t->RG r l outs c τ' s->R l n B s b w'->QQ .normal b w'):
  ∀(π:Pl) (env:BI) (a:AT) (τ σ:St) (e:Act) (w:World),G6 P T l n outs r L π env a K τ->RG r l outs env τ σ->R l n B σ e w->El P L QQ S π e w:=by
 intro π
 induction π with
 |nil=>intro env a τ σ e w h f g;exact E _ _ _ _ _ _ h f g
 |fst i x F=>
  intro env a τ σ e w h f g;unfold G6 at h;split at h
  ·rename_i o z;unfold El;rw[z];exact(P0 A v h f g).mono λb w' ⟨τ',c,t,s,k,m,d⟩=>⟨u _ _ _ d,F _ _ _ _ _ _ k m d⟩
  ·exact h.elim
 |two i j x y p q=>
  intro env a τ σ e w h f g;unfold G6 at h;split at h
  ·rename_i o H a1 G z C;unfold El;rw[z,C];exact⟨(P0 A v h.1 f g).mono λb w' ⟨τ',c,t,s,k,m,d⟩=>⟨u _ _ _ d,p _ _ _ _ _ _ k m d⟩,(P0 A v h.2 f g).mono λb w' ⟨τ',c,t,s,k,m,d⟩=>⟨u _ _ _ d,q _ _ _ _ _ _ k m d⟩⟩
  ·exact h.elim
 |opt hs i x y p q=>
  intro env a τ σ e w h f g;unfold G6 at h;split at h
  ·rename_i o z;unfold El;rw[z];split at h
   ·split at h
    ·exact⟨(P0 A v h.1 f g).mono λb w' ⟨τ',c,t,s,k,m,d⟩=>⟨u _ _ _ d,p _ _ _ _ _ _ k m d⟩,λ_=>q _ _ _ _ _ _ h.2 f g⟩
    ·exact h.elim
   ·rename_i hy;exact⟨(P0 A v h f g).mono λb w' ⟨τ',c,t,s,k,m,d⟩=>⟨u _ _ _ d,p _ _ _ _ _ _ k m d⟩,λD=>by rw[hy]at D;cases D⟩
  ·exact h.elim
end
def zB(s:Nat->AV):List Nat->Bool
 |[]=>true
 |z::r=>(match s z with|.iptr (_::_) _=>true|_=>false)&&zB s r
theorem nQ{s:Nat->AV}:∀{Z:List Nat},zB s Z=true->∀z∈Z,∃x ds off,s z=.iptr (x::ds) off
 |[],_,z,a=>by cases a
 |y::r,h,z,a=>by
  simp only[zB,Yb]at h;rcases Yy.1 a with rfl|a
  ·grind
  ·exact nQ h.2 z a
def gY(o:Oper):Bool:=match o.op with
 |.select _ _=>false
 |_=>true
def lI(P:Program)(π:Pl)(Z:List Nat):Code->Bool
 |.region _ ops true=>ops.toList.all gY&&Nat.beq π.len ops.toList.length&&GS P ops.toList (Z.map λz=>(z,z)) [] π&&MT π
 |_=>false
section
variable {P:Program} {T:Nat->Option TI} {n:Nat} {C:Cx} {τ:St} {Q:Exit->St->Prop} {os:Nat} {c:Code} {β:Type} {L:β->Prop} {y:β}
theorem D7{fx:List Nat}(co:COx C os fx)(hT:Ba P T)(hm':P.follows .mixedOrders=true)(π:Pl)(Z:List Nat)(v:PT os β)(lf:Lf)(hv:v.m=some y)(hL:HL L y)(hn:∀r (g:Gd C r),v.n ⟨⟨C.l,r,Q,λ_ _=>False⟩,L,C,_,co,g,rfl⟩)
  (hq:∀l r Q A,A9 r os v.a τ (λτ a=>match zB τ.s Z with|true=>G6 P T l n os r (B6 c).toList π [] a (λτ' env f=>A9 r os f (DS env τ') (λτ _=>Ei fx lf τ (Q .normal))) τ|false=>False)=v.q ⟨l,r,Q,A⟩:=by intro l r Q P;kernel_rfl)
  (W:lI P π Z c=true:=by kernel_rfl):LW P n C c τ Q:=by
 cases c with
 |region id ops dr=>
  cases dr with
  |false=>cases W
  |true=>
   obtain⟨t,rfl⟩:∃l:List Oper,ops=l.toArray:=⟨ops.toList,by simp⟩;simp only[lI,Yb]at W;obtain⟨⟨⟨k1,k2⟩,k3⟩,k4⟩:=W;intro γ σ hg hG a w hR;have hR':R C.l n C.B σ a {w with drawn:=w.drawn+1 }:=(by obtain⟨s,H⟩:=σ;obtain⟨m,S,hO,hn,hdf,hS,hex⟩:=hR.un;obtain⟨k,u⟩:=hO.drew (w':={w with drawn:=w.drawn+1 }) rfl rfl rfl rfl;exact R.keep k hn hdf hS hex u);have k:=v.ok _ (hn (C.r γ) ⟨rfl,rfl,rfl,rfl⟩) y hv hL;rw[<-hq]at k;generalize v.a=va at k;have ok:=co.ok;rw[<-co.O,<-co.F]at k;obtain⟨τ₁,a₁,σ₁,u,G,hw1⟩:=Ci (n:=n) ok va k hG;split at u
   case h_2=>exact u.elim
   rename_i hz;have hR1:=hw1 _ _ hR';obtain⟨s1,X⟩:=σ₁;obtain⟨m1,D,hO1,hn1,hd1,q,I⟩:=hR1.un;let N:Base:=⟨X,m1,D,{w with drawn:=w.drawn+1 }⟩;have hRB:R C.l n N ⟨s1,X⟩ a {w with drawn:=w.drawn+1 }:=⟨m1,D,hO1,hn1,hd1,q,Ext.refl _ _ _ _ _⟩;have E:∀d f w',R C.l n N d f w'->R C.l n C.B d f w':=λd f w' h=>by obtain⟨m2,S2,O,U,g3,g4,g5⟩:=h;exact⟨m2,S2,O,U,g3,g4,I.trans g5⟩
   let S:World->Prop:=λw'=>∀b,D b->w'.heap[b]?=({w with drawn:=w.drawn+1 }:World).heap[b]?;have hS1:∀d f w',R C.l n N d f w'->S w':=λd f w' h b i=>by obtain⟨m2,S2,O,U,g3,g4,g5⟩:=h;exact g5.blk b i
   have Y:∀(j:Nat) (o:Oper),t.toArray[j]?=some o->gY o=true:=λj o ho=>Yu.1 k1 o (Yh (by simpa using ho));have K:∀(j:Nat) (o:Oper) cs b,t.toArray[j]?=some o->o.op≠.select cs b:=λj o cs b ho he=>by have:=Y j o ho;unfold gY at this;rw[he]at this;cases this
   let Q2:Exit->Act->World->Prop:=λe f w'=>∃d,Is n C (match e with|.normal=>Q .normal|_=>λ_=>False) d/\R C.l n C.B d f w';have hpl:El P t Q2 S π a {w with drawn:=w.drawn+1 }:=(by refine Zrl (ok.ren γ) hT (B:=N) hS1 (λτ' env' f d act' w' k1 k2 k3=>?_) π [] a₁ τ₁ ⟨s1,X⟩ a _ u G hRB;obtain⟨σ₂,O,U⟩:=P6 (n:=n) k2;obtain⟨τ₃,a₃,σ₃,f1,f2,f3⟩:=Ci (n:=n) ok f k1 O;obtain⟨γ',τ₄,σ₄,j0,j1,j2,j3⟩:=Ii (n:=n) ok f1 hg f2;exact⟨σ₄,⟨γ',τ₄,σ₄,j0,j1,j2,Wk.refl _⟩,j3 _ _ (f3 _ _ (U _ _ (E _ _ _ k3)))⟩);have hF:∀z∈Z,∃b,pb (a.eval (.tmp z))=some b/\D b/\EZ {w with drawn:=w.drawn+1 } b:=λz hz'=>by
    obtain⟨x,ds,off,e⟩:=nQ hz z hz';have hsz:s1 z=.iptr (x::ds) off:=(by have:=(G.s z).1 A8;simp only at this;rw[this,e];simp[ren]);have hx:=q z;rw[hsz]at hx;show∃b,pb (a.tmps.getD z Go.undef)=some b/\_;generalize a.tmps.getD z Go.undef=vv at hx;cases hx with
    |iptr _ _ ad c i hc hr=>
     refine⟨(ad.add off).block,rfl,by rw[block_add];exact i,?_⟩;rw[block_add];have V:=hc 0 x rfl;simp only[World.cell?]at V;have hbk:(ad.add 0).block=ad.block:=block_add _ _;rw[hbk]at V;split at V
     ·rename_i C0 e0 f0 hh;exact⟨C0,e0,f0,hh⟩
     ·cases V
   have hw:=Zus (P:=P) (L:=t) (Q:=Q2) (S:=S) (β:=λz=>(pb (a.eval (.tmp z))).getD 0) (F:=λb=>D b/\EZ {w with drawn:=w.drawn+1 } b) (w0:={w with drawn:=w.drawn+1 }) (λb w' i hS=>hS b i.1) (λb i=>i.2) K
    (λc a w ⟨d,⟨_,_,_,_,J,_⟩,_⟩=>J) (λ⟨a,w,d,⟨_,_,_,_,J,_⟩,_⟩=>J) π (Z.map λz=>(z,z)) [] (Array.replicate t.toArray.size false) a {w with drawn:=w.drawn+1 } (by simp) (λj hj=>by simp[hj]) (λx hx=>by cases hx)
    (λm om hm hl=>by have:(Array.replicate t.toArray.size false).getD m false=false:=(by simp only[Yz,Array.getElem?_replicate];split<;>rfl);rw[this]at hl;cases hl) (by simpa using k3)
    (λp hp=>by obtain⟨z,M,rfl⟩:=YV.1 hp;obtain⟨b,b1,b2⟩:=hF z M;simp only[b1,YI];exact b2)
    (λp hp b i=>by obtain⟨z,M,rfl⟩:=YV.1 hp;simp only at i;simp only[i,YI]) (λb i=>rfl) hpl
   have hs:π.len=t.toArray.size:=(by simpa using Ye k2);rw[hs]at hw;refine wp_mono (wp_region_held hm' (hw.1 k4)) λe f w' ⟨d,k,u⟩=>⟨d,?_,u⟩;cases e with
   |normal=>exact k
   |_=>obtain⟨_,_,_,_,J,_⟩:=k;exact J.elim
 |_=>cases W
@[reducible] def tw(a b:PT os β):PT os β:=⟨.br a.a b.a,λE=>a.q E/\b.q E,a.m,λE=>a.n E/\b.n E/\(∀y,a.m=some y->b.m=some y),λE c y hm d=>⟨a.ok E c.1 y hm d,b.ok E c.2.1 y (c.2.2 y hm) d⟩⟩
@[reducible] def du(k:PT os β):PT os β:=⟨.br k.a k.a,λE=>k.q E/\k.q E,k.m,k.n,λE b y hm a=>⟨k.ok E b y hm a,k.ok E b y hm a⟩⟩
theorem gc{C:Cx}{r:Ren}(g:Gd C r):∀{Av:List (Ad×Blk)},DT os Av=true->FF C Av->Jj r Av
 |[],_,_=>trivial
 |(k,b)::t,c,h=>by
  simp only[DT,Yb]at c;obtain⟨⟨⟨e,i⟩,j⟩,d⟩:=c;unfold Jj;unfold FF at h;rcases GG e with a|⟨a,f⟩
  ·rw[a]at h⊢;exact gc g d h
  ·rw[a]at h⊢;exact⟨⟨a,by rw[g.no,g.κ];exact h.1⟩,gc g d h.2⟩
@[reducible] def ch{γ:Type}[Inhabited γ](P:Program)(f:FuncId)(xs:List AV)(ks:List Ad)(d:List (Ad×Blk))(M:Option γ)(e:γ->AV)(Av:γ->List (Ad×Blk))(k:γ->PT os β)(b:∀z,DT os (Av z)=true:=by intro z;kernel_rfl):PT os β:=
 ⟨.hard (e (M.getD default)) ks (Av (M.getD default)) [] (k (M.getD default)).a,λE=>IL P E.l E.r f xs d (e (M.getD default)) (Av (M.getD default)) []/\Jj E.r (Av (M.getD default))/\(k (M.getD default)).q E,M.bind λy=>(k y).m,
 λE=>(∀y,M=some y->IL P E.C.l E.E.r f xs d (e y) (Av y) [])/\(∀y,FF E.C (Av y))/\∀y,(k y).n E,λE a y hm i=>by
  obtain⟨x,c,g⟩:=bind_some hm;have h:M.getD default=x:=by rw[c];rfl
  rw[h];exact⟨by rw[E.hl];exact a.1 x c,gc E.g (b x) (a.2.1 x),(k x).ok E (a.2.2 x) y g i⟩⟩
end
section
variable {os:Nat} {β α:Type} [Rw α]
abbrev ZP(xs:List α)(off cn:Nat)(z:List AV):List AV:=(Ac Rw.e xs).take (off*Rw.s α)++(List.replicate cn z).flatten++(Ac Rw.e xs).drop ((off+cn)*Rw.s α)
@[reducible] def cr(xs:List α)(off cn:Nat)(z:List AV)(k:PT os β):PT os β:=⟨.cs (ZP xs off cn z) k.a,λE=>aL (Ac Rw.e xs) off cn (Rw.s α) z (ZP xs off cn z)/\k.q E,
 if off+cn<=xs.length then k.m else none,k.n,λE c y hm b=>by obtain⟨a,hm⟩:=BB hm;exact⟨Zv0 Rw.len a,k.ok E c y hm b⟩⟩
@[reducible] def W5(q:Nat)(xs:List α)(off cn:Nat)(z:List AV)(k:PT os β)(d:Nat.ble (q+1) os=true:=by kernel_rfl):PT os β:=⟨.trim (0,q) (Ac Rw.e (xs.take off)) k.a,λE=>(∃m,(ZP xs off cn z).take m=Ac Rw.e (xs.take off))/\Mj E.r (0,q)/\k.q E,
 if off<=xs.length then k.m else none,k.n,λE c y hm b=>by obtain⟨a,hm⟩:=BB hm;exact⟨ZxA Rw.len a,⟨rfl,by rw[E.g.no,E.g.κ];exact E.co.W q (Yj d)⟩,k.ok E c y hm b⟩⟩
end
theorem lfx{P:AV->List Blk->Prop}{v a:AV}{B:List Blk}(e:v=a)(h:P a B):P v B:=e▸h
theorem Ji{A B:Prop}(b:A->B)(a:A):B:=b a
def gF(a fr:List Nat)(δ:Nat->Nat):Ad->Nat
 |(0,i)=>match fr.any (Nat.beq i)with|true=>δ i|false=>HT a (0,i)
 |(_+1,_)=>0
def rF(l:Nat)(ks:List Ad)(a fr:List Nat)(δ:Nat->Nat)(H:Hp):Ren:=⟨Ed l ks,gF a fr δ,λ_=>.top,H,λk=>k∈ks⟩
def Jo(κ:Ad->Ad):List (Nat×Nat)->Prop
 |[]=>True
 |(a,b)::t=>(κ (0,a)).1<=(κ (0,b)).1/\Jo κ t
structure KG (P:Program) (f:FuncId) (os:Nat) (fr:List Nat) (lv:List (Nat×Nat)) (ys:List AV) (bi:List Blk) {γ:Type} (M:Option γ) (e:γ->AV) (bs:γ->List Blk):Prop where
 k:∀l H (ks:List Ad) (gs:List Nat),ks.length=os->Ko l ks->ks.Nodup->KH H (Cv l ks gs (λ_=>.top) H) (DF 0 bi) 0 ks->Jo (Ed l ks) lv->∀y,M=some y->
  Zc0 P f l (Ao (Cv l ks gs (λ_=>.top) H) ys) H (λz H'=>∃δ,z=ren (rF l ks gs fr δ H) (e y)/\H'=DU H ks (C4 (rF l ks gs fr δ H) 0 (bs y)))
theorem gM{P:Program}{T:Nat->Option TI}{n:Nat}{f:FuncId}{fn:Func}{ys:List AV}{bi:List Blk}{γ:Type}{M:Option γ}{e:γ->AV}{bs:γ->List Blk}(R:P.funcs[f]?=some fn)(W:fn.ntmps=n)(O:Ba P T)(w:List ResultVar)(os:Nat)(fr fx:List Nat)(lv:List (Nat×Nat))
  (h:∀C:Cx,COx C os fx->Jo C.κ lv->∀y,M=some y->∀a:AV->List Blk->Prop,HL (λy=>a (e y) (bs y)) y->LW P n C (pa [] (At fn)) (Ab (DQ 0 ys) (DF 0 bi)) (FQ T w os a))
  (o:(JA os).all (λi=>fr.any (Nat.beq i)||fx.any (Nat.beq i))=true:=by kernel_rfl)
  (he:∀y,Ku os (e y)=true:=by intro y;kernel_rfl) (x:∀y,Gj os (bs y):=by intro y;repeat(first|exact trivial|refine⟨.inl (Ff _ _),rfl,?_⟩|refine⟨.inl Ka,rfl,?_⟩|refine⟨.inr aC,rfl,?_⟩)) (hl:∀y,(bs y).length=os:=by intro y;rfl) (d:IY os (DF 0 bi)=true:=by kernel_rfl)
  (Q:fn.body=some (At fn):=by kernel_rfl) (c:(fn.name== "runtime.NumGoroutine")=false:=by kernel_rfl) (X:fn.results.toList=w:=by kernel_rfl) (hx:Nat.ble ys.length n=true:=by kernel_rfl):KG P f os fr lv ys bi M e bs:=
 ⟨λl H ks m p g t K s y hy=>by
  subst p;refine qX w (At fn) ks m fx (λ_=>.top) ys (DF 0 bi) (λz b=>z=e y/\b=bs y) R Q c W X (by rw[CR];exact Yj hx) O (US g) t (dT d) (fc d) (λi k U=>by have:=fR K i k U;rw[YX]at this;exact this) rfl (λC I N J V L hθ B u=>?_) λz b ⟨D,E⟩=>?_
  ·refine h C ⟨I,N,J,λq A=>?_⟩ (by rw[B];exact s) y hy _ ⟨rfl,rfl⟩;rw[u,B];show(match Bl ks q with|some k=>k|none=>(0,0))∈ks;rw[Cp,Yd ae];exact Hc _
  ·subst D;subst E;refine⟨hl y,(x y).live,λr F Y Z h4 G=>⟨λi=>r.γ (0,i),?_⟩⟩;have hs:N5 ks.length r (rF l ks m fr (λi=>r.γ (0,i)) H):=λq A=>by
    refine⟨by rw[F];rfl,?_⟩;show r.γ (0,q)=match fr.any (Nat.beq q)with|true=>r.γ (0,q)|false=>HT m (0,q)
    cases v:fr.any (Nat.beq q)with
    |true=>rfl
    |false=>
     have:=Yu.1 o q (Uq A);rw[v,Gq]at this;obtain⟨j,S,e⟩:=YU.1 this;have:=Ye e;subst this;exact G q S
   exact⟨eT hs _ (he y),by rw[Gj.ren hs _ _ (by rw[hl];omega) (x y)]⟩⟩
def gB(r:Ren)(fr:List Nat)(δ:Nat->Nat):Nat->List (Ad×Blk)->Ad->Nat
 |_,[],k=>r.γ k
 |i,(q,_)::t,k=>match fr.any (Nat.beq i),BD k q with|true,true=>δ i|_,_=>gB r fr δ (i+1) t k
def HR(fr:List Nat):Nat->List (Ad×Blk)->List Ad
 |_,[]=>[]
 |i,(q,_)::t=>match fr.any (Nat.beq i)with|true=>q::HR fr (i+1) t|false=>HR fr (i+1) t
theorem fL{r:Ren}{fr:List Nat}{δ:Nat->Nat}{k:Ad}:∀(a:List (Ad×Blk)) (i:Nat),k∉HR fr i a->gB r fr δ i a k=r.γ k
 |[],i,_=>rfl
 |(q,b)::t,i,h=>by
  simp only[HR]at h;simp only[gB];cases c:fr.any (Nat.beq i)with
  |false=>rw[c]at h;exact fL t (i+1) h
  |true=>
   rw[c]at h;simp only[Yy,not_or]at h;have:BD k q=false:=by
    cases d:BD k q with
    |false=>rfl
    |true=>exact absurd (Cw.1 d) h.1
   rw[this];exact fL t (i+1) h.2
def rB(r:Ren)(fr:List Nat)(δ:Nat->Nat)(a:List (Ad×Blk)):Ren:=⟨r.κ,gB r fr δ 0 a,r.θ,r.H0,r.no⟩
section
variable {P:Program} {f:FuncId} {os os':Nat} {fr fx:List Nat} {lv:List (Nat×Nat)} {ys:List AV} {bi:List Blk} {γ:Type} {M:Option γ} {e:γ->AV} {bs:γ->List Blk} {C:Cx} {r:Ren} {xs:List AV} {x:AV} {y:γ}
theorem ZvC(K:KG P f os fr lv ys bi M e bs)(hy:M=some y)(co:COx C os' fx)(g:Gd C r)(a u c:List (Ad×Blk))(o:Jo (Ed (C.l+1) ((a.map (·.1)).map r.κ)) lv)
  (n:∀H,BE (rC C r a (λ_=>.top) H) r 0 bi a) (i:∀H δ,BE (rF (C.l+1) ((a.map (·.1)).map r.κ) (Fw r a) fr δ H) (rB r fr δ a) 0 (bs y) c) (l:(bs y).all Blk.live=true:=by kernel_rfl) (hx:∀H,Ao (rC C r a (λ_=>.top) H) ys=Ao r xs:=by intro H;kernel_rfl)
  (t:∀H δ,ren (rF (C.l+1) ((a.map (·.1)).map r.κ) (Fw r a) fr δ H) (e y)=ren (rB r fr δ a) x:=by intro H δ;kernel_rfl)
  (d:((a.map (·.1)).all (BH os')&&Hr (a.map (·.1))&&Nat.beq a.length os)=true:=by kernel_rfl) (he:a.map (·.1)=c.map (·.1):=by rfl):IL P C.l r f xs (a++u) x c (HR fr 0 a):=by
 have q:∀b∈bs y,b.live=true:=λb B=>Yu.1 l b B;have m:∀p∈a,p∈a++u:=λp s=>Ib _ s;intro h D E;simp only[Yb]at d;have:=K.k (C.l+1) h ((a.map (λp:Ad×Blk=>p.1)).map r.κ) (Fw r a) (by rw[YF,YF];exact Ye d.2) (NP co g _ d.1.1) (P5 (Vl co g) _ d.1.2 d.1.1)
  (QJ bi a 0 bi (λj=>by have:=Qf bi 0 j;rwa [YX]at this⊢) (n h) λp s=>D p (m p s)) o y hy
 rw[<-hx h];refine this.mono λz v ⟨δ,w,A⟩=>⟨gB r fr δ 0 a,λk d=>fL a 0 d,w.trans (t h δ),A.trans ?_⟩;exact eD (r:=rB r fr δ a) (bs y) a c 0 h (i h δ) q he
end
section
variable {P:Program} {T:Nat->Option TI} {n:Nat} {C:Cx} {τ:St} {Q:Exit->St->Prop} {os k:Nat} {c:Code} {β:Type} {L:β->Prop} {y:β} {fx:List Nat}
theorem ZJ5{r:Ren}(co:COx C os fx)(g:Gd C r)(a b:Nat):(r.κ (1,a)).1<=(r.κ (1,b)).1:=by rw[g.κ,co.ok.own,co.ok.own];exact Yf _
theorem jF{r:Ren}{a b:Nat}(g:Gd C r)(h:(C.κ (0,a)).1<=(C.κ (0,b)).1):(r.κ (0,a)).1<=(r.κ (0,b)).1:=by rw[g.κ];exact h
theorem ZNj{r:Ren}{a b:Nat}(g:Gd C r)(h:Jo C.κ [(a,b)]):(r.κ (0,a)).1<=(r.κ (0,b)).1/\True:=⟨jF g h.1,trivial⟩
theorem z7{r:Ren}{a b:Nat}{t:List (Nat×Nat)}(g:Gd C r)(h:Jo C.κ ((a,b)::t)){c off m:Nat}:Ge r (0,b) [.ref (0,a) c off m]:=by unfold Ge;simp only[Ao,ren,Ju,List.all_nil,H2,AV.low];have:=jF g h.1;simpa using this
@[reducible] def vwl(q:Nat)(vs:List AV)(k:PT os β)(c:Nat.ble (q+1) os=true:=by kernel_rfl):PT os β:=
 ⟨k.a,λE=>Mj E.r (0,q)/\Ge E.r (0,q) vs/\k.q E,k.m,λE=>Ge E.E.r (0,q) vs/\k.n E,λE a y hm b=>⟨⟨rfl,by rw[E.g.no,E.g.κ];exact E.co.W q (Yj c)⟩,a.1,k.ok E a.2 y hm b⟩⟩
theorem Bn{γ:Type}{M:Option γ}{kk:γ->Option β}{ss:List (Nat×AV)}{hs:List (Ad×Blk)}{f:FuncId}{os':Nat}{fr:List Nat}{lv:List (Nat×Nat)}{ys:List AV}{bi:List Blk}{e0:γ->AV}{bs:γ->List Blk}(co:COx C os fx)(hm:M.bind kk=some y)(K:KG P f os' fr lv ys bi M e0 bs)
  (a b:List (Ad×Blk)) (e:γ->AV) (Av:γ->List (Ad×Blk)) (fl:List Ad)
  (h:∀z,kk z=some y->LO P n C c (k+1) (Ab (HD (F4 c k) (e z) (Ej (HR fr 0 a) ss)) (Av z++Dc ((Av z).map (·.1)) (HR fr 0 a) fl hs)) Q)
  (m:∀r,Gd C r->Jo (Ed (C.l+1) ((a.map (·.1)).map r.κ)) lv:=by
   intro r g
   first
   |exact⟨ZJ5 ‹_› g _ _,trivial⟩
   |exact ZNj g (by assumption)
   |exact trivial)
  (xs:List AV:=[]++(Hy c k).map (ev (Az ss))++[])
  (s:∀z,FF C (Av z):=by intro z;repeat(first|exact trivial|refine⟨COx.W ‹_› _ (by decide),?_⟩))
  (j:Kr (AB hs) fl:=by repeat(first|exact trivial|refine⟨Ff _ _,?_⟩))
  (i:∀r H,BE (rC C r a (λ_=>.top) H) r 0 bi a:=by
   intro r H
   repeat(first|exact trivial|refine⟨λ_=>⟨rfl,GB (Ff _ _) aC⟩,aC,?_⟩|refine⟨λ_=>⟨rfl,GB Ka aC⟩,aC,?_⟩|refine⟨λ_=>⟨rfl,aC⟩,aC,?_⟩))
  (d:∀z r H δ,BE (rF (C.l+1) ((a.map (·.1)).map r.κ) (Fw r a) fr δ H) (rB r fr δ a) 0 (bs z) (Av z):=by
   intro z r H δ
   repeat(first|exact trivial|refine⟨λ_=>⟨rfl,GB (Ff _ _) aC⟩,aC,?_⟩|refine⟨λ_=>⟨rfl,GB Ka aC⟩,aC,?_⟩|refine⟨λ_=>⟨rfl,aC⟩,aC,?_⟩))
  (hx:∀r H,Ao (rC C r a (λ_=>.top) H) ys=Ao r xs:=by intro r H;kernel_rfl) (t:[]++(Hy c k).map (ev (Az ss))++[]=xs:=by kernel_rfl) (u:∀z r H δ,ren (rF (C.l+1) ((a.map (·.1)).map r.κ) (Fw r a) fr δ H) (e0 z)=ren (rB r fr δ a) (e z):=by intro z r H δ;kernel_rfl)
  (q:Ht c k=some (F4 c k,callF c k,Hy c k):=by kernel_rfl) (E:ev (Az ss) (callF c k)=.fn (.func f) [] []:=by kernel_rfl)
  (l:(((a++b).map (·.1)).map λk=>(k,AB hs k))=a++b:=by kernel_rfl) (o:∀z,(bs z).all Blk.live=true:=by intro z;kernel_rfl) (he:∀z,a.map (·.1)=(Av z).map (·.1):=by intro z;rfl)
  (F:((a.map (·.1)).all (BH os)&&Hr (a.map (·.1))&&Nat.beq a.length os')=true:=by kernel_rfl)
  (p:∀z,(DT os (Av z)&&Mw (HR fr 0 a) (Av z)&&NQ (HR fr 0 a) fx&&Iy hs&&Og n (F4 c k)&&((a++b).map (·.1)).all (BH os))=true:=by intro z;kernel_rfl):LO P n C c k (Ab ss hs) Q:=by
 obtain⟨z,B,D⟩:=bind_some hm;exact se co.ok co.O co.F f [] [] xs q E t _ (a++b) l (e z) (Av z) (HR fr 0 a) fl (p z) (s z) j (λr v w x A=>ZvC K B co ⟨v,w,x,A⟩ a b (Av z) (m r ⟨v,w,x,A⟩) (λH=>i r H) (λH δ=>d z r H δ) (o z) (λH=>hx r H) (λH δ=>u z r H δ) F (he z)) (h z D)
def n1(m:Nat):Code->Bool
 |.region _ ops true=>Nat.beq ops.toList.length (m+1)&&WF ops.toList&&(Ix m ops.toList).all (λo=>Db o||B4 o)&&Ma ops.toList 0 ops.toList&&(JA m).all (λi=>QE ops.toList i ops.toList.length m)
 |_=>false
theorem Fx(co:COx C os fx)(hT:Ba P T)(A:P.follows .mixedOrders=true)(m:Nat)(v:PT os β)(lf:Lf)(hv:v.m=some y)(Z:HL L y)(hn:∀r (g:Gd C r),v.n ⟨⟨C.l,r,λ_ τ'=>LO P n C c m τ' Q,λ_ _=>False⟩,L,C,_,co,g,rfl⟩)
  (hq:∀l r Q h,A9 r os v.a τ (λτ a=>Hu P T l n r ((B6 c).toList.map (·.dst)) (Ix m (B6 c).toList) [] a (λτ' env f=>A9 r os f (DS env τ') (λτ _=>Ei fx lf τ (Q .normal))) τ)=v.q ⟨l,r,Q,h⟩:=by intro l r Q P;kernel_rfl)
  (t:n1 m c=true:=by kernel_rfl):LW P n C c τ Q:=by
 cases c with
 |region id ops N=>
  cases N with
  |false=>cases t
  |true=>
   obtain⟨Lf,rfl⟩:∃l:List Oper,ops=l.toArray:=⟨ops.toList,by simp⟩;simp only[n1,Yb,UC]at t;obtain⟨⟨⟨⟨G,H⟩,E⟩,I⟩,J⟩:=t;have G:=Ye G;have s:∃o,Lf.drop m=[o]:=List.length_eq_one_iff.1 (by rw[Dz];omega);obtain⟨o,s⟩:=s;have b:Lf=Lf.take m++[o]:=(by rw[<-s,H9]);have z:(Lf.take m).length=m:=(by rw[YD];omega);intro γ σ hg Y a w hR;have q:=v.ok _ (hn (C.r γ) ⟨rfl,rfl,rfl,rfl⟩) y hv Z;rw[<-hq]at q;generalize v.a=va at q;have ok:=co.ok;rw[<-co.O,<-co.F]at q;obtain⟨τ₁,M,K,F,u,D⟩:=Ci (n:=n) ok va q Y;simp only[B6,UC,List.toList_toArray]at F H E I J;have k:=Zst (P:=P) (n:=n) (B:=C.B) (id:=id) (L:=Lf.take m) (o:=o) (σ:=K) (a:=a) (w:=w) (QQ:=λe f w'=>∃p,Is n C (Q e) p/\R C.l n C.B p f w')
    (X:=λp=>∃τ' d f,A9 (C.r γ) C.outs f (DS d τ') (λτ _=>Ei C.fx lf τ (λτ'=>LO P n C (.region id Lf.toArray true) m τ' Q))/\RG (C.r γ) C.l C.outs d τ' p) A (qQ (by rw[<-b];exact H)) E (by rw[<-b];exact I)
    (λi hi=>by rw[<-b,z];exact dy _ _ (Yu.1 J i (Uq ae))) (by rw[<-b];exact Nr (ok.ren γ) hT _ [] M τ₁ K E F u) (λp j w' x ⟨τ',d,f,f1,f2⟩=>?_) (D _ _ hR)
   ·rw[<-b]at k;exact k
   ·obtain⟨σ₂,V,W⟩:=P6 (n:=n) f2;obtain⟨τ₃,a₃,σ₃,O,S,U⟩:=Ci (n:=n) ok f f1 V;obtain⟨γ',τ₄,σ₄,j0,j1,j2,j3⟩:=Ii (n:=n) ok O hg S;have:=j1 γ' σ₄ j w' j0 j2 (j3 _ _ (U _ _ (W _ _ x)));simp only[B6,List.toList_toArray,s]at this;rw[<-b];exact this
 |_=>cases t
end
end Go.Eng
